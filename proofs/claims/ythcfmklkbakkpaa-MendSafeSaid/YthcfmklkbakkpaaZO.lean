/-
  MendSafe: what is wanted is safe; what is known of bad ones.
  MendSafe: one answer.
  MendSafe on the machine: true, whatever answers it is handed.
  MendSafe on the machine: true, whatever answers it is handed.
-/
import Derived.Test.YthcfmklkbakkpaaZN
set_option linter.unusedVariables false
set_option linter.unusedSimpArgs false
namespace Go.Proofs.Ythcfmklkbakkpaa
noncomputable section
open Go Go.RowKit Go.ChangeShapes
set_option maxRecDepth 100000
def BadI (m : MD) (bs : List Bool) : Prop := ∀ j, j < m.marks.length → (m.marks.getD j mm0).kd = 4 → bs.getD j false = true
theorem Jp {m : MD} {w : Int × Int × Int} (h : w ∈ CB m) : m.ph = 1 ∧ ∃ j, j < m.marks.length ∧ Cr m j = true ∧ w = BL m j := by
  unfold CB at h
  split at h
  · rename_i hp
    refine ⟨hp, ?_⟩
    unfold Dk at h
    obtain ⟨j, hj, hw⟩ := List.mem_filterMap.1 h
    split at hw
    · rename_i hb
      exact ⟨j, List.mem_range.1 hj, hb, (Option.some.inj hw).symm⟩
    · cases hw
  · cases h
structure SafeW (m : MD) (bs : List Bool) (w : Int × Int × Int) : Prop where
  idx : ∃ j : Nat, j < m.marks.length ∧ w.1 = (j : Int) ∧ (w.2.1 = 6 → 0 < m.ver → bs.getD j false = true)
  op : w.2.1 = 4 ∨ w.2.1 = 3 ∨ w.2.1 = 6 ∨ w.2.1 = 2 ∨ w.2.1 = 1
  abort : w.2.1 = 3 → m.ver < w.2.2
  drop : w.2.1 = 6 → 0 < m.ver → w.2.2 = m.ver ∧ m.need ≤ (m.which.length : Int)
  prep : w.2.1 = 1 → w.2.2 = m.ver
theorem NV {m : MD} {bs : List Bool} (hr : RightP m) (hb : BadI m bs) {w : Int × Int × Int} (h : w ∈ CB m) : SafeW m bs w := by
  obtain ⟨hp, j, hj, hw, rfl⟩ := Jp h
  have hk := hr.marks j hj
  by_cases c0 : (m.marks.getD j mm0).kd = 0
  · have e : BL m j = ((j : Int), 4, 0) := by unfold BL; rw [if_pos c0]
    rw [e]
    exact ⟨⟨j, hj, rfl, fun h => by cases h⟩, .inl rfl, (fun h => by cases h), (fun h => by cases h), (fun h => by cases h)⟩
  · by_cases ce : (m.marks.getD j mm0).ext = []
    · have e : BL m j = ((j : Int), opK (m.marks.getD j mm0).kd, m.ver) := by unfold BL; rw [if_neg c0, if_pos ce]
      rw [e]
      have hkd : (m.marks.getD j mm0).kd = 1 ∨ (m.marks.getD j mm0).kd = 2 ∨ (m.marks.getD j mm0).kd = 3 ∨ (m.marks.getD j mm0).kd = 4 := by have := hk.lo; have := hk.hi; omega
      rcases hkd with h | h | h | h
      · rw [h]; exact ⟨⟨j, hj, rfl, fun h => by cases h⟩, .inl rfl, (fun h => by cases h), (fun h => by cases h), (fun h => by cases h)⟩
      · rw [h]; exact ⟨⟨j, hj, rfl, fun h => by cases h⟩, .inr (.inr (.inr (.inl rfl))), (fun h => by cases h), (fun h => by cases h), (fun h => by cases h)⟩
      · rw [h]; exact ⟨⟨j, hj, rfl, fun h => by cases h⟩, .inr (.inr (.inr (.inr rfl))), (fun h => by cases h), (fun h => by cases h), fun _ => rfl⟩
      · have hn : m.need ≤ (m.which.length : Int) := by
          unfold Cr at hw
          rw [if_neg c0, if_pos ce, if_neg (by omega), if_neg (by omega)] at hw
          simpa using hw
        have hbj := hb j hj h
        rw [h]; exact ⟨⟨j, hj, rfl, fun _ _ => hbj⟩, .inr (.inr (.inl rfl)), (fun h => by cases h), fun _ _ => ⟨rfl, hn⟩, (fun h => by cases h)⟩
    · have e : BL m j = ((j : Int), if m.ver = 0 then 6 else 3, FK (m.marks.getD j mm0).ext) := by unfold BL; rw [if_neg c0, if_neg ce]
      rw [e]
      have hl := Lu hk.rise _ (LG ce)
      by_cases hv : m.ver = 0
      · rw [if_pos hv]
        exact ⟨⟨j, hj, rfl, fun _ h => by omega⟩, .inr (.inr (.inl rfl)), (fun h => by cases h), (fun _ h => by omega), (fun h => by cases h)⟩
      · rw [if_neg hv]
        exact ⟨⟨j, hj, rfl, fun h => by cases h⟩, .inr (.inl rfl), fun _ => hl.1, (fun h => by cases h), (fun h => by cases h)⟩
theorem N1 (m : MD) : (F1 m).marks = m.marks := by
  unfold F1
  split
  · split
    · rfl
    · split <;> rfl
  · rfl
theorem LL (m : MD) (i : Nat) (l : List Nat) : (C6 m i l).marks.length = m.marks.length := by
  unfold C6
  split
  · split
    · show (m.marks.set i _).length = _; rw [List.length_set]
    · show (m.marks.set i _).length = _; rw [List.length_set]
  · rfl
theorem Oo {m m1 : MD} {i : Nat} {err : Int} {l : List Nat} (h : Hw m i err l m1) : m1.marks.length = m.marks.length := by
  rcases h with rfl | rfl | ⟨k, rfl, _⟩ | ⟨rfl, _⟩
  · rfl
  · rfl
  · show (m.marks.set i k).length = _; rw [List.length_set]
  · exact LL _ _ _
theorem QU {m m' : MD} {w : Int × Int × Int} {err c : Int} {l : List Nat} (h : NZ m w err l m' c) : m'.marks.length = m.marks.length := by
  rcases h with ⟨_, rfl, _⟩ | ⟨i, _, _, _, ⟨_, rfl⟩ | ⟨_, m1, hT, rfl⟩⟩
  · rfl
  · rfl
  · rw [N1]; exact Oo hT
theorem QT (m : MD) (i : Nat) : (DJ m i).marks.length = m.marks.length := by
  unfold DJ
  split
  · show (m.marks.set i mm0).length = _; rw [List.length_set]
  · rfl
def FB (err op : Int) : Bool := (decide (err = 12) && decide (op = 4)) || (decide (err = 60) && decide (op = 1))
def Jy (m : MD) (bs : List Bool) (w : Int × Int × Int) (err : Int) : List Bool := if (0 ≤ w.1 ∧ w.1 < m.marks.length) ∧ FB err w.2.1 = true then bs.set w.1.toNat true else bs
theorem IL {l : List Bool} {i j : Nat} {w : Bool} (hi : i < l.length) : (l.set i w).getD j false = if i = j then w else l.getD j false := by
  rw [List.getD_eq_getElem?_getD, List.getElem?_set]
  by_cases h : i = j
  · subst h
    rw [if_pos rfl, if_pos hi, if_pos rfl]; rfl
  · rw [if_neg h, if_neg h, List.getD_eq_getElem?_getD]
theorem D3 {m : MD} {bs : List Bool} {w : Int × Int × Int} {err : Int} {j : Nat} (hl : bs.length = m.marks.length) (h : bs.getD j false = true) : (Jy m bs w err).getD j false = true := by
  unfold Jy
  split
  · rename_i hc
    rw [IL (by omega)]
    split
    · rfl
    · exact h
  · exact h
theorem Po {m m' : MD} {bs : List Bool} {w : Int × Int × Int} {err c : Int} {l : List Nat} (hl : bs.length = m.marks.length) (hb : BadI m bs) (h : NZ m w err l m' c) : BadI m' (Jy m bs w err) := by
  rcases h with ⟨_, rfl, _⟩ | ⟨i, hi, hiw, _, ⟨_, rfl⟩ | ⟨⟨_, _, he⟩, m1, hT, rfl⟩⟩
  · exact fun j hj hk => D3 hl (hb j hj hk)
  · exact fun j hj hk => D3 hl (hb j hj hk)
  · intro j hj hk
    rw [N1] at hj hk
    rcases hT with rfl | rfl | ⟨k, rfl, _, h4⟩ | ⟨rfl, _⟩
    · exact D3 hl (hb j hj hk)
    · exact D3 hl (hb j hj hk)
    · have hj : j < (m.marks.set i k).length := hj
      rw [List.length_set] at hj
      have hk : ((m.marks.set i k).getD j mm0).kd = 4 := hk
      rw [CP hi] at hk
      by_cases hij : i = j
      · subst hij
        rw [if_pos rfl] at hk
        rcases h4 hk with h4 | ⟨h5, h6⟩ | ⟨h5, h6⟩
        · exact D3 hl (hb i hi h4)
        · have hs : FB err w.2.1 = true := by rw [he, h6, h5]; rfl
          unfold Jy
          rw [if_pos ⟨⟨by omega, by omega⟩, hs⟩, IL (by omega), if_pos (by omega)]
        · have hs : FB err w.2.1 = true := by rw [he, h6, h5]; rfl
          unfold Jy
          rw [if_pos ⟨⟨by omega, by omega⟩, hs⟩, IL (by omega), if_pos (by omega)]
      · rw [if_neg hij] at hk
        exact D3 hl (hb j hj hk)
    · rw [LL] at hj
      have : ((C6 m i l).marks.getD j mm0).kd = 2 ∨ (C6 m i l).marks.getD j mm0 = m.marks.getD j mm0 := by
        unfold C6
        split
        · split
          · show ((m.marks.set i _).getD j mm0).kd = 2 ∨ (m.marks.set i _).getD j mm0 = _
            rw [CP hi]
            split
            · exact .inl rfl
            · exact .inr rfl
          · show ((m.marks.set i _).getD j mm0).kd = 2 ∨ (m.marks.set i _).getD j mm0 = _
            rw [CP hi]
            split
            · exact .inl rfl
            · exact .inr rfl
        · exact .inr rfl
      rcases this with h2 | h2
      · omega
      · rw [h2] at hk; exact D3 hl (hb j hj hk)
theorem Pn {m : MD} {bs : List Bool} {i : Nat} (hi : i < m.marks.length) (hb : BadI m bs) : BadI (DJ m i) bs := by
  unfold DJ
  split
  · intro j hj hk
    have hj : j < (m.marks.set i mm0).length := hj
    rw [List.length_set] at hj
    have hk : ((m.marks.set i mm0).getD j mm0).kd = 4 := hk
    rw [CP hi] at hk
    split at hk
    · cases hk
    · exact hb j hj hk
  · exact hb
def sfW : C := (AE (AC 78) (AO iLt .i64 (AB 77) (AB 76))
(AS (AB 78)
(As (Ab 3 (AE (AC 79) (Ay 3 (AB 75) (AB 77))
(AE (AC 80) (AL 3 (AB 79))
(AE (AC 16) (At 3 C7)
(cDo (AN 3 (AB 16) (AB 80))
(AE (AC 81) (AD 1 (AB 16))
(AE (AC 82) (AH (AB 81))
(AE (AC 83) (AO iEq .u8 (AB 82) (kV (.int .u8 6)))
(cG (AB 83) true (AC 85) (AD 1 (AB 10))
(cG (AB 83) true (AC 86) (AH (AB 85))
(cG (AB 83) true (AC 87) (AO iGt .i64 (AB 86) (kV (.int .i64 0)))
(AE (AC 88) (AP (AB 83) (AB 87) (kV (.bool false)))
(AE (AC 17) (AG (AB 88))
(AE (AC 89) (AD 1 (AB 16))
(AE (AC 90) (AH (AB 89))
(AE (AC 91) (AO iEq .u8 (AB 90) (kV (.int .u8 3)))
(cG (AB 91) true (AC 93) (AD 2 (AB 16))
(cG (AB 91) true (AC 94) (AH (AB 93))
(cG (AB 91) true (AC 95) (AD 1 (AB 10))
(cG (AB 91) true (AC 96) (AH (AB 95))
(cG (AB 91) true (AC 97) (AO iLe .i64 (AB 94) (AB 96))
(AE (AC 98) (AP (AB 91) (AB 97) (kV (.bool false)))
(cG (AB 98) false (AC 100) (AG (AB 17))
(cG (AB 98) false (AC 101) (AG (AB 100))
(cG (AB 101) true (AC 102) (AD 2 (AB 16))
(cG (AB 101) true (AC 103) (AH (AB 102))
(cG (AB 101) true (AC 104) (AD 1 (AB 10))
(cG (AB 101) true (AC 105) (AH (AB 104))
(cG (AB 101) true (AC 106) (AO iNe .i64 (AB 103) (AB 105))
(cG (AB 101) true (AC 107) (AG (AB 106))
(cG (AB 107) false (AC 108) (AG (AB 12))
(cG (AB 107) false (AC 109) (AD 0 (AB 16))
(cG (AB 107) false (AC 110) (AH (AB 109))
(cG (AB 107) false (AC 111) (Ay 1 (AB 108) (AB 110))
(cG (AB 107) false (AC 112) (AH (AB 111))
(cG (AB 107) false (AC 113) (A8 (AB 112))
(cG (AB 101) true (AC 114) (AP (AB 107) (kV (.bool true)) (AB 113))
(cG (AB 101) true (AC 115) (AG (AB 114))
(cG (AB 115) false (AC 116) (AD 5 (AB 10))
(cG (AB 115) false (AC 117) (AH (AB 116))
(cG (AB 115) false (AC 118) (Ak (AB 117))
(cG (AB 115) false (AC 119) (AD 2 (AB 10))
(cG (AB 115) false (AC 120) (AH (AB 119))
(cG (AB 115) false (AC 121) (AO iLt .i64 (AB 118) (AB 120))
(cG (AB 101) true (AC 122) (AP (AB 115) (kV (.bool true)) (AB 121))
(cG (AB 98) false (AC 123) (AP (AB 101) (AB 122) (kV (.bool false)))
(AE (AC 124) (AP (AB 98) (kV (.bool true)) (AB 123))
(cG (AB 124) false (AC 126) (AD 1 (AB 16))
(cG (AB 124) false (AC 127) (AH (AB 126))
(cG (AB 124) false (AC 128) (AO iEq .u8 (AB 127) (kV (.int .u8 1)))
(cG (AB 124) false (AC 129) (AG (AB 128))
(cG (AB 129) true (AC 130) (AD 2 (AB 16))
(cG (AB 129) true (AC 131) (AH (AB 130))
(cG (AB 129) true (AC 132) (AD 1 (AB 10))
(cG (AB 129) true (AC 133) (AH (AB 132))
(cG (AB 129) true (AC 134) (AO iNe .i64 (AB 131) (AB 133))
(cG (AB 124) false (AC 135) (AP (AB 129) (AB 134) (kV (.bool false)))
(AE (AC 136) (AP (AB 124) (kV (.bool true)) (AB 135))
(AS (AB 136)
(AE (AC 8) (AG (kV (.bool false)))
Aj)
AU)))))))))))))))))))))))))))))))))))))))))))))))))))))))))))
(AE (AC 137) (BD .i64 (Au .i64) (AB 77) (kV (.int .i64 1)))
(AE (AC 77) (AG (AB 137))
AU)))
(A3 2)))
theorem Pb : B6 .mt 0 [.int .i64 0, .bool false, .bool false, .int .i64 0, .int .u8 0, .int .i64 0, .int .i64 0, .int .i64 0, .int .u8 0, .int .i64 0, BA, BA, .int .i64 0] = some NY := by kernel_rfl
theorem Uk {F : CallF} {h : Hp} (W : h.Wf) {k b10 b12 : Nat} {m : MD} {um uw us v : Value} {S : Nat → Prop} {bs : List Bool} {N : Nat} (hr : RightP m) (M : h.Md S m um uw us) (R10 : h.Row b10 0 (mendL m um uw us)) (R12 : h.Row b12 0 (bs.map .bool)) (hbs : bs.length = m.marks.length) (hN : N = m.marks.length) (E : h.Errs k v (CB m)) (hb : BadI m bs) {e : Env} (s10 : AB 10 e = pt b10) (s12 : AB 12 e = .slice (some ⟨b12, 0, none⟩) N N) (s75 : AB 75 e = v) (s76 : AB 76 e = .int .i64 ((CB m).length : Int)) (s77 : AB 77 e = .int .i64 ((0 : Nat) : Int)) :
    ∃ e' h', A0 sfW F e h = .exit 2 e' h' ∧ h.Ext h' ∧ (∀ i, i ∈ [3, 9, 10, 12, 13, 14] → AB i e' = AB i e) := by
  have nb := hr.n1
  have hlen : (CB m).length ≤ 255 := by
    unfold CB
    split
    · have := FF m m.marks.length; omega
    · simp
  refine B7 (I := fun i e' h' => h.Ext h' ∧ i ≤ (CB m).length ∧ AB 10 e' = pt b10 ∧ AB 12 e' = .slice (some ⟨b12, 0, none⟩) N N ∧ AB 75 e' = v ∧ AB 76 e' = .int .i64 ((CB m).length : Int) ∧ AB 77 e' = .int .i64 (i : Int) ∧ AB 3 e' = AB 3 e ∧ AB 9 e' = AB 9 e ∧ AB 13 e' = AB 13 e ∧ AB 14 e' = AB 14 e)
    (Q := fun x => ∃ e' h', x = .exit 2 e' h' ∧ h.Ext h' ∧ (∀ i, i ∈ [3, 9, 10, 12, 13, 14] → AB i e' = AB i e)) (CB m).length (by omega) (fun i e' h' ⟨x, hi, t10, t12, t75, t76, t77, t3, t9, t13, t14⟩ => ?_) ⟨.refl W, Nat.zero_le _, s10, s12, s75, s76, s77, rfl, rfl, rfl, rfl⟩
  by_cases hlt : i < (CB m).length
  · left
    have c1 := GE hlt
    obtain ⟨b, a1, a2⟩ := (E.ext W x).at hlt
    have hmem : (CB m).getD i (0, 0, 0) ∈ CB m := by
      rw [List.getD_eq_getElem?_getD, List.getElem?_eq_getElem hlt]
      exact List.getElem_mem hlt
    have SW := NV hr hb hmem
    generalize (CB m).getD i (0, 0, 0) = w at a2 SW
    obtain ⟨j, hj, hjw, hjb⟩ := SW.idx
    obtain ⟨h1, al, Z, x1, n1⟩ := Bm x.wf (n := 3) EU rfl
    have big := x.wf.big
    obtain ⟨h2, st, Z2, x2, n2, o2⟩ := Av x1 Z (Nat.le_refl _) big (CI w) (n := 3) (off := 0) rfl (Nat.le_refl _) rfl
    rw [A5 (by rfl)] at Z2
    obtain ⟨z0, z1, z2, z3⟩ := Bp Z2
    have y2 := x.trans x2
    obtain ⟨l0, l1, l2, l3, l4, l5, l6, l7⟩ := Am (R10.ext W y2)
    have R12b := R12.ext W y2
    have ln := (M.ext W y2).which.ilen (g := h2)
    have ad := CW (h := h2) (i := i) (by omega)
    have ib : Cn 1 (.slice (some ⟨b12, 0, none⟩) N N) (.int .i64 w.1) h2 = .ok (.pointer (some ⟨b12, j, none⟩)) h2 := by
      rw [hjw]
      have := Bx (h := h2) (n := N) (c := N) (es := 1) (b := b12) (off := 0) (k := .i64) (i := j) (by omega)
      rwa [Nat.zero_add, Nat.mul_one] at this
    have lb : load1 ⟨b12, j, none⟩ h2 = .ok (.bool (bs.getD j false)) h2 := by
      rw [R12b.load1 (by rw [List.length_map]; omega)]
      rw [List.getD_eq_getElem?_getD, List.getElem?_map, List.getD_eq_getElem?_getD, List.getElem?_eq_getElem (by omega)]; rfl
    have hrun : ∃ e2, sfW F e' h' = .norm e2 h2 ∧ AB 10 e2 = pt b10 ∧ AB 12 e2 = .slice (some ⟨b12, 0, none⟩) N N ∧ AB 75 e2 = v ∧ AB 76 e2 = .int .i64 ((CB m).length : Int) ∧ AB 77 e2 = .int .i64 ((i + 1 : Nat) : Int) ∧ AB 3 e2 = AB 3 e' ∧ AB 9 e2 = AB 9 e' ∧ AB 13 e2 = AB 13 e' ∧ AB 14 e2 = AB 14 e' := by
      unfold sfW
      rcases SW.op with ho | ho | ho | ho | ho
      · rw [ho] at z1
        simp only [sT, Nat.reduceLT, Nat.reduceEqDiff, if_true, if_false, reduceIte, gD, AZ, AY, t77, t76, c1, A7, t75, a1, Aa, AV, a2, al, Ad, st, AJ, AM, Nat.zero_add, AQ, AW, z1, Bv, Bc, ad]
        exact ⟨_, rfl, by simp only [AF, Nat.reduceLT, Nat.reduceEqDiff, if_true, if_false, reduceIte]; exact t10, by simp only [AF, Nat.reduceLT, Nat.reduceEqDiff, if_true, if_false, reduceIte]; exact t12, by simp only [AF, Nat.reduceLT, Nat.reduceEqDiff, if_true, if_false, reduceIte]; exact t75, by simp only [AF, Nat.reduceLT, Nat.reduceEqDiff, if_true, if_false, reduceIte]; exact t76, by simp [AF], by simp [AF], by simp [AF], by simp [AF], by simp [AF]⟩
      · rw [ho] at z1
        have f1 : iLe w.2.2 m.ver = false := K7 (by have := SW.abort ho; omega)
        simp only [sT, Nat.reduceLT, Nat.reduceEqDiff, if_true, if_false, reduceIte, gD, AZ, AY, t77, t76, c1, A7, t75, a1, Aa, AV, a2, al, Ad, st, AJ, AM, Nat.zero_add, AQ, AW, z1, z2, t10, l1, Bv, f1, Bc, ad]
        exact ⟨_, rfl, by simp only [AF, Nat.reduceLT, Nat.reduceEqDiff, if_true, if_false, reduceIte]; exact t10, by simp only [AF, Nat.reduceLT, Nat.reduceEqDiff, if_true, if_false, reduceIte]; exact t12, by simp only [AF, Nat.reduceLT, Nat.reduceEqDiff, if_true, if_false, reduceIte]; exact t75, by simp only [AF, Nat.reduceLT, Nat.reduceEqDiff, if_true, if_false, reduceIte]; exact t76, by simp [AF], by simp [AF], by simp [AF], by simp [AF], by simp [AF]⟩
      · rw [ho] at z1
        by_cases hv : 0 < m.ver
        · obtain ⟨d1, d2⟩ := SW.drop ho hv
          have f0 : iGt m.ver 0 = true := F6 hv
          have f1 : iNe w.2.2 m.ver = false := DH d1
          have f2 : iLt (m.which.length : Int) m.need = false := EL (by omega)
          rw [hjb ho hv] at lb
          simp only [sT, Nat.reduceLT, Nat.reduceEqDiff, if_true, if_false, reduceIte, gD, AZ, AY, t77, t76, c1, A7, t75, a1, Aa, AV, a2, al, Ad, st, AJ, AM, Nat.zero_add, AQ, AW, z0, z1, z2, t10, t12, l1, l2, l5, Ah, ln, Bv, f0, f1, f2, ib, lb, BI, BH, Bool.not_true, Bc, ad]
          exact ⟨_, rfl, by simp only [AF, Nat.reduceLT, Nat.reduceEqDiff, if_true, if_false, reduceIte]; exact t10, by simp only [AF, Nat.reduceLT, Nat.reduceEqDiff, if_true, if_false, reduceIte]; exact t12, by simp only [AF, Nat.reduceLT, Nat.reduceEqDiff, if_true, if_false, reduceIte]; exact t75, by simp only [AF, Nat.reduceLT, Nat.reduceEqDiff, if_true, if_false, reduceIte]; exact t76, by simp [AF], by simp [AF], by simp [AF], by simp [AF], by simp [AF]⟩
        · have f0 : iGt m.ver 0 = false := C1 hv
          simp only [sT, Nat.reduceLT, Nat.reduceEqDiff, if_true, if_false, reduceIte, gD, AZ, AY, t77, t76, c1, A7, t75, a1, Aa, AV, a2, al, Ad, st, AJ, AM, Nat.zero_add, AQ, AW, z0, z1, z2, t10, l1, Bv, f0, Bc, ad]
          exact ⟨_, rfl, by simp only [AF, Nat.reduceLT, Nat.reduceEqDiff, if_true, if_false, reduceIte]; exact t10, by simp only [AF, Nat.reduceLT, Nat.reduceEqDiff, if_true, if_false, reduceIte]; exact t12, by simp only [AF, Nat.reduceLT, Nat.reduceEqDiff, if_true, if_false, reduceIte]; exact t75, by simp only [AF, Nat.reduceLT, Nat.reduceEqDiff, if_true, if_false, reduceIte]; exact t76, by simp [AF], by simp [AF], by simp [AF], by simp [AF], by simp [AF]⟩
      · rw [ho] at z1
        simp only [sT, Nat.reduceLT, Nat.reduceEqDiff, if_true, if_false, reduceIte, gD, AZ, AY, t77, t76, c1, A7, t75, a1, Aa, AV, a2, al, Ad, st, AJ, AM, Nat.zero_add, AQ, AW, z1, Bv, Bc, ad]
        exact ⟨_, rfl, by simp only [AF, Nat.reduceLT, Nat.reduceEqDiff, if_true, if_false, reduceIte]; exact t10, by simp only [AF, Nat.reduceLT, Nat.reduceEqDiff, if_true, if_false, reduceIte]; exact t12, by simp only [AF, Nat.reduceLT, Nat.reduceEqDiff, if_true, if_false, reduceIte]; exact t75, by simp only [AF, Nat.reduceLT, Nat.reduceEqDiff, if_true, if_false, reduceIte]; exact t76, by simp [AF], by simp [AF], by simp [AF], by simp [AF], by simp [AF]⟩
      · rw [ho] at z1
        have f1 : iNe w.2.2 m.ver = false := DH (SW.prep ho)
        simp only [sT, Nat.reduceLT, Nat.reduceEqDiff, if_true, if_false, reduceIte, gD, AZ, AY, t77, t76, c1, A7, t75, a1, Aa, AV, a2, al, Ad, st, AJ, AM, Nat.zero_add, AQ, AW, z1, z2, t10, l1, Bv, f1, Bc, ad]
        exact ⟨_, rfl, by simp only [AF, Nat.reduceLT, Nat.reduceEqDiff, if_true, if_false, reduceIte]; exact t10, by simp only [AF, Nat.reduceLT, Nat.reduceEqDiff, if_true, if_false, reduceIte]; exact t12, by simp only [AF, Nat.reduceLT, Nat.reduceEqDiff, if_true, if_false, reduceIte]; exact t75, by simp only [AF, Nat.reduceLT, Nat.reduceEqDiff, if_true, if_false, reduceIte]; exact t76, by simp [AF], by simp [AF], by simp [AF], by simp [AF], by simp [AF]⟩
    obtain ⟨e2, q, q10, q12, q75, q76, q77, q3, q9, q13, q14⟩ := hrun
    exact ⟨hlt, e2, h2, q, y2, hlt, q10, q12, q75, q76, q77, q3.trans t3, q9.trans t9, q13.trans t13, q14.trans t14⟩
  · right
    have c1 := EO (a := i) (b := (CB m).length) (by omega)
    have hrun : ∃ e2, sfW F e' h' = .exit 2 e2 h' ∧ AB 10 e2 = AB 10 e' ∧ AB 12 e2 = AB 12 e' ∧ AB 3 e2 = AB 3 e' ∧ AB 9 e2 = AB 9 e' ∧ AB 13 e2 = AB 13 e' ∧ AB 14 e2 = AB 14 e' := by
      unfold sfW
      simp only [sT, Nat.reduceLT, Nat.reduceEqDiff, if_true, if_false, reduceIte, AZ, AY, t77, t76, c1]
      exact ⟨_, rfl, by simp [AF], by simp [AF], by simp [AF], by simp [AF], by simp [AF], by simp [AF]⟩
    obtain ⟨e2, q, q10, q12, q3, q9, q13, q14⟩ := hrun
    rw [q]
    refine ⟨rfl, e2, h', rfl, x, fun i hi => ?_⟩
    simp only [List.mem_cons, List.not_mem_nil, or_false] at hi
    rcases hi with rfl | rfl | rfl | rfl | rfl | rfl
    · exact q3.trans t3
    · exact q9.trans t9
    · exact q10.trans (t10.trans s10.symm)
    · exact q12.trans (t12.trans s12.symm)
    · exact q13.trans t13
    · exact q14.trans t14
end
end Go.Proofs.Ythcfmklkbakkpaa
set_option linter.unusedVariables false
set_option linter.unusedSimpArgs false
namespace Go.Proofs.Ythcfmklkbakkpaa
noncomputable section
open Go Go.RowKit Go.ChangeShapes
set_option maxRecDepth 100000
def DQ (e e2 : Env) : Prop := AB 3 e2 = AB 3 e ∧ AB 9 e2 = AB 9 e ∧ AB 10 e2 = AB 10 e ∧ AB 12 e2 = AB 12 e ∧ AB 13 e2 = AB 13 e
theorem DQ.trans {e e2 e3 : Env} (a : DQ e e2) (b : DQ e2 e3) : DQ e e3 := ⟨b.1.trans a.1, b.2.1.trans a.2.1, b.2.2.1.trans a.2.2.1, b.2.2.2.1.trans a.2.2.2.1, b.2.2.2.2.trans a.2.2.2.2⟩
def PR : C := (AE (AC 194) (AO iNe .i64 (AB 20) (kV (.int .i64 0)))
(cG (AB 194) true (AC 196) (AL 7 (AB 10))
(cG (AB 194) true (AC 197) (AL 7 (AB 19))
(cG (AB 194) true (AC 198) (AX 11 [(AB 196), (AB 197)])
(cG (AB 194) true (AC 199) (A8 (AB 198))
(AE (AC 200) (AP (AB 194) (AB 199) (kV (.bool false)))
(cG (AB 200) false (AC 202) (AL 7 (AB 10))
(cG (AB 200) false (AC 203) (AX 12 [(AB 202)])
(cG (AB 200) false (AC 204) (A8 (AB 203))
(AE (AC 205) (AP (AB 200) (kV (.bool true)) (AB 204))
(cG (AB 205) false (AC 207) (AD 3 (AB 19))
(cG (AB 205) false (AC 208) (AH (AB 207))
(cG (AB 205) false (AC 209) (AO iNe .i64 (AB 208) (kV (.int .i64 1)))
(cG (AB 205) false (AC 210) (AG (AB 209))
(cG (AB 210) true (AC 211) (AL 7 (AB 10))
(cG (AB 210) true (AC 212) (AL 7 (AB 19))
(cG (AB 210) true (AC 213) (AX 11 [(AB 211), (AB 212)])
(cG (AB 210) true (AC 214) (A8 (AB 213))
(cG (AB 205) false (AC 215) (AP (AB 210) (AB 214) (kV (.bool false)))
(AE (AC 216) (AP (AB 205) (kV (.bool true)) (AB 215))
(AS (AB 216)
(AE (AC 8) (AG (kV (.bool false)))
Aj)
AU)))))))))))))))))))))
def sfV : C := (AS (AB 189)
(AE (AC 192) (Ay 1 (AB 12) (AB 21))
(cDo (AN 1 (AB 192) (kV (.bool true)))
AU))
AU)
def sfU : C := (AE (AC 159) (AD 0 (AB 18))
(AE (AC 160) (AH (AB 159))
(AE (AC 21) (AG (AB 160))
(AE (AC 162) (AO iGe .i64 (AB 21) (kV (.int .i64 0)))
(cG (AB 162) true (AC 164) (AG (AB 21))
(cG (AB 162) true (AC 165) (AG (AB 9))
(cG (AB 162) true (AC 166) (AO iLt .i64 (AB 164) (AB 165))
(AE (AC 167) (AP (AB 162) (AB 166) (kV (.bool false)))
(cG (AB 167) true (AC 169) (AD 6 (AB 14))
(cG (AB 167) true (AC 170) (AD 3 (AB 169))
(cG (AB 167) true (AC 171) (AH (AB 170))
(cG (AB 167) true (AC 172) (AO iEq .i64 (AB 171) (kV (.int .i64 12)))
(cG (AB 167) true (AC 173) (AG (AB 172))
(cG (AB 173) true (AC 174) (AD 1 (AB 18))
(cG (AB 173) true (AC 175) (AH (AB 174))
(cG (AB 173) true (AC 176) (AO iEq .u8 (AB 175) (kV (.int .u8 4)))
(cG (AB 167) true (AC 177) (AP (AB 173) (AB 176) (kV (.bool false)))
(cG (AB 167) true (AC 178) (AG (AB 177))
(cG (AB 178) false (AC 179) (AD 6 (AB 14))
(cG (AB 178) false (AC 180) (AD 3 (AB 179))
(cG (AB 178) false (AC 181) (AH (AB 180))
(cG (AB 178) false (AC 182) (AO iEq .i64 (AB 181) (kV (.int .i64 60)))
(cG (AB 178) false (AC 183) (AG (AB 182))
(cG (AB 183) true (AC 184) (AD 1 (AB 18))
(cG (AB 183) true (AC 185) (AH (AB 184))
(cG (AB 183) true (AC 186) (AO iEq .u8 (AB 185) (kV (.int .u8 1)))
(cG (AB 178) false (AC 187) (AP (AB 183) (AB 186) (kV (.bool false)))
(cG (AB 167) true (AC 188) (AP (AB 178) (kV (.bool true)) (AB 187))
(AE (AC 189) (AP (AB 167) (AB 188) (kV (.bool false)))
(AS (AB 189)
(AE (AC 192) (Ay 1 (AB 12) (AB 21))
(cDo (AN 1 (AB 192) (kV (.bool true)))
AU))
AU))))))))))))))))))))))))))))))
def fI : C := (AE (AC 159) (AD 0 (AB 18))
(AE (AC 160) (AH (AB 159))
(AE (AC 21) (AG (AB 160))
(AE (AC 162) (AO iGe .i64 (AB 21) (kV (.int .i64 0)))
(cG (AB 162) true (AC 164) (AG (AB 21))
(cG (AB 162) true (AC 165) (AG (AB 9))
(cG (AB 162) true (AC 166) (AO iLt .i64 (AB 164) (AB 165))
(AE (AC 167) (AP (AB 162) (AB 166) (kV (.bool false)))
(cG (AB 167) true (AC 169) (AD 6 (AB 14))
(cG (AB 167) true (AC 170) (AD 3 (AB 169))
(cG (AB 167) true (AC 171) (AH (AB 170))
(cG (AB 167) true (AC 172) (AO iEq .i64 (AB 171) (kV (.int .i64 12)))
(cG (AB 167) true (AC 173) (AG (AB 172))
(cG (AB 173) true (AC 174) (AD 1 (AB 18))
(cG (AB 173) true (AC 175) (AH (AB 174))
(cG (AB 173) true (AC 176) (AO iEq .u8 (AB 175) (kV (.int .u8 4)))
(cG (AB 167) true (AC 177) (AP (AB 173) (AB 176) (kV (.bool false)))
(cG (AB 167) true (AC 178) (AG (AB 177))
(cG (AB 178) false (AC 179) (AD 6 (AB 14))
(cG (AB 178) false (AC 180) (AD 3 (AB 179))
(cG (AB 178) false (AC 181) (AH (AB 180))
(cG (AB 178) false (AC 182) (AO iEq .i64 (AB 181) (kV (.int .i64 60)))
(cG (AB 178) false (AC 183) (AG (AB 182))
(cG (AB 183) true (AC 184) (AD 1 (AB 18))
(cG (AB 183) true (AC 185) (AH (AB 184))
(cG (AB 183) true (AC 186) (AO iEq .u8 (AB 185) (kV (.int .u8 1)))
(cG (AB 178) false (AC 187) (AP (AB 183) (AB 186) (kV (.bool false)))
(cG (AB 167) true (AC 188) (AP (AB 178) (kV (.bool true)) (AB 187))
(AE (AC 189) (AP (AB 167) (AB 188) (kV (.bool false)))
sfV)))))))))))))))))))))))))))))
theorem Zd : sfU = fI := rfl
def sfT : C := (AE (AC 152) (AL 7 (AB 10))
(AE (AC 153) (AL 3 (AB 18))
(AE (AC 154) (AD 6 (AB 14))
(AE (AC 155) (AL 7 (AB 154))
(AE (AC 156) (AX 10 [(AB 152), (AB 153), (AB 155)])
(AE (AC 157) (Ai 0 (AB 156))
(AE (AC 158) (Ai 1 (AB 156))
(cDo (AN 7 (AB 10) (AB 157))
(AE (AC 20) (AG (AB 158))
(AE (AC 159) (AD 0 (AB 18))
(AE (AC 160) (AH (AB 159))
(AE (AC 21) (AG (AB 160))
(AE (AC 162) (AO iGe .i64 (AB 21) (kV (.int .i64 0)))
(cG (AB 162) true (AC 164) (AG (AB 21))
(cG (AB 162) true (AC 165) (AG (AB 9))
(cG (AB 162) true (AC 166) (AO iLt .i64 (AB 164) (AB 165))
(AE (AC 167) (AP (AB 162) (AB 166) (kV (.bool false)))
(cG (AB 167) true (AC 169) (AD 6 (AB 14))
(cG (AB 167) true (AC 170) (AD 3 (AB 169))
(cG (AB 167) true (AC 171) (AH (AB 170))
(cG (AB 167) true (AC 172) (AO iEq .i64 (AB 171) (kV (.int .i64 12)))
(cG (AB 167) true (AC 173) (AG (AB 172))
(cG (AB 173) true (AC 174) (AD 1 (AB 18))
(cG (AB 173) true (AC 175) (AH (AB 174))
(cG (AB 173) true (AC 176) (AO iEq .u8 (AB 175) (kV (.int .u8 4)))
(cG (AB 167) true (AC 177) (AP (AB 173) (AB 176) (kV (.bool false)))
(cG (AB 167) true (AC 178) (AG (AB 177))
(cG (AB 178) false (AC 179) (AD 6 (AB 14))
(cG (AB 178) false (AC 180) (AD 3 (AB 179))
(cG (AB 178) false (AC 181) (AH (AB 180))
(cG (AB 178) false (AC 182) (AO iEq .i64 (AB 181) (kV (.int .i64 60)))
(cG (AB 178) false (AC 183) (AG (AB 182))
(cG (AB 183) true (AC 184) (AD 1 (AB 18))
(cG (AB 183) true (AC 185) (AH (AB 184))
(cG (AB 183) true (AC 186) (AO iEq .u8 (AB 185) (kV (.int .u8 1)))
(cG (AB 178) false (AC 187) (AP (AB 183) (AB 186) (kV (.bool false)))
(cG (AB 167) true (AC 188) (AP (AB 178) (kV (.bool true)) (AB 187))
(AE (AC 189) (AP (AB 167) (AB 188) (kV (.bool false)))
(AS (AB 189)
(AE (AC 192) (Ay 1 (AB 12) (AB 21))
(cDo (AN 1 (AB 192) (kV (.bool true)))
AU))
AU)))))))))))))))))))))))))))))))))))))))
def fH : C := (AE (AC 152) (AL 7 (AB 10))
(AE (AC 153) (AL 3 (AB 18))
(AE (AC 154) (AD 6 (AB 14))
(AE (AC 155) (AL 7 (AB 154))
(AE (AC 156) (AX 10 [(AB 152), (AB 153), (AB 155)])
(AE (AC 157) (Ai 0 (AB 156))
(AE (AC 158) (Ai 1 (AB 156))
(cDo (AN 7 (AB 10) (AB 157))
(AE (AC 20) (AG (AB 158))
sfU)))))))))
theorem Zc : sfT = fH := rfl
def sfO : C := (AE (AC 145) (AL 7 (AB 10))
(AE (AC 146) (AD 0 (AB 14))
(AE (AC 147) (AH (AB 146))
(AE (AC 148) (AX 9 [(AB 145), (AB 147)])
(AE (AC 149) (Ai 0 (AB 148))
(AE (AC 150) (Ai 1 (AB 148))
(cDo (AN 7 (AB 10) (AB 149))
(AE (AC 20) (AG (AB 150))
AU))))))))
theorem KU {n : Nat} {h0 g : Hp} (x0 : h0.Ext g) {S S' : Nat → Prop} {m m' : MD} {um uw us um' uw' us' : Value} {b10 b19 : Nat} {c : Int} (R10 : g.Row b10 0 (mendL m' um' uw' us')) (R19 : g.Row b19 0 (mendL m um uw us)) (M' : g.Md S' m' um' uw' us') (M : g.Md S m um uw us) (hr : RightP m') (k1 : ¬ c = 0 → m' = m) (k2 : ¬ m.ph = 1 → m' = m) {e : Env} (s10 : AB 10 e = pt b10) (s19 : AB 19 e = pt b19) (s20 : AB 20 e = .int .i64 c) :
    ∃ e' g', PR (call AK (n + 6)) e g = .norm e' g' ∧ g.Ext g' ∧ DQ e e' := by
  have W := x0.wf
  obtain ⟨_, _, _, _, _, _, _, l7⟩ := Am R10
  obtain ⟨_, _, _, _, _, _, _, q7⟩ := Am R19
  have one : ∃ g1, g.Ext g1 ∧ (¬ c = 0 → call AK (n + 6) 11 [mendV m' um' uw' us', mendV m um uw us] g = .ok (.bool true) g1) ∧ (c = 0 → g1 = g) := by
    by_cases hc : c = 0
    · exact ⟨g, .refl W, fun h => absurd hc h, fun _ => rfl⟩
    · have hm := k1 hc
      subst hm
      obtain ⟨g1, a1, a2⟩ := HU (n := n + 3) W M' M hr
      exact ⟨g1, a2, fun _ => a1, fun h => absurd h hc⟩
  obtain ⟨g1, x1, a1, a2⟩ := one
  have W1 := x1.wf
  obtain ⟨_, _, _, _, _, _, _, l7'⟩ := Am (R10.ext W x1)
  obtain ⟨g2, b1, x2⟩ := Fd (n := n + 2) W1 (M'.ext W x1) hr
  have y2 := x1.trans x2
  obtain ⟨_, _, _, _, _, _, _, l7''⟩ := Am (R10.ext W y2)
  obtain ⟨_, _, _, q3, _, _, _, q7''⟩ := Am (R19.ext W y2)
  have two : ∃ g3, g2.Ext g3 ∧ (¬ m.ph = 1 → call AK (n + 6) 11 [mendV m' um' uw' us', mendV m um uw us] g2 = .ok (.bool true) g3) ∧ (m.ph = 1 → g3 = g2) := by
    by_cases hc : m.ph = 1
    · exact ⟨g2, .refl x2.wf, fun h => absurd hc h, fun _ => rfl⟩
    · have hm := k2 hc
      subst hm
      obtain ⟨g3, a1, a2⟩ := HU (n := n + 3) x2.wf (M'.ext W y2) (M.ext W y2) hr
      exact ⟨g3, a2, fun _ => a1, fun h => absurd h hc⟩
  obtain ⟨g3, x3, d1, d2⟩ := two
  have hrun : ∃ e', PR (call AK (n + 6)) e g = .norm e' g3 ∧ DQ e e' := by
    unfold PR DQ
    by_cases hc : c = 0
    · have f1 : iNe c 0 = false := DH hc
      have hg := a2 hc
      subst hg
      by_cases hp : m.ph = 1
      · have f2 : iNe m.ph 1 = false := DH hp
        have hg := d2 hp
        subst hg
        simp only [sT, Nat.reduceLT, Nat.reduceEqDiff, if_true, if_false, reduceIte, gD, s20, AZ, AY, f1, Aa, s10, s19, AV, l7, Ao, Ae, Al, b1, BI, BH, Bool.not_true, AJ, AM, Nat.zero_add, AQ, AW, q3, f2]
        exact ⟨_, rfl, by simp [AF], by simp [AF], by simp only [AF, Nat.reduceLT, Nat.reduceEqDiff, if_true, if_false, reduceIte]; exact s10, by simp [AF], by simp [AF]⟩
      · have f2 : iNe m.ph 1 = true := Ej hp
        have d1 := d1 hp
        simp only [sT, Nat.reduceLT, Nat.reduceEqDiff, if_true, if_false, reduceIte, gD, s20, AZ, AY, f1, Aa, s10, s19, AV, l7, Ao, Ae, Al, b1, BI, BH, Bool.not_true, AJ, AM, Nat.zero_add, AQ, AW, q3, f2, l7'', q7'', d1]
        exact ⟨_, rfl, by simp [AF], by simp [AF], by simp only [AF, Nat.reduceLT, Nat.reduceEqDiff, if_true, if_false, reduceIte]; exact s10, by simp [AF], by simp [AF]⟩
    · have f1 : iNe c 0 = true := Ej hc
      have a1 := a1 hc
      by_cases hp : m.ph = 1
      · have f2 : iNe m.ph 1 = false := DH hp
        have hg := d2 hp
        subst hg
        simp only [sT, Nat.reduceLT, Nat.reduceEqDiff, if_true, if_false, reduceIte, gD, s20, AZ, AY, f1, Aa, s10, s19, AV, l7, q7, Ao, Ae, Al, a1, l7', b1, BI, BH, Bool.not_true, AJ, AM, Nat.zero_add, AQ, AW, q3, f2]
        exact ⟨_, rfl, by simp [AF], by simp [AF], by simp only [AF, Nat.reduceLT, Nat.reduceEqDiff, if_true, if_false, reduceIte]; exact s10, by simp [AF], by simp [AF]⟩
      · have f2 : iNe m.ph 1 = true := Ej hp
        have d1 := d1 hp
        simp only [sT, Nat.reduceLT, Nat.reduceEqDiff, if_true, if_false, reduceIte, gD, s20, AZ, AY, f1, Aa, s10, s19, AV, l7, q7, Ao, Ae, Al, a1, l7', b1, BI, BH, Bool.not_true, AJ, AM, Nat.zero_add, AQ, AW, q3, f2, l7'', q7'', d1]
        exact ⟨_, rfl, by simp [AF], by simp [AF], by simp only [AF, Nat.reduceLT, Nat.reduceEqDiff, if_true, if_false, reduceIte]; exact s10, by simp [AF], by simp [AF]⟩
  obtain ⟨e', q1, q2⟩ := hrun
  exact ⟨e', g3, q1, y2.trans x3, q2⟩
theorem Ue {F : CallF} {g : Hp} {b14 b18 N : Nat} {o : OP} {ui ub : Value} {w : Int × Int × Int} (R14 : g.Row b14 0 (opL o ui ub)) (R18 : g.Row b18 0 (errL w)) {e : Env} (s9 : AB 9 e = .int .i64 (N : Int)) (s14 : AB 14 e = pt b14) (s18 : AB 18 e = pt b18) :
    ∃ e', sfU F e g = sfV F e' g ∧ AB 189 e' = .bool ((decide (0 ≤ w.1) && decide (w.1 < (N : Int))) && FB o.t.err w.2.1) ∧ AB 21 e' = .int .i64 w.1 ∧ DQ e e' ∧ AB 19 e' = AB 19 e ∧ AB 20 e' = AB 20 e := by
  obtain ⟨q0, q1, q2, q3, q9, q10, q11, q6, q13⟩ := DV R14
  obtain ⟨w0, w1, w2, w3⟩ := Bp R18
  rw [Zd]
  unfold fI DQ FB
  have f1 : iGe w.1 0 = decide (0 ≤ w.1) := IR _ _
  have f2 : iLt w.1 (N : Int) = decide (w.1 < (N : Int)) := Cz _ _
  have f3 : iEq o.t.err 12 = decide (o.t.err = 12) := HP
  have f4 : iEq w.2.1 4 = decide (w.2.1 = 4) := HP
  have f5 : iEq o.t.err 60 = decide (o.t.err = 60) := HP
  have f6 : iEq w.2.1 1 = decide (w.2.1 = 1) := HP
  generalize decide (0 ≤ w.1) = a at f1 ⊢
  generalize decide (w.1 < (N : Int)) = b at f2 ⊢
  generalize decide (o.t.err = 12) = c at f3 ⊢
  generalize decide (w.2.1 = 4) = d at f4 ⊢
  generalize decide (o.t.err = 60) = p at f5 ⊢
  generalize decide (w.2.1 = 1) = q at f6 ⊢
  cases a
  · simp only [sT, Nat.reduceLT, Nat.reduceEqDiff, if_true, if_false, reduceIte, gD, s18, s14, s9, AJ, AM, Nat.zero_add, Nat.reduceAdd, AQ, AW, w0, AZ, AY, f1]
    exact ⟨_, rfl, by simp only [AF, Nat.reduceLT, Nat.reduceEqDiff, if_true, if_false, reduceIte]; rfl, by simp [AF], ⟨by simp [AF], by simp only [AF, Nat.reduceLT, Nat.reduceEqDiff, if_true, if_false, reduceIte]; exact s9, by simp [AF], by simp [AF], by simp [AF]⟩, by simp [AF], by simp [AF]⟩
  · cases b
    · simp only [sT, Nat.reduceLT, Nat.reduceEqDiff, if_true, if_false, reduceIte, gD, s18, s14, s9, AJ, AM, Nat.zero_add, Nat.reduceAdd, AQ, AW, w0, AZ, AY, f1, f2]
      exact ⟨_, rfl, by simp only [AF, Nat.reduceLT, Nat.reduceEqDiff, if_true, if_false, reduceIte]; rfl, by simp [AF], ⟨by simp [AF], by simp only [AF, Nat.reduceLT, Nat.reduceEqDiff, if_true, if_false, reduceIte]; exact s9, by simp [AF], by simp [AF], by simp [AF]⟩, by simp [AF], by simp [AF]⟩
    · cases c <;> cases d <;> cases p <;> cases q <;>
      · simp only [sT, Nat.reduceLT, Nat.reduceEqDiff, if_true, if_false, reduceIte, gD, s18, s14, s9, AJ, AM, Nat.zero_add, Nat.reduceAdd, AQ, AW, w0, w1, q9, AZ, AY, f1, f2, f3, f4, f5, f6]
        exact ⟨_, rfl, by simp only [AF, Nat.reduceLT, Nat.reduceEqDiff, if_true, if_false, reduceIte]; rfl, by simp [AF], ⟨by simp [AF], by simp only [AF, Nat.reduceLT, Nat.reduceEqDiff, if_true, if_false, reduceIte]; exact s9, by simp [AF], by simp [AF], by simp [AF]⟩, by simp [AF], by simp [AF]⟩
end
end Go.Proofs.Ythcfmklkbakkpaa
set_option linter.unusedVariables false
set_option linter.unusedSimpArgs false
namespace Go.Proofs.Ythcfmklkbakkpaa
noncomputable section
open Go Go.RowKit Go.ChangeShapes
set_option maxRecDepth 100000
def PQ : C := (AE (AC 138) (AL 7 (AB 10))
(AE (AC 139) (AL 13 (AB 14))
(AE (AC 140) (AX 8 [(AB 138), (AB 139)])
(AE (AC 18) (At 3 C7)
(cDo (AN 3 (AB 18) (AB 140))
(AE (AC 141) (AL 7 (AB 10))
(AE (AC 19) (At 7 DF)
(cDo (AN 7 (AB 19) (AB 141))
(AE (AC 20) (AG (kV (.int .i64 0)))
(AE (AC 142) (AD 2 (AB 14))
(AE (AC 143) (AH (AB 142))
(As (AS (AB 143)
(AE (AC 145) (AL 7 (AB 10))
(AE (AC 146) (AD 0 (AB 14))
(AE (AC 147) (AH (AB 146))
(AE (AC 148) (AX 9 [(AB 145), (AB 147)])
(AE (AC 149) (Ai 0 (AB 148))
(AE (AC 150) (Ai 1 (AB 148))
(cDo (AN 7 (AB 10) (AB 149))
(AE (AC 20) (AG (AB 150))
AU))))))))
(AE (AC 152) (AL 7 (AB 10))
(AE (AC 153) (AL 3 (AB 18))
(AE (AC 154) (AD 6 (AB 14))
(AE (AC 155) (AL 7 (AB 154))
(AE (AC 156) (AX 10 [(AB 152), (AB 153), (AB 155)])
(AE (AC 157) (Ai 0 (AB 156))
(AE (AC 158) (Ai 1 (AB 156))
(cDo (AN 7 (AB 10) (AB 157))
(AE (AC 20) (AG (AB 158))
(AE (AC 159) (AD 0 (AB 18))
(AE (AC 160) (AH (AB 159))
(AE (AC 21) (AG (AB 160))
(AE (AC 162) (AO iGe .i64 (AB 21) (kV (.int .i64 0)))
(cG (AB 162) true (AC 164) (AG (AB 21))
(cG (AB 162) true (AC 165) (AG (AB 9))
(cG (AB 162) true (AC 166) (AO iLt .i64 (AB 164) (AB 165))
(AE (AC 167) (AP (AB 162) (AB 166) (kV (.bool false)))
(cG (AB 167) true (AC 169) (AD 6 (AB 14))
(cG (AB 167) true (AC 170) (AD 3 (AB 169))
(cG (AB 167) true (AC 171) (AH (AB 170))
(cG (AB 167) true (AC 172) (AO iEq .i64 (AB 171) (kV (.int .i64 12)))
(cG (AB 167) true (AC 173) (AG (AB 172))
(cG (AB 173) true (AC 174) (AD 1 (AB 18))
(cG (AB 173) true (AC 175) (AH (AB 174))
(cG (AB 173) true (AC 176) (AO iEq .u8 (AB 175) (kV (.int .u8 4)))
(cG (AB 167) true (AC 177) (AP (AB 173) (AB 176) (kV (.bool false)))
(cG (AB 167) true (AC 178) (AG (AB 177))
(cG (AB 178) false (AC 179) (AD 6 (AB 14))
(cG (AB 178) false (AC 180) (AD 3 (AB 179))
(cG (AB 178) false (AC 181) (AH (AB 180))
(cG (AB 178) false (AC 182) (AO iEq .i64 (AB 181) (kV (.int .i64 60)))
(cG (AB 178) false (AC 183) (AG (AB 182))
(cG (AB 183) true (AC 184) (AD 1 (AB 18))
(cG (AB 183) true (AC 185) (AH (AB 184))
(cG (AB 183) true (AC 186) (AO iEq .u8 (AB 185) (kV (.int .u8 1)))
(cG (AB 178) false (AC 187) (AP (AB 183) (AB 186) (kV (.bool false)))
(cG (AB 167) true (AC 188) (AP (AB 178) (kV (.bool true)) (AB 187))
(AE (AC 189) (AP (AB 167) (AB 188) (kV (.bool false)))
(AS (AB 189)
(AE (AC 192) (Ay 1 (AB 12) (AB 21))
(cDo (AN 1 (AB 192) (kV (.bool true)))
AU))
AU))))))))))))))))))))))))))))))))))))))))
(AE (AC 194) (AO iNe .i64 (AB 20) (kV (.int .i64 0)))
(cG (AB 194) true (AC 196) (AL 7 (AB 10))
(cG (AB 194) true (AC 197) (AL 7 (AB 19))
(cG (AB 194) true (AC 198) (AX 11 [(AB 196), (AB 197)])
(cG (AB 194) true (AC 199) (A8 (AB 198))
(AE (AC 200) (AP (AB 194) (AB 199) (kV (.bool false)))
(cG (AB 200) false (AC 202) (AL 7 (AB 10))
(cG (AB 200) false (AC 203) (AX 12 [(AB 202)])
(cG (AB 200) false (AC 204) (A8 (AB 203))
(AE (AC 205) (AP (AB 200) (kV (.bool true)) (AB 204))
(cG (AB 205) false (AC 207) (AD 3 (AB 19))
(cG (AB 205) false (AC 208) (AH (AB 207))
(cG (AB 205) false (AC 209) (AO iNe .i64 (AB 208) (kV (.int .i64 1)))
(cG (AB 205) false (AC 210) (AG (AB 209))
(cG (AB 210) true (AC 211) (AL 7 (AB 10))
(cG (AB 210) true (AC 212) (AL 7 (AB 19))
(cG (AB 210) true (AC 213) (AX 11 [(AB 211), (AB 212)])
(cG (AB 210) true (AC 214) (A8 (AB 213))
(cG (AB 205) false (AC 215) (AP (AB 210) (AB 214) (kV (.bool false)))
(AE (AC 216) (AP (AB 205) (kV (.bool true)) (AB 215))
(AS (AB 216)
(AE (AC 8) (AG (kV (.bool false)))
Aj)
AU)))))))))))))))))))))))))))))))))
def RZ : C := (AE (AC 138) (AL 7 (AB 10))
(AE (AC 139) (AL 13 (AB 14))
(AE (AC 140) (AX 8 [(AB 138), (AB 139)])
(AE (AC 18) (At 3 C7)
(cDo (AN 3 (AB 18) (AB 140))
(AE (AC 141) (AL 7 (AB 10))
(AE (AC 19) (At 7 DF)
(cDo (AN 7 (AB 19) (AB 141))
(AE (AC 20) (AG (kV (.int .i64 0)))
(AE (AC 142) (AD 2 (AB 14))
(AE (AC 143) (AH (AB 142))
(As (AS (AB 143)
sfO
sfT)
PR))))))))))))
theorem OI : PQ = RZ := rfl
def sfR : C := (AE (AC 74) (AL 7 (AB 10))
(AE (AC 75) (AX 7 [(AB 74)])
(AE (AC 76) (Ak (AB 75))
(AE (AC 77) (AG (kV (.int .i64 0)))
(As (Ab 2 (A0 (AE (AC 78) (AO iLt .i64 (AB 77) (AB 76))
(AS (AB 78)
(As (Ab 3 (AE (AC 79) (Ay 3 (AB 75) (AB 77))
(AE (AC 80) (AL 3 (AB 79))
(AE (AC 16) (At 3 C7)
(cDo (AN 3 (AB 16) (AB 80))
(AE (AC 81) (AD 1 (AB 16))
(AE (AC 82) (AH (AB 81))
(AE (AC 83) (AO iEq .u8 (AB 82) (kV (.int .u8 6)))
(cG (AB 83) true (AC 85) (AD 1 (AB 10))
(cG (AB 83) true (AC 86) (AH (AB 85))
(cG (AB 83) true (AC 87) (AO iGt .i64 (AB 86) (kV (.int .i64 0)))
(AE (AC 88) (AP (AB 83) (AB 87) (kV (.bool false)))
(AE (AC 17) (AG (AB 88))
(AE (AC 89) (AD 1 (AB 16))
(AE (AC 90) (AH (AB 89))
(AE (AC 91) (AO iEq .u8 (AB 90) (kV (.int .u8 3)))
(cG (AB 91) true (AC 93) (AD 2 (AB 16))
(cG (AB 91) true (AC 94) (AH (AB 93))
(cG (AB 91) true (AC 95) (AD 1 (AB 10))
(cG (AB 91) true (AC 96) (AH (AB 95))
(cG (AB 91) true (AC 97) (AO iLe .i64 (AB 94) (AB 96))
(AE (AC 98) (AP (AB 91) (AB 97) (kV (.bool false)))
(cG (AB 98) false (AC 100) (AG (AB 17))
(cG (AB 98) false (AC 101) (AG (AB 100))
(cG (AB 101) true (AC 102) (AD 2 (AB 16))
(cG (AB 101) true (AC 103) (AH (AB 102))
(cG (AB 101) true (AC 104) (AD 1 (AB 10))
(cG (AB 101) true (AC 105) (AH (AB 104))
(cG (AB 101) true (AC 106) (AO iNe .i64 (AB 103) (AB 105))
(cG (AB 101) true (AC 107) (AG (AB 106))
(cG (AB 107) false (AC 108) (AG (AB 12))
(cG (AB 107) false (AC 109) (AD 0 (AB 16))
(cG (AB 107) false (AC 110) (AH (AB 109))
(cG (AB 107) false (AC 111) (Ay 1 (AB 108) (AB 110))
(cG (AB 107) false (AC 112) (AH (AB 111))
(cG (AB 107) false (AC 113) (A8 (AB 112))
(cG (AB 101) true (AC 114) (AP (AB 107) (kV (.bool true)) (AB 113))
(cG (AB 101) true (AC 115) (AG (AB 114))
(cG (AB 115) false (AC 116) (AD 5 (AB 10))
(cG (AB 115) false (AC 117) (AH (AB 116))
(cG (AB 115) false (AC 118) (Ak (AB 117))
(cG (AB 115) false (AC 119) (AD 2 (AB 10))
(cG (AB 115) false (AC 120) (AH (AB 119))
(cG (AB 115) false (AC 121) (AO iLt .i64 (AB 118) (AB 120))
(cG (AB 101) true (AC 122) (AP (AB 115) (kV (.bool true)) (AB 121))
(cG (AB 98) false (AC 123) (AP (AB 101) (AB 122) (kV (.bool false)))
(AE (AC 124) (AP (AB 98) (kV (.bool true)) (AB 123))
(cG (AB 124) false (AC 126) (AD 1 (AB 16))
(cG (AB 124) false (AC 127) (AH (AB 126))
(cG (AB 124) false (AC 128) (AO iEq .u8 (AB 127) (kV (.int .u8 1)))
(cG (AB 124) false (AC 129) (AG (AB 128))
(cG (AB 129) true (AC 130) (AD 2 (AB 16))
(cG (AB 129) true (AC 131) (AH (AB 130))
(cG (AB 129) true (AC 132) (AD 1 (AB 10))
(cG (AB 129) true (AC 133) (AH (AB 132))
(cG (AB 129) true (AC 134) (AO iNe .i64 (AB 131) (AB 133))
(cG (AB 124) false (AC 135) (AP (AB 129) (AB 134) (kV (.bool false)))
(AE (AC 136) (AP (AB 124) (kV (.bool true)) (AB 135))
(AS (AB 136)
(AE (AC 8) (AG (kV (.bool false)))
Aj)
AU)))))))))))))))))))))))))))))))))))))))))))))))))))))))))))
(AE (AC 137) (BD .i64 (Au .i64) (AB 77) (kV (.int .i64 1)))
(AE (AC 77) (AG (AB 137))
AU)))
(A3 2)))))
(AE (AC 138) (AL 7 (AB 10))
(AE (AC 139) (AL 13 (AB 14))
(AE (AC 140) (AX 8 [(AB 138), (AB 139)])
(AE (AC 18) (At 3 C7)
(cDo (AN 3 (AB 18) (AB 140))
(AE (AC 141) (AL 7 (AB 10))
(AE (AC 19) (At 7 DF)
(cDo (AN 7 (AB 19) (AB 141))
(AE (AC 20) (AG (kV (.int .i64 0)))
(AE (AC 142) (AD 2 (AB 14))
(AE (AC 143) (AH (AB 142))
(As (AS (AB 143)
(AE (AC 145) (AL 7 (AB 10))
(AE (AC 146) (AD 0 (AB 14))
(AE (AC 147) (AH (AB 146))
(AE (AC 148) (AX 9 [(AB 145), (AB 147)])
(AE (AC 149) (Ai 0 (AB 148))
(AE (AC 150) (Ai 1 (AB 148))
(cDo (AN 7 (AB 10) (AB 149))
(AE (AC 20) (AG (AB 150))
AU))))))))
(AE (AC 152) (AL 7 (AB 10))
(AE (AC 153) (AL 3 (AB 18))
(AE (AC 154) (AD 6 (AB 14))
(AE (AC 155) (AL 7 (AB 154))
(AE (AC 156) (AX 10 [(AB 152), (AB 153), (AB 155)])
(AE (AC 157) (Ai 0 (AB 156))
(AE (AC 158) (Ai 1 (AB 156))
(cDo (AN 7 (AB 10) (AB 157))
(AE (AC 20) (AG (AB 158))
(AE (AC 159) (AD 0 (AB 18))
(AE (AC 160) (AH (AB 159))
(AE (AC 21) (AG (AB 160))
(AE (AC 162) (AO iGe .i64 (AB 21) (kV (.int .i64 0)))
(cG (AB 162) true (AC 164) (AG (AB 21))
(cG (AB 162) true (AC 165) (AG (AB 9))
(cG (AB 162) true (AC 166) (AO iLt .i64 (AB 164) (AB 165))
(AE (AC 167) (AP (AB 162) (AB 166) (kV (.bool false)))
(cG (AB 167) true (AC 169) (AD 6 (AB 14))
(cG (AB 167) true (AC 170) (AD 3 (AB 169))
(cG (AB 167) true (AC 171) (AH (AB 170))
(cG (AB 167) true (AC 172) (AO iEq .i64 (AB 171) (kV (.int .i64 12)))
(cG (AB 167) true (AC 173) (AG (AB 172))
(cG (AB 173) true (AC 174) (AD 1 (AB 18))
(cG (AB 173) true (AC 175) (AH (AB 174))
(cG (AB 173) true (AC 176) (AO iEq .u8 (AB 175) (kV (.int .u8 4)))
(cG (AB 167) true (AC 177) (AP (AB 173) (AB 176) (kV (.bool false)))
(cG (AB 167) true (AC 178) (AG (AB 177))
(cG (AB 178) false (AC 179) (AD 6 (AB 14))
(cG (AB 178) false (AC 180) (AD 3 (AB 179))
(cG (AB 178) false (AC 181) (AH (AB 180))
(cG (AB 178) false (AC 182) (AO iEq .i64 (AB 181) (kV (.int .i64 60)))
(cG (AB 178) false (AC 183) (AG (AB 182))
(cG (AB 183) true (AC 184) (AD 1 (AB 18))
(cG (AB 183) true (AC 185) (AH (AB 184))
(cG (AB 183) true (AC 186) (AO iEq .u8 (AB 185) (kV (.int .u8 1)))
(cG (AB 178) false (AC 187) (AP (AB 183) (AB 186) (kV (.bool false)))
(cG (AB 167) true (AC 188) (AP (AB 178) (kV (.bool true)) (AB 187))
(AE (AC 189) (AP (AB 167) (AB 188) (kV (.bool false)))
(AS (AB 189)
(AE (AC 192) (Ay 1 (AB 12) (AB 21))
(cDo (AN 1 (AB 192) (kV (.bool true)))
AU))
AU))))))))))))))))))))))))))))))))))))))))
(AE (AC 194) (AO iNe .i64 (AB 20) (kV (.int .i64 0)))
(cG (AB 194) true (AC 196) (AL 7 (AB 10))
(cG (AB 194) true (AC 197) (AL 7 (AB 19))
(cG (AB 194) true (AC 198) (AX 11 [(AB 196), (AB 197)])
(cG (AB 194) true (AC 199) (A8 (AB 198))
(AE (AC 200) (AP (AB 194) (AB 199) (kV (.bool false)))
(cG (AB 200) false (AC 202) (AL 7 (AB 10))
(cG (AB 200) false (AC 203) (AX 12 [(AB 202)])
(cG (AB 200) false (AC 204) (A8 (AB 203))
(AE (AC 205) (AP (AB 200) (kV (.bool true)) (AB 204))
(cG (AB 205) false (AC 207) (AD 3 (AB 19))
(cG (AB 205) false (AC 208) (AH (AB 207))
(cG (AB 205) false (AC 209) (AO iNe .i64 (AB 208) (kV (.int .i64 1)))
(cG (AB 205) false (AC 210) (AG (AB 209))
(cG (AB 210) true (AC 211) (AL 7 (AB 10))
(cG (AB 210) true (AC 212) (AL 7 (AB 19))
(cG (AB 210) true (AC 213) (AX 11 [(AB 211), (AB 212)])
(cG (AB 210) true (AC 214) (A8 (AB 213))
(cG (AB 205) false (AC 215) (AP (AB 210) (AB 214) (kV (.bool false)))
(AE (AC 216) (AP (AB 205) (kV (.bool true)) (AB 215))
(AS (AB 216)
(AE (AC 8) (AG (kV (.bool false)))
Aj)
AU))))))))))))))))))))))))))))))))))))))
def fG : C := (AE (AC 74) (AL 7 (AB 10))
(AE (AC 75) (AX 7 [(AB 74)])
(AE (AC 76) (Ak (AB 75))
(AE (AC 77) (AG (kV (.int .i64 0)))
(As (Ab 2 (A0 sfW))
PQ)))))
theorem Zb : sfR = fG := rfl
def sfL : C := (AE (AC 45) (Ak (AB 3))
(AE (AC 46) (AO iLt .i64 (AB 13) (AB 45))
(cG (AB 46) true (AC 48) (AG (AB 13))
(cG (AB 46) true (AC 49) (AO iLt .i64 (AB 48) (kV (.int .i64 80)))
(AE (AC 50) (AP (AB 46) (AB 49) (kV (.bool false)))
(AS (AB 50)
(As (Ab 1 (AE (AC 55) (Ay 13 (AB 3) (AB 13))
(AE (AC 56) (AL 13 (AB 55))
(AE (AC 14) (At 13 NY)
(cDo (AN 13 (AB 14) (AB 56))
(AE (AC 57) (AD 0 (AB 14))
(AE (AC 58) (AH (AB 57))
(AE (AC 60) (AX 6 [(AB 58), (AB 9)])
(AE (AC 61) (AD 0 (AB 14))
(cDo (AN 1 (AB 61) (AB 60))
(AE (AC 62) (AD 6 (AB 14))
(AE (AC 63) (AD 4 (AB 62))
(AE (AC 64) (AH (AB 63))
(AE (AC 65) (Ak (AB 64))
(AE (AC 66) (AO iGt .i64 (AB 65) (kV (.int .i64 60)))
(cG (AB 66) false (AC 68) (AD 6 (AB 14))
(cG (AB 66) false (AC 69) (AD 5 (AB 68))
(cG (AB 66) false (AC 70) (AH (AB 69))
(cG (AB 66) false (AC 71) (Ak (AB 70))
(cG (AB 66) false (AC 72) (AO iGt .i64 (AB 71) (kV (.int .i64 100)))
(AE (AC 73) (AP (AB 66) (kV (.bool true)) (AB 72))
(AS (AB 73)
(A3 1)
(AE (AC 74) (AL 7 (AB 10))
(AE (AC 75) (AX 7 [(AB 74)])
(AE (AC 76) (Ak (AB 75))
(AE (AC 77) (AG (kV (.int .i64 0)))
(As (Ab 2 (A0 (AE (AC 78) (AO iLt .i64 (AB 77) (AB 76))
(AS (AB 78)
(As (Ab 3 (AE (AC 79) (Ay 3 (AB 75) (AB 77))
(AE (AC 80) (AL 3 (AB 79))
(AE (AC 16) (At 3 C7)
(cDo (AN 3 (AB 16) (AB 80))
(AE (AC 81) (AD 1 (AB 16))
(AE (AC 82) (AH (AB 81))
(AE (AC 83) (AO iEq .u8 (AB 82) (kV (.int .u8 6)))
(cG (AB 83) true (AC 85) (AD 1 (AB 10))
(cG (AB 83) true (AC 86) (AH (AB 85))
(cG (AB 83) true (AC 87) (AO iGt .i64 (AB 86) (kV (.int .i64 0)))
(AE (AC 88) (AP (AB 83) (AB 87) (kV (.bool false)))
(AE (AC 17) (AG (AB 88))
(AE (AC 89) (AD 1 (AB 16))
(AE (AC 90) (AH (AB 89))
(AE (AC 91) (AO iEq .u8 (AB 90) (kV (.int .u8 3)))
(cG (AB 91) true (AC 93) (AD 2 (AB 16))
(cG (AB 91) true (AC 94) (AH (AB 93))
(cG (AB 91) true (AC 95) (AD 1 (AB 10))
(cG (AB 91) true (AC 96) (AH (AB 95))
(cG (AB 91) true (AC 97) (AO iLe .i64 (AB 94) (AB 96))
(AE (AC 98) (AP (AB 91) (AB 97) (kV (.bool false)))
(cG (AB 98) false (AC 100) (AG (AB 17))
(cG (AB 98) false (AC 101) (AG (AB 100))
(cG (AB 101) true (AC 102) (AD 2 (AB 16))
(cG (AB 101) true (AC 103) (AH (AB 102))
(cG (AB 101) true (AC 104) (AD 1 (AB 10))
(cG (AB 101) true (AC 105) (AH (AB 104))
(cG (AB 101) true (AC 106) (AO iNe .i64 (AB 103) (AB 105))
(cG (AB 101) true (AC 107) (AG (AB 106))
(cG (AB 107) false (AC 108) (AG (AB 12))
(cG (AB 107) false (AC 109) (AD 0 (AB 16))
(cG (AB 107) false (AC 110) (AH (AB 109))
(cG (AB 107) false (AC 111) (Ay 1 (AB 108) (AB 110))
(cG (AB 107) false (AC 112) (AH (AB 111))
(cG (AB 107) false (AC 113) (A8 (AB 112))
(cG (AB 101) true (AC 114) (AP (AB 107) (kV (.bool true)) (AB 113))
(cG (AB 101) true (AC 115) (AG (AB 114))
(cG (AB 115) false (AC 116) (AD 5 (AB 10))
(cG (AB 115) false (AC 117) (AH (AB 116))
(cG (AB 115) false (AC 118) (Ak (AB 117))
(cG (AB 115) false (AC 119) (AD 2 (AB 10))
(cG (AB 115) false (AC 120) (AH (AB 119))
(cG (AB 115) false (AC 121) (AO iLt .i64 (AB 118) (AB 120))
(cG (AB 101) true (AC 122) (AP (AB 115) (kV (.bool true)) (AB 121))
(cG (AB 98) false (AC 123) (AP (AB 101) (AB 122) (kV (.bool false)))
(AE (AC 124) (AP (AB 98) (kV (.bool true)) (AB 123))
(cG (AB 124) false (AC 126) (AD 1 (AB 16))
(cG (AB 124) false (AC 127) (AH (AB 126))
(cG (AB 124) false (AC 128) (AO iEq .u8 (AB 127) (kV (.int .u8 1)))
(cG (AB 124) false (AC 129) (AG (AB 128))
(cG (AB 129) true (AC 130) (AD 2 (AB 16))
(cG (AB 129) true (AC 131) (AH (AB 130))
(cG (AB 129) true (AC 132) (AD 1 (AB 10))
(cG (AB 129) true (AC 133) (AH (AB 132))
(cG (AB 129) true (AC 134) (AO iNe .i64 (AB 131) (AB 133))
(cG (AB 124) false (AC 135) (AP (AB 129) (AB 134) (kV (.bool false)))
(AE (AC 136) (AP (AB 124) (kV (.bool true)) (AB 135))
(AS (AB 136)
(AE (AC 8) (AG (kV (.bool false)))
Aj)
AU)))))))))))))))))))))))))))))))))))))))))))))))))))))))))))
(AE (AC 137) (BD .i64 (Au .i64) (AB 77) (kV (.int .i64 1)))
(AE (AC 77) (AG (AB 137))
AU)))
(A3 2)))))
(AE (AC 138) (AL 7 (AB 10))
(AE (AC 139) (AL 13 (AB 14))
(AE (AC 140) (AX 8 [(AB 138), (AB 139)])
(AE (AC 18) (At 3 C7)
(cDo (AN 3 (AB 18) (AB 140))
(AE (AC 141) (AL 7 (AB 10))
(AE (AC 19) (At 7 DF)
(cDo (AN 7 (AB 19) (AB 141))
(AE (AC 20) (AG (kV (.int .i64 0)))
(AE (AC 142) (AD 2 (AB 14))
(AE (AC 143) (AH (AB 142))
(As (AS (AB 143)
(AE (AC 145) (AL 7 (AB 10))
(AE (AC 146) (AD 0 (AB 14))
(AE (AC 147) (AH (AB 146))
(AE (AC 148) (AX 9 [(AB 145), (AB 147)])
(AE (AC 149) (Ai 0 (AB 148))
(AE (AC 150) (Ai 1 (AB 148))
(cDo (AN 7 (AB 10) (AB 149))
(AE (AC 20) (AG (AB 150))
AU))))))))
(AE (AC 152) (AL 7 (AB 10))
(AE (AC 153) (AL 3 (AB 18))
(AE (AC 154) (AD 6 (AB 14))
(AE (AC 155) (AL 7 (AB 154))
(AE (AC 156) (AX 10 [(AB 152), (AB 153), (AB 155)])
(AE (AC 157) (Ai 0 (AB 156))
(AE (AC 158) (Ai 1 (AB 156))
(cDo (AN 7 (AB 10) (AB 157))
(AE (AC 20) (AG (AB 158))
(AE (AC 159) (AD 0 (AB 18))
(AE (AC 160) (AH (AB 159))
(AE (AC 21) (AG (AB 160))
(AE (AC 162) (AO iGe .i64 (AB 21) (kV (.int .i64 0)))
(cG (AB 162) true (AC 164) (AG (AB 21))
(cG (AB 162) true (AC 165) (AG (AB 9))
(cG (AB 162) true (AC 166) (AO iLt .i64 (AB 164) (AB 165))
(AE (AC 167) (AP (AB 162) (AB 166) (kV (.bool false)))
(cG (AB 167) true (AC 169) (AD 6 (AB 14))
(cG (AB 167) true (AC 170) (AD 3 (AB 169))
(cG (AB 167) true (AC 171) (AH (AB 170))
(cG (AB 167) true (AC 172) (AO iEq .i64 (AB 171) (kV (.int .i64 12)))
(cG (AB 167) true (AC 173) (AG (AB 172))
(cG (AB 173) true (AC 174) (AD 1 (AB 18))
(cG (AB 173) true (AC 175) (AH (AB 174))
(cG (AB 173) true (AC 176) (AO iEq .u8 (AB 175) (kV (.int .u8 4)))
(cG (AB 167) true (AC 177) (AP (AB 173) (AB 176) (kV (.bool false)))
(cG (AB 167) true (AC 178) (AG (AB 177))
(cG (AB 178) false (AC 179) (AD 6 (AB 14))
(cG (AB 178) false (AC 180) (AD 3 (AB 179))
(cG (AB 178) false (AC 181) (AH (AB 180))
(cG (AB 178) false (AC 182) (AO iEq .i64 (AB 181) (kV (.int .i64 60)))
(cG (AB 178) false (AC 183) (AG (AB 182))
(cG (AB 183) true (AC 184) (AD 1 (AB 18))
(cG (AB 183) true (AC 185) (AH (AB 184))
(cG (AB 183) true (AC 186) (AO iEq .u8 (AB 185) (kV (.int .u8 1)))
(cG (AB 178) false (AC 187) (AP (AB 183) (AB 186) (kV (.bool false)))
(cG (AB 167) true (AC 188) (AP (AB 178) (kV (.bool true)) (AB 187))
(AE (AC 189) (AP (AB 167) (AB 188) (kV (.bool false)))
(AS (AB 189)
(AE (AC 192) (Ay 1 (AB 12) (AB 21))
(cDo (AN 1 (AB 192) (kV (.bool true)))
AU))
AU))))))))))))))))))))))))))))))))))))))))
(AE (AC 194) (AO iNe .i64 (AB 20) (kV (.int .i64 0)))
(cG (AB 194) true (AC 196) (AL 7 (AB 10))
(cG (AB 194) true (AC 197) (AL 7 (AB 19))
(cG (AB 194) true (AC 198) (AX 11 [(AB 196), (AB 197)])
(cG (AB 194) true (AC 199) (A8 (AB 198))
(AE (AC 200) (AP (AB 194) (AB 199) (kV (.bool false)))
(cG (AB 200) false (AC 202) (AL 7 (AB 10))
(cG (AB 200) false (AC 203) (AX 12 [(AB 202)])
(cG (AB 200) false (AC 204) (A8 (AB 203))
(AE (AC 205) (AP (AB 200) (kV (.bool true)) (AB 204))
(cG (AB 205) false (AC 207) (AD 3 (AB 19))
(cG (AB 205) false (AC 208) (AH (AB 207))
(cG (AB 205) false (AC 209) (AO iNe .i64 (AB 208) (kV (.int .i64 1)))
(cG (AB 205) false (AC 210) (AG (AB 209))
(cG (AB 210) true (AC 211) (AL 7 (AB 10))
(cG (AB 210) true (AC 212) (AL 7 (AB 19))
(cG (AB 210) true (AC 213) (AX 11 [(AB 211), (AB 212)])
(cG (AB 210) true (AC 214) (A8 (AB 213))
(cG (AB 205) false (AC 215) (AP (AB 210) (AB 214) (kV (.bool false)))
(AE (AC 216) (AP (AB 205) (kV (.bool true)) (AB 215))
(AS (AB 216)
(AE (AC 8) (AG (kV (.bool false)))
Aj)
AU))))))))))))))))))))))))))))))))))))))))))))))))))))))))))))
(AE (AC 52) (BD .i64 (Au .i64) (AB 13) (kV (.int .i64 1)))
(AE (AC 13) (AG (AB 52))
AU)))
(A3 0)))))))
def RX : C := (AE (AC 45) (Ak (AB 3))
(AE (AC 46) (AO iLt .i64 (AB 13) (AB 45))
(cG (AB 46) true (AC 48) (AG (AB 13))
(cG (AB 46) true (AC 49) (AO iLt .i64 (AB 48) (kV (.int .i64 80)))
(AE (AC 50) (AP (AB 46) (AB 49) (kV (.bool false)))
(AS (AB 50)
(As (Ab 1 (AE (AC 55) (Ay 13 (AB 3) (AB 13))
(AE (AC 56) (AL 13 (AB 55))
(AE (AC 14) (At 13 NY)
(cDo (AN 13 (AB 14) (AB 56))
(AE (AC 57) (AD 0 (AB 14))
(AE (AC 58) (AH (AB 57))
(AE (AC 60) (AX 6 [(AB 58), (AB 9)])
(AE (AC 61) (AD 0 (AB 14))
(cDo (AN 1 (AB 61) (AB 60))
(AE (AC 62) (AD 6 (AB 14))
(AE (AC 63) (AD 4 (AB 62))
(AE (AC 64) (AH (AB 63))
(AE (AC 65) (Ak (AB 64))
(AE (AC 66) (AO iGt .i64 (AB 65) (kV (.int .i64 60)))
(cG (AB 66) false (AC 68) (AD 6 (AB 14))
(cG (AB 66) false (AC 69) (AD 5 (AB 68))
(cG (AB 66) false (AC 70) (AH (AB 69))
(cG (AB 66) false (AC 71) (Ak (AB 70))
(cG (AB 66) false (AC 72) (AO iGt .i64 (AB 71) (kV (.int .i64 100)))
(AE (AC 73) (AP (AB 66) (kV (.bool true)) (AB 72))
(AS (AB 73)
(A3 1)
sfR))))))))))))))))))))))
(AE (AC 52) (BD .i64 (Au .i64) (AB 13) (kV (.int .i64 1)))
(AE (AC 13) (AG (AB 52))
AU)))
(A3 0)))))))
theorem KT : sfL = RX := rfl
def OpAt (h : Hp) (u : Value) (i : Nat) : Prop := ∃ a o ui ub il l, (∀ g, h.Ext g → Cn 13 u (.int .i64 (i : Int)) g = .ok (.pointer (some a)) g ∧ loadN 13 a g = .ok (opV o ui ub) g) ∧ h.Inf ui il ∧ h.By ub l ∧ OkE o.er
structure OpsIn (h : Hp) (u : Value) (n cap : Nat) : Prop where
  len : ∀ g : Hp, lenSR u g = .ok (.int .i64 (n : Int)) g
  at_ : ∀ i, i < n → i < cap → OpAt h u i
theorem Oc {m : MD} {o : OP} (hr : RightP m) (ho : OkE o.er) : OkE (C9 m o) := by
  unfold C9
  split
  · exact ho
  · cases hf : (CB m).find? fun w => decide (w.1 = o.idx) with
    | none => exact ho
    | some w =>
      obtain ⟨_, j, hj, _, rfl⟩ := Jp (List.mem_of_find?_eq_some hf)
      exact OS hr hj
structure SfI (h h' : Hp) (b10 b12 N : Nat) (m : MD) (um uw us : Value) (bs : List Bool) : Prop where
  x : h.Ext h'
  R10 : h'.Row b10 0 (mendL m um uw us)
  R12 : h'.Row b12 0 (bs.map .bool)
  M : h'.Md (fun b => b ≠ b10 ∧ b ≠ b12) m um uw us
  hr : RightP m
  hbs : bs.length = N
  hN : m.marks.length = N
  hb : BadI m bs
theorem SfI.ext {h h' g : Hp} {b10 b12 N : Nat} {m : MD} {um uw us : Value} {bs : List Bool} (I : SfI h h' b10 b12 N m um uw us bs) (x : h'.Ext g) : SfI h g b10 b12 N m um uw us bs :=
  ⟨I.x.trans x, I.R10.ext I.x.wf x, I.R12.ext I.x.wf x, I.M.ext I.x.wf x, I.hr, I.hbs, I.hN, I.hb⟩
theorem RY {n : Nat} {h h' : Hp} (W : h.Wf) {b10 b12 b14 N : Nat} {m : MD} {um uw us ui ub : Value} {bs : List Bool} {o : OP} {il : List IN} {l : List Nat} {r : Nat} (I : SfI h h' b10 b12 N m um uw us bs) (h10 : h.next ≤ b10) (h12 : h.next ≤ b12) (h1012 : b10 < b12) (R14 : h'.Row b14 0 (opL o ui ub)) (h14 : b12 < b14) (hor : o.idx = (r : Int)) (hrN : r < N) (J : h.Inf ui il) (hil : il.length < 800000) (V : h.By ub l) (ho : OkE o.er) {e : Env} (s9 : AB 9 e = .int .i64 (N : Int)) (s10 : AB 10 e = pt b10) (s12 : AB 12 e = .slice (some ⟨b12, 0, none⟩) N N) (s14 : AB 14 e = pt b14) :
    ∃ e' g m' um' uw' us' bs', PQ (call AK (n + 6)) e h' = .norm e' g ∧ SfI h g b10 b12 N m' um' uw' us' bs' ∧ DQ e e' := by
  have W' := I.x.wf
  have big := W.big
  have hx := I.x.next
  obtain ⟨_, _, _, _, _, _, _, l7⟩ := Am I.R10
  obtain ⟨q0, q1, q2, q3, q9, q10, q11, q6, q13⟩ := DV R14
  obtain ⟨h1, k1, x1⟩ := Ob (n := n) (ui := ui) (ub := ub) (o := o) W' I.M I.hr
  have ow := Oc I.hr ho
  generalize hw : C9 m o = w at k1 ow
  have z1 := x1.next
  obtain ⟨h2, al2, Z2, x2, n2⟩ := Bm x1.wf (n := 3) EU rfl
  obtain ⟨h3, st3, Z3, x3, n3, o3⟩ := Av x2 Z2 (Nat.le_refl _) (by omega) (CI w) (n := 3) (off := 0) rfl (Nat.le_refl _) rfl
  rw [A5 (by rfl)] at Z3
  have Z3 : h3.Row h1.next 0 (errL w) := Z3
  have y3 := x1.trans x3
  obtain ⟨_, _, _, _, _, _, _, l7b⟩ := Am (I.R10.ext W' y3)
  obtain ⟨h4, al4, Z4, x4, n4⟩ := Bm x3.wf (n := 7) Dz rfl
  obtain ⟨h5, st5, Z5, x5, n5, o5⟩ := Av x4 Z4 (Nat.le_refl _) (by omega) (mendV m um uw us) (n := 7) (off := 0) rfl (Nat.le_refl _) I.M.all
  rw [A5 (by rfl)] at Z5
  have Z5 : h5.Row h3.next 0 (mendL m um uw us) := Z5
  have y5 := y3.trans x5
  have I5 := I.ext y5
  have R14b := R14.ext W' y5
  have R18 := Z3.ext x3.wf x5
  obtain ⟨_, _, _, _, _, _, _, p7⟩ := Am I5.R10
  obtain ⟨r0, r1, r2, r3, r9, r10, r11, r6, r13⟩ := DV R14b
  obtain ⟨v0, v1, v2, v3⟩ := Bp R18
  have z3 := x3.next
  have z5 := x5.next
  cases hL : o.lost
  ·
    rw [hL] at r2
    obtain ⟨h6, m', um', uw', us', c, k6, x6, M6, hr6, hT⟩ := Rs (n := n) (t := o.t) I5.x.wf I5.M I5.hr ow (V.ext W I5.x) (J.ext W I5.x) hil
    have z6 := x6.next
    have b10lt := I5.R10.lt I5.x.wf
    have b12lt := I5.R12.lt I5.x.wf
    have b14lt := R14b.lt I5.x.wf
    have M6' : h6.Md (fun b => b ≠ b10 ∧ b ≠ b12) m' um' uw' us' := M6.mono fun b hb => by
      rcases hb with ⟨hb, _⟩ | hb
      · exact hb
      · omega
    obtain ⟨h7, st7, Z7, x7, n7, o7⟩ := Av (I5.x.trans x6) (I5.R10.ext I5.x.wf x6) h10 (by omega) (mendV m' um' uw' us') (n := 7) (off := 0) rfl (Nat.le_refl _) M6.all
    rw [A5 (by rfl)] at Z7
    have Z7 : h7.Row b10 0 (mendL m' um' uw' us') := Z7
    have M7 : h7.Md (fun b => b ≠ b10 ∧ b ≠ b12) m' um' uw' us' := M6'.keep fun b el L hb r => o7 _ _ _ hb.1 r
    have Mw : h7.Md (fun b => b ≠ b10 ∧ b ≠ b12) m um uw us := (I5.M.ext I5.x.wf x6).keep fun b el L hb r => o7 _ _ _ hb.1 r
    have R12c := o7 _ _ _ (show b12 ≠ b10 by omega) (I5.R12.ext I5.x.wf x6)
    have R14c := o7 _ _ _ (show b14 ≠ b10 by omega) (R14b.ext I5.x.wf x6)
    have R18c := o7 _ _ _ (show h1.next ≠ b10 by omega) (R18.ext I5.x.wf x6)
    have R19c := o7 _ _ _ (show h3.next ≠ b10 by omega) (Z5.ext I5.x.wf x6)
    have hlen' : m'.marks.length = N := (QU hT).trans I.hN
    have pre : ∃ e1, PQ (call AK (n + 6)) e h' = Ff (sfU (call AK (n + 6)) e1 h7) PR (call AK (n + 6)) ∧ AB 9 e1 = .int .i64 (N : Int) ∧ AB 10 e1 = pt b10 ∧ AB 12 e1 = .slice (some ⟨b12, 0, none⟩) N N ∧ AB 14 e1 = pt b14 ∧ AB 18 e1 = pt h1.next ∧ AB 19 e1 = pt h3.next ∧ AB 20 e1 = .int .i64 c ∧ AB 3 e1 = AB 3 e ∧ AB 13 e1 = AB 13 e := by
      rw [OI]
      unfold RZ
      rw [Zc]
      unfold fH
      simp only [Bo, Ch, Bf, Bb, Bq, Ci, BW, BN, Bz, AF, Nat.reduceLT, Nat.reduceEqDiff, if_true, if_false, reduceIte, Aa, s10, s14, AV, l7, q13, Ao, Ae, Al, k1, al2, Ad, st3, l7b, al4, st5, AJ, AM, Nat.zero_add, AQ, AW, r2, p7, v3, r6, k6, CQ, Ca, Cb, st7]
      exact ⟨_, rfl, by simp only [AF, Nat.reduceLT, Nat.reduceEqDiff, if_true, if_false, reduceIte]; exact s9, by simp only [AF, Nat.reduceLT, Nat.reduceEqDiff, if_true, if_false, reduceIte]; exact s10, by simp only [AF, Nat.reduceLT, Nat.reduceEqDiff, if_true, if_false, reduceIte]; exact s12, by simp only [AF, Nat.reduceLT, Nat.reduceEqDiff, if_true, if_false, reduceIte]; exact s14, by simp [AF], by simp [AF], by simp [AF], by simp [AF], by simp [AF]⟩
    obtain ⟨e1, p, t9, t10, t12, t14, t18, t19, t20, t3, t13⟩ := pre
    obtain ⟨e2, u0, u189, u21, uk, u19, u20⟩ := Ue (F := call AK (n + 6)) R14c R18c t9 t14 t18
    have k1c : ¬ c = 0 → m' = m := fun hc => by
      rcases hT with ⟨_, hm, _⟩ | ⟨i, _, _, hc0, _⟩
      · exact hm
      · exact absurd hc0 hc
    have k2c : ¬ m.ph = 1 → m' = m := fun hp => by
      rcases hT with ⟨_, hm, _⟩ | ⟨i, _, _, _, ⟨_, hm⟩ | ⟨⟨h1, _⟩, _⟩⟩
      · exact hm
      · exact hm
      · exact absurd h1 hp
    have hb' := Po (by rw [I.hbs, I.hN]) I.hb hT
    by_cases hc : ((decide (0 ≤ w.1) && decide (w.1 < (N : Int))) && FB o.t.err w.2.1) = true
    · rw [hc] at u189
      simp only [Bool.and_eq_true, decide_eq_true_eq] at hc
      obtain ⟨⟨hc1, hc2⟩, hc3⟩ := hc
      obtain ⟨j, hj⟩ := Int.eq_ofNat_of_zero_le hc1
      have hjN : j < N := by omega
      have ib : Cn 1 (.slice (some ⟨b12, 0, none⟩) N N) (.int .i64 w.1) h7 = .ok (.pointer (some ⟨b12, j, none⟩)) h7 := by
        rw [hj]
        have := Bx (h := h7) (n := N) (c := N) (es := 1) (b := b12) (off := 0) (k := .i64) (i := j) hjN
        rwa [Nat.zero_add, Nat.mul_one] at this
      have hbl : (bs.map Value.bool).length = N := by rw [List.length_map]; exact I.hbs
      obtain ⟨h8, st8, Z8, x8, n8, o8⟩ := Av x7 R12c h12 (by omega) (.bool true) (n := 1) (off := j) rfl (by omega) rfl
      rw [show cellsOf (.bool true) = [.bool true] from rfl, C2 (by omega), ← List.map_set] at Z8
      have hbb : Jy m bs w o.t.err = bs.set j true := by
        unfold Jy
        rw [if_pos ⟨⟨hc1, by rw [I.hN]; exact hc2⟩, hc3⟩, hj]; rfl
      rw [hbb] at hb'
      have run : ∃ e3, sfV (call AK (n + 6)) e2 h7 = .norm e3 h8 ∧ AB 19 e3 = AB 19 e2 ∧ AB 20 e3 = AB 20 e2 ∧ DQ e2 e3 := by
        unfold sfV DQ
        have w12 : AB 12 e2 = .slice (some ⟨b12, 0, none⟩) N N := uk.2.2.2.1.trans t12
        simp only [sT, Nat.reduceLT, Nat.reduceEqDiff, if_true, if_false, reduceIte, u189, w12, u21, A7, ib, Ad, st8]
        exact ⟨_, rfl, by simp [AF], by simp [AF], by simp [AF], by simp [AF], by simp [AF], by simp only [AF, Nat.reduceLT, Nat.reduceEqDiff, if_true, if_false, reduceIte]; exact w12, by simp [AF]⟩
      obtain ⟨e3, w1, w19, w20, wk⟩ := run
      have M8 : h8.Md (fun b => b ≠ b10 ∧ b ≠ b12) m' um' uw' us' := M7.keep fun b el L hb r => o8 _ _ _ hb.2 r
      have R10d := o8 _ _ _ (show b10 ≠ b12 by omega) Z7
      obtain ⟨e4, h9, y1, y2, y3⟩ := KU (n := n) x8 R10d (o8 _ _ _ (show h3.next ≠ b12 by omega) R19c) M8 (Mw.keep fun b el L hb r => o8 _ _ _ hb.2 r) hr6 k1c k2c (wk.2.2.1.trans (uk.2.2.1.trans t10)) (w19.trans (u19.trans t19)) (w20.trans (u20.trans t20))
      refine ⟨e4, h9, m', um', uw', us', bs.set j true, ?_, (SfI.mk x8 R10d Z8 M8 hr6 (by rw [List.length_set]; exact I.hbs) hlen' hb').ext y2, DQ.trans (DQ.trans (DQ.trans ⟨t3, t9.trans s9.symm, t10.trans s10.symm, t12.trans s12.symm, t13⟩ uk) wk) y3⟩
      rw [p, u0, w1, A6, y1]
    · have hcf : ((decide (0 ≤ w.1) && decide (w.1 < (N : Int))) && FB o.t.err w.2.1) = false := by simpa using hc
      rw [hcf] at u189
      have hbb : Jy m bs w o.t.err = bs := by
        unfold Jy
        rw [if_neg]
        rintro ⟨⟨a, b⟩, d⟩
        refine hc ?_
        rw [I.hN] at b
        simp [a, b, d]
      rw [hbb] at hb'
      have run : sfV (call AK (n + 6)) e2 h7 = .norm e2 h7 := by
        unfold sfV
        simp only [sT, Nat.reduceLT, Nat.reduceEqDiff, if_true, if_false, reduceIte, u189]
      obtain ⟨e4, h9, y1, y2, y3⟩ := KU (n := n) x7 Z7 R19c M7 Mw hr6 k1c k2c (uk.2.2.1.trans t10) (u19.trans t19) (u20.trans t20)
      refine ⟨e4, h9, m', um', uw', us', bs, ?_, (SfI.mk x7 Z7 R12c M7 hr6 I.hbs hlen' hb').ext y2, DQ.trans (DQ.trans ⟨t3, t9.trans s9.symm, t10.trans s10.symm, t12.trans s12.symm, t13⟩ uk) y3⟩
      rw [p, u0, run, A6, y1]
  ·
    rw [hL] at r2
    have hi : r < m.marks.length := by rw [I.hN]; exact hrN
    obtain ⟨h6, um', uw', us', k6, x6, M6⟩ := QW (n := n + 1) I5.x.wf I5.M I5.hr hi
    have z6 := x6.next
    have b10lt := I5.R10.lt I5.x.wf
    have b12lt := I5.R12.lt I5.x.wf
    have M6' : h6.Md (fun b => b ≠ b10 ∧ b ≠ b12) (DJ m r) um' uw' us' := M6.mono fun b hb => by
      rcases hb with ⟨hb, _⟩ | hb
      · exact hb
      · omega
    have hr6 := LP I.hr hi
    obtain ⟨h7, st7, Z7, x7, n7, o7⟩ := Av (I5.x.trans x6) (I5.R10.ext I5.x.wf x6) h10 (by omega) (mendV (DJ m r) um' uw' us') (n := 7) (off := 0) rfl (Nat.le_refl _) M6.all
    rw [A5 (by rfl)] at Z7
    have Z7 : h7.Row b10 0 (mendL (DJ m r) um' uw' us') := Z7
    have M7 : h7.Md (fun b => b ≠ b10 ∧ b ≠ b12) (DJ m r) um' uw' us' := M6'.keep fun b el L hb r => o7 _ _ _ hb.1 r
    have Mw : h7.Md (fun b => b ≠ b10 ∧ b ≠ b12) m um uw us := (I5.M.ext I5.x.wf x6).keep fun b el L hb r => o7 _ _ _ hb.1 r
    have R12c := o7 _ _ _ (show b12 ≠ b10 by omega) (I5.R12.ext I5.x.wf x6)
    have R19c := o7 _ _ _ (show h3.next ≠ b10 by omega) (Z5.ext I5.x.wf x6)
    have r0 : load1 ⟨b14, 0, none⟩ h5 = .ok (.int .i64 (r : Int)) h5 := hor ▸ r0
    have pre : ∃ e1, PQ (call AK (n + 6)) e h' = PR (call AK (n + 6)) e1 h7 ∧ AB 10 e1 = pt b10 ∧ AB 19 e1 = pt h3.next ∧ AB 20 e1 = .int .i64 0 ∧ DQ e e1 := by
      rw [OI]
      unfold RZ sfO DQ
      simp only [Bo, Ch, Bf, Bb, DN, Bq, Ci, Bw, A6, BN, Bz, AF, Nat.reduceLT, Nat.reduceEqDiff, if_true, if_false, reduceIte, Aa, s10, s14, AV, l7, q13, Ao, Ae, Al, k1, al2, Ad, st3, l7b, al4, st5, AJ, AM, Nat.zero_add, AQ, AW, r2, p7, r0, k6, CQ, Ca, Cb, st7]
      exact ⟨_, rfl, by simp only [AF, Nat.reduceLT, Nat.reduceEqDiff, if_true, if_false, reduceIte]; exact s10, by simp [AF], by simp [AF], by simp [AF], by simp [AF], by simp only [AF, Nat.reduceLT, Nat.reduceEqDiff, if_true, if_false, reduceIte]; exact s10, by simp [AF], by simp [AF]⟩
    obtain ⟨e1, p, t10, t19, t20, tk⟩ := pre
    obtain ⟨e4, h9, y1, y2, y3⟩ := KU (n := n) (c := 0) x7 Z7 R19c M7 Mw hr6 (fun h => absurd rfl h) (fun hp => by unfold DJ; rw [if_neg hp]) t10 t19 t20
    exact ⟨e4, h9, DJ m r, um', uw', us', bs, by rw [p, y1], (SfI.mk x7 Z7 R12c M7 hr6 I.hbs ((QT m r).trans I.hN) (Pn hi I.hb)).ext y2, tk.trans y3⟩
end
end Go.Proofs.Ythcfmklkbakkpaa
set_option linter.unusedVariables false
set_option linter.unusedSimpArgs false
namespace Go.Proofs.Ythcfmklkbakkpaa
noncomputable section
open Go Go.RowKit Go.ChangeShapes
set_option maxRecDepth 100000
theorem Q8 {n : Nat} {h h' : Hp} (W : h.Wf) {b10 b12 N nops i : Nat} {u : Value} {m : MD} {um uw us : Value} {bs : List Bool} (O : OpsIn h u nops 80) (I : SfI h h' b10 b12 N m um uw us bs) (h10 : h.next ≤ b10) (h12 : h.next ≤ b12) (h1012 : b10 < b12) (hN0 : 1 ≤ N) (hN1 : N ≤ 255) (hi : i < nops) (hi80 : i < 80) {e : Env} (s3 : AB 3 e = u) (s9 : AB 9 e = .int .i64 (N : Int)) (s10 : AB 10 e = pt b10) (s12 : AB 12 e = .slice (some ⟨b12, 0, none⟩) N N) (s13 : AB 13 e = .int .i64 (i : Int)) :
    ∃ e' g m' um' uw' us' bs', sfL (call AK (n + 6)) e h' = .norm e' g ∧ SfI h g b10 b12 N m' um' uw' us' bs' ∧ AB 3 e' = u ∧ AB 9 e' = .int .i64 (N : Int) ∧ AB 10 e' = pt b10 ∧ AB 12 e' = .slice (some ⟨b12, 0, none⟩) N N ∧ AB 13 e' = .int .i64 ((i + 1 : Nat) : Int) := by
  have W' := I.x.wf
  have big := W.big
  have hx := I.x.next
  have lnu := O.len h'
  have c1 := GE hi
  have c2 : iLt (i : Int) 80 = true := K8 (by omega)
  obtain ⟨a, o, ui, ub, il, l, hat, J, V, ho⟩ := O.at_ i hi hi80
  obtain ⟨a1, a2⟩ := hat h' I.x
  have hui := J.one
  have hub := V.one
  obtain ⟨h1, al, Z1, x1, n1⟩ := Bm W' (n := 13) Pb rfl
  obtain ⟨h2, st2, Z2, x2, n2, o2⟩ := Av x1 Z1 (Nat.le_refl _) (by omega) (opV o ui ub) (n := 13) (off := 0) rfl (Nat.le_refl _) (ZQ hui hub)
  rw [A5 (by rfl)] at Z2
  have Z2 : h2.Row h'.next 0 (opL o ui ub) := Z2
  obtain ⟨q0, _⟩ := DV Z2
  obtain ⟨r, k1, r0, r1⟩ := RF (n := n + 5) (h := h2) (x := o.idx) (m := (N : Int)) (by omega) (by omega)
  obtain ⟨rn, rfl⟩ := Int.eq_ofNat_of_zero_le r0
  have z2 := x2.next
  obtain ⟨h3, st3, Z3, x3, n3, o3⟩ := Av x2 Z2 (Nat.le_refl _) (by omega) (.int .i64 (rn : Int)) (n := 1) (off := 0) rfl (by show 0 + 1 ≤ 13; omega) rfl
  have Z3 : h3.Row h'.next 0 (opL { o with idx := (rn : Int) } ui ub) := Z3
  have I3 := I.ext x3
  have z3 := x3.next
  have b12lt := I.R12.lt W'
  obtain ⟨p0, p1, p2, p3, p9, p10, p11, p6, p13⟩ := DV Z3
  have li := J.len (g := h3)
  have lb := V.len (g := h3)
  have inc : ∀ (e1 : Env) (g : Hp), AB 13 e1 = .int .i64 (i : Int) → ∃ e2, (AE (AC 52) (BD .i64 (Au .i64) (AB 13) (kV (.int .i64 1))) (AE (AC 13) (AG (AB 52)) AU)) (call AK (n + 6)) e1 g = .norm e2 g ∧ AB 3 e2 = AB 3 e1 ∧ AB 9 e2 = AB 9 e1 ∧ AB 10 e2 = AB 10 e1 ∧ AB 12 e2 = AB 12 e1 ∧ AB 13 e2 = .int .i64 ((i + 1 : Nat) : Int) := fun e1 g h13 => by
    have ad := CW (h := g) (i := i) (by omega)
    simp only [sT, Nat.reduceLT, Nat.reduceEqDiff, if_true, if_false, reduceIte, Bc, h13, ad]
    exact ⟨_, rfl, by simp [AF], by simp [AF], by simp [AF], by simp [AF], by simp [AF]⟩
  by_cases hbig : 60 < il.length ∨ 100 < l.length
  ·
    have run : ∃ e1, sfL (call AK (n + 6)) e h' = (AE (AC 52) (BD .i64 (Au .i64) (AB 13) (kV (.int .i64 1))) (AE (AC 13) (AG (AB 52)) AU)) (call AK (n + 6)) e1 h3 ∧ AB 3 e1 = u ∧ AB 9 e1 = .int .i64 (N : Int) ∧ AB 10 e1 = pt b10 ∧ AB 12 e1 = .slice (some ⟨b12, 0, none⟩) N N ∧ AB 13 e1 = .int .i64 (i : Int) := by
      rw [KT]
      unfold RX
      by_cases h60 : 60 < il.length
      · have f1 : iGt (il.length : Int) 60 = true := F6 (by omega)
        simp only [Bo, Ch, Bf, Bb, BU, GN, Bq, Ci, Bw, BM, A6, BN, Bz, AF, Nat.reduceLT, Nat.reduceEqDiff, if_true, if_false, reduceIte, gD, Ah, s3, lnu, AZ, AY, s13, c1, c2, A7, a1, Aa, AV, a2, al, Ad, st2, AJ, AM, Nat.zero_add, Nat.reduceAdd, AQ, AW, q0, s9, Ao, Ae, Al, k1, st3, p10, li, f1]
        exact ⟨_, rfl, by simp only [AF, Nat.reduceLT, Nat.reduceEqDiff, if_true, if_false, reduceIte]; exact s3, by simp only [AF, Nat.reduceLT, Nat.reduceEqDiff, if_true, if_false, reduceIte]; exact s9, by simp only [AF, Nat.reduceLT, Nat.reduceEqDiff, if_true, if_false, reduceIte]; exact s10, by simp only [AF, Nat.reduceLT, Nat.reduceEqDiff, if_true, if_false, reduceIte]; exact s12, by simp only [AF, Nat.reduceLT, Nat.reduceEqDiff, if_true, if_false, reduceIte]; exact s13⟩
      · have f1 : iGt (il.length : Int) 60 = false := C1 (by omega)
        have f2 : iGt (l.length : Int) 100 = true := F6 (by omega)
        simp only [Bo, Ch, Bf, Bb, BU, GN, Bq, Ci, Bw, BM, A6, BN, Bz, AF, Nat.reduceLT, Nat.reduceEqDiff, if_true, if_false, reduceIte, gD, Ah, s3, lnu, AZ, AY, s13, c1, c2, A7, a1, Aa, AV, a2, al, Ad, st2, AJ, AM, Nat.zero_add, Nat.reduceAdd, AQ, AW, q0, s9, Ao, Ae, Al, k1, st3, p10, li, f1, p11, lb, f2]
        exact ⟨_, rfl, by simp only [AF, Nat.reduceLT, Nat.reduceEqDiff, if_true, if_false, reduceIte]; exact s3, by simp only [AF, Nat.reduceLT, Nat.reduceEqDiff, if_true, if_false, reduceIte]; exact s9, by simp only [AF, Nat.reduceLT, Nat.reduceEqDiff, if_true, if_false, reduceIte]; exact s10, by simp only [AF, Nat.reduceLT, Nat.reduceEqDiff, if_true, if_false, reduceIte]; exact s12, by simp only [AF, Nat.reduceLT, Nat.reduceEqDiff, if_true, if_false, reduceIte]; exact s13⟩
    obtain ⟨e1, p, t3, t9, t10, t12, t13⟩ := run
    obtain ⟨e2, v0, v3, v9, v10, v12, v13⟩ := inc e1 h3 t13
    exact ⟨e2, h3, m, um, uw, us, bs, by rw [p, v0], I3, v3.trans t3, v9.trans t9, v10.trans t10, v12.trans t12, v13⟩
  · have f1 : iGt (il.length : Int) 60 = false := C1 (by omega)
    have f2 : iGt (l.length : Int) 100 = false := C1 (by omega)
    obtain ⟨_, _, _, _, _, _, _, l7⟩ := Am I3.R10
    obtain ⟨h4, v, k4, x4, E4⟩ := L6 (n := n + 1) I3.x.wf I3.M I3.hr
    have I4 := I3.ext x4
    have Z4 := Z3.ext x3.wf x4
    have lnE := E4.len (g := h4)
    have pre : ∃ e1, sfL (call AK (n + 6)) e h' = Ff (CZ 1 (Ff (CZ 2 (A0 sfW (call AK (n + 6)) e1 h4)) PQ (call AK (n + 6)))) (AE (AC 52) (BD .i64 (Au .i64) (AB 13) (kV (.int .i64 1))) (AE (AC 13) (AG (AB 52)) AU)) (call AK (n + 6)) ∧ AB 3 e1 = u ∧ AB 9 e1 = .int .i64 (N : Int) ∧ AB 10 e1 = pt b10 ∧ AB 12 e1 = .slice (some ⟨b12, 0, none⟩) N N ∧ AB 13 e1 = .int .i64 (i : Int) ∧ AB 14 e1 = pt h'.next ∧ AB 75 e1 = v ∧ AB 76 e1 = .int .i64 ((CB m).length : Int) ∧ AB 77 e1 = .int .i64 ((0 : Nat) : Int) := by
      rw [KT]
      unfold RX
      rw [Zb]
      unfold fG
      simp only [Bo, Ch, Bf, Bb, BU, Bq, Ci, Bw, BW, BN, Bz, AF, Nat.reduceLT, Nat.reduceEqDiff, if_true, if_false, reduceIte, gD, Ah, s3, lnu, AZ, AY, s13, c1, c2, A7, a1, Aa, AV, a2, al, Ad, st2, AJ, AM, Nat.zero_add, Nat.reduceAdd, AQ, AW, q0, s9, Ao, Ae, Al, k1, st3, p10, li, f1, p11, lb, f2, s10, l7, k4, lnE]
      exact ⟨_, rfl, by simp only [AF, Nat.reduceLT, Nat.reduceEqDiff, if_true, if_false, reduceIte]; exact s3, by simp only [AF, Nat.reduceLT, Nat.reduceEqDiff, if_true, if_false, reduceIte]; exact s9, by simp only [AF, Nat.reduceLT, Nat.reduceEqDiff, if_true, if_false, reduceIte]; exact s10, by simp only [AF, Nat.reduceLT, Nat.reduceEqDiff, if_true, if_false, reduceIte]; exact s12, by simp only [AF, Nat.reduceLT, Nat.reduceEqDiff, if_true, if_false, reduceIte]; exact s13, by simp [AF], by simp [AF], by simp [AF], by simp only [AF, Nat.reduceLT, Nat.reduceEqDiff, if_true, if_false, reduceIte]; rfl⟩
    obtain ⟨e1, p, t3, t9, t10, t12, t13, t14, t75, t76, t77⟩ := pre
    obtain ⟨e2, h5, w0, x5, wk⟩ := Uk (F := call AK (n + 6)) (N := N) I4.x.wf I4.hr I4.M I4.R10 I4.R12 (I4.hbs.trans I4.hN.symm) I4.hN.symm E4 I4.hb t10 t12 t75 t76 t77
    have w3 := (wk 3 (by simp)).trans t3
    have w9 := (wk 9 (by simp)).trans t9
    have w10 := (wk 10 (by simp)).trans t10
    have w12 := (wk 12 (by simp)).trans t12
    have w13 := (wk 13 (by simp)).trans t13
    have w14 := (wk 14 (by simp)).trans t14
    obtain ⟨e3, g, m', um', uw', us', bs', y0, I6, yk⟩ := RY (n := n) (o := { o with idx := (rn : Int) }) (r := rn) W (I4.ext x5) h10 h12 h1012 (Z4.ext x4.wf x5) (by omega) rfl (by omega) J (by omega) V ho w9 w10 w12 w14
    obtain ⟨e4, v0, v3, v9, v10, v12, v13⟩ := inc e3 g (yk.2.2.2.2.trans w13)
    refine ⟨e4, g, m', um', uw', us', bs', ?_, I6, v3.trans (yk.1.trans w3), v9.trans (yk.2.1.trans w9), v10.trans (yk.2.2.1.trans w10), v12.trans (yk.2.2.2.1.trans w12), v13⟩
    rw [p, w0]
    simp only [BM, A6, y0, EH, v0]
theorem PP {n : Nat} {h h' : Hp} (W : h.Wf) {b10 b12 N nops : Nat} {u : Value} {m : MD} {um uw us : Value} {bs : List Bool} (O : OpsIn h u nops 80) (I : SfI h h' b10 b12 N m um uw us bs) (h10 : h.next ≤ b10) (h12 : h.next ≤ b12) (h1012 : b10 < b12) (hN0 : 1 ≤ N) (hN1 : N ≤ 255) {e : Env} (s3 : AB 3 e = u) (s9 : AB 9 e = .int .i64 (N : Int)) (s10 : AB 10 e = pt b10) (s12 : AB 12 e = .slice (some ⟨b12, 0, none⟩) N N) (s13 : AB 13 e = .int .i64 ((0 : Nat) : Int)) :
    ∃ e' g, A0 sfL (call AK (n + 6)) e h' = .exit 0 e' g ∧ h.Ext g := by
  refine B7 (I := fun i e' g => i ≤ 80 ∧ AB 3 e' = u ∧ AB 9 e' = .int .i64 (N : Int) ∧ AB 10 e' = pt b10 ∧ AB 12 e' = .slice (some ⟨b12, 0, none⟩) N N ∧ AB 13 e' = .int .i64 (i : Int) ∧ ∃ m um uw us bs, SfI h g b10 b12 N m um uw us bs)
    (Q := fun x => ∃ e' g, x = .exit 0 e' g ∧ h.Ext g) 80 (by omega) (fun i e' g ⟨hi, t3, t9, t10, t12, t13, m, um, uw, us, bs, J⟩ => ?_) ⟨by omega, s3, s9, s10, s12, s13, m, um, uw, us, bs, I⟩
  have lnu := O.len g
  by_cases h1 : i < nops
  · by_cases h2 : i < 80
    · left
      obtain ⟨e2, g2, m', um', uw', us', bs', q, J2, q3, q9, q10, q12, q13⟩ := Q8 (n := n) W O J h10 h12 h1012 hN0 hN1 h1 h2 t3 t9 t10 t12 t13
      exact ⟨h2, e2, g2, q, h2, q3, q9, q10, q12, q13, m', um', uw', us', bs', J2⟩
    · right
      have c1 := GE h1
      have c2 : iLt (i : Int) 80 = false := EL (by omega)
      have run : ∃ e2, sfL (call AK (n + 6)) e' g = .exit 0 e2 g := by
        rw [KT]
        unfold RX
        simp only [sT, Nat.reduceLT, Nat.reduceEqDiff, if_true, if_false, reduceIte, gD, Ah, t3, lnu, AZ, AY, t13, c1, c2]
        exact ⟨_, rfl⟩
      obtain ⟨e2, q⟩ := run
      rw [q]
      exact ⟨rfl, e2, g, rfl, J.x⟩
  · right
    have c1 := EO (a := i) (b := nops) (by omega)
    have run : ∃ e2, sfL (call AK (n + 6)) e' g = .exit 0 e2 g := by
      rw [KT]
      unfold RX
      simp only [sT, Nat.reduceLT, Nat.reduceEqDiff, if_true, if_false, reduceIte, gD, Ah, t3, lnu, AZ, AY, t13, c1]
      exact ⟨_, rfl⟩
    obtain ⟨e2, q⟩ := run
    rw [q]
    exact ⟨rfl, e2, g, rfl, J.x⟩
def sfP : C := (As (Ab 0 (A0 (AE (AC 45) (Ak (AB 3))
(AE (AC 46) (AO iLt .i64 (AB 13) (AB 45))
(cG (AB 46) true (AC 48) (AG (AB 13))
(cG (AB 46) true (AC 49) (AO iLt .i64 (AB 48) (kV (.int .i64 80)))
(AE (AC 50) (AP (AB 46) (AB 49) (kV (.bool false)))
(AS (AB 50)
(As (Ab 1 (AE (AC 55) (Ay 13 (AB 3) (AB 13))
(AE (AC 56) (AL 13 (AB 55))
(AE (AC 14) (At 13 NY)
(cDo (AN 13 (AB 14) (AB 56))
(AE (AC 57) (AD 0 (AB 14))
(AE (AC 58) (AH (AB 57))
(AE (AC 60) (AX 6 [(AB 58), (AB 9)])
(AE (AC 61) (AD 0 (AB 14))
(cDo (AN 1 (AB 61) (AB 60))
(AE (AC 62) (AD 6 (AB 14))
(AE (AC 63) (AD 4 (AB 62))
(AE (AC 64) (AH (AB 63))
(AE (AC 65) (Ak (AB 64))
(AE (AC 66) (AO iGt .i64 (AB 65) (kV (.int .i64 60)))
(cG (AB 66) false (AC 68) (AD 6 (AB 14))
(cG (AB 66) false (AC 69) (AD 5 (AB 68))
(cG (AB 66) false (AC 70) (AH (AB 69))
(cG (AB 66) false (AC 71) (Ak (AB 70))
(cG (AB 66) false (AC 72) (AO iGt .i64 (AB 71) (kV (.int .i64 100)))
(AE (AC 73) (AP (AB 66) (kV (.bool true)) (AB 72))
(AS (AB 73)
(A3 1)
(AE (AC 74) (AL 7 (AB 10))
(AE (AC 75) (AX 7 [(AB 74)])
(AE (AC 76) (Ak (AB 75))
(AE (AC 77) (AG (kV (.int .i64 0)))
(As (Ab 2 (A0 (AE (AC 78) (AO iLt .i64 (AB 77) (AB 76))
(AS (AB 78)
(As (Ab 3 (AE (AC 79) (Ay 3 (AB 75) (AB 77))
(AE (AC 80) (AL 3 (AB 79))
(AE (AC 16) (At 3 C7)
(cDo (AN 3 (AB 16) (AB 80))
(AE (AC 81) (AD 1 (AB 16))
(AE (AC 82) (AH (AB 81))
(AE (AC 83) (AO iEq .u8 (AB 82) (kV (.int .u8 6)))
(cG (AB 83) true (AC 85) (AD 1 (AB 10))
(cG (AB 83) true (AC 86) (AH (AB 85))
(cG (AB 83) true (AC 87) (AO iGt .i64 (AB 86) (kV (.int .i64 0)))
(AE (AC 88) (AP (AB 83) (AB 87) (kV (.bool false)))
(AE (AC 17) (AG (AB 88))
(AE (AC 89) (AD 1 (AB 16))
(AE (AC 90) (AH (AB 89))
(AE (AC 91) (AO iEq .u8 (AB 90) (kV (.int .u8 3)))
(cG (AB 91) true (AC 93) (AD 2 (AB 16))
(cG (AB 91) true (AC 94) (AH (AB 93))
(cG (AB 91) true (AC 95) (AD 1 (AB 10))
(cG (AB 91) true (AC 96) (AH (AB 95))
(cG (AB 91) true (AC 97) (AO iLe .i64 (AB 94) (AB 96))
(AE (AC 98) (AP (AB 91) (AB 97) (kV (.bool false)))
(cG (AB 98) false (AC 100) (AG (AB 17))
(cG (AB 98) false (AC 101) (AG (AB 100))
(cG (AB 101) true (AC 102) (AD 2 (AB 16))
(cG (AB 101) true (AC 103) (AH (AB 102))
(cG (AB 101) true (AC 104) (AD 1 (AB 10))
(cG (AB 101) true (AC 105) (AH (AB 104))
(cG (AB 101) true (AC 106) (AO iNe .i64 (AB 103) (AB 105))
(cG (AB 101) true (AC 107) (AG (AB 106))
(cG (AB 107) false (AC 108) (AG (AB 12))
(cG (AB 107) false (AC 109) (AD 0 (AB 16))
(cG (AB 107) false (AC 110) (AH (AB 109))
(cG (AB 107) false (AC 111) (Ay 1 (AB 108) (AB 110))
(cG (AB 107) false (AC 112) (AH (AB 111))
(cG (AB 107) false (AC 113) (A8 (AB 112))
(cG (AB 101) true (AC 114) (AP (AB 107) (kV (.bool true)) (AB 113))
(cG (AB 101) true (AC 115) (AG (AB 114))
(cG (AB 115) false (AC 116) (AD 5 (AB 10))
(cG (AB 115) false (AC 117) (AH (AB 116))
(cG (AB 115) false (AC 118) (Ak (AB 117))
(cG (AB 115) false (AC 119) (AD 2 (AB 10))
(cG (AB 115) false (AC 120) (AH (AB 119))
(cG (AB 115) false (AC 121) (AO iLt .i64 (AB 118) (AB 120))
(cG (AB 101) true (AC 122) (AP (AB 115) (kV (.bool true)) (AB 121))
(cG (AB 98) false (AC 123) (AP (AB 101) (AB 122) (kV (.bool false)))
(AE (AC 124) (AP (AB 98) (kV (.bool true)) (AB 123))
(cG (AB 124) false (AC 126) (AD 1 (AB 16))
(cG (AB 124) false (AC 127) (AH (AB 126))
(cG (AB 124) false (AC 128) (AO iEq .u8 (AB 127) (kV (.int .u8 1)))
(cG (AB 124) false (AC 129) (AG (AB 128))
(cG (AB 129) true (AC 130) (AD 2 (AB 16))
(cG (AB 129) true (AC 131) (AH (AB 130))
(cG (AB 129) true (AC 132) (AD 1 (AB 10))
(cG (AB 129) true (AC 133) (AH (AB 132))
(cG (AB 129) true (AC 134) (AO iNe .i64 (AB 131) (AB 133))
(cG (AB 124) false (AC 135) (AP (AB 129) (AB 134) (kV (.bool false)))
(AE (AC 136) (AP (AB 124) (kV (.bool true)) (AB 135))
(AS (AB 136)
(AE (AC 8) (AG (kV (.bool false)))
Aj)
AU)))))))))))))))))))))))))))))))))))))))))))))))))))))))))))
(AE (AC 137) (BD .i64 (Au .i64) (AB 77) (kV (.int .i64 1)))
(AE (AC 77) (AG (AB 137))
AU)))
(A3 2)))))
(AE (AC 138) (AL 7 (AB 10))
(AE (AC 139) (AL 13 (AB 14))
(AE (AC 140) (AX 8 [(AB 138), (AB 139)])
(AE (AC 18) (At 3 C7)
(cDo (AN 3 (AB 18) (AB 140))
(AE (AC 141) (AL 7 (AB 10))
(AE (AC 19) (At 7 DF)
(cDo (AN 7 (AB 19) (AB 141))
(AE (AC 20) (AG (kV (.int .i64 0)))
(AE (AC 142) (AD 2 (AB 14))
(AE (AC 143) (AH (AB 142))
(As (AS (AB 143)
(AE (AC 145) (AL 7 (AB 10))
(AE (AC 146) (AD 0 (AB 14))
(AE (AC 147) (AH (AB 146))
(AE (AC 148) (AX 9 [(AB 145), (AB 147)])
(AE (AC 149) (Ai 0 (AB 148))
(AE (AC 150) (Ai 1 (AB 148))
(cDo (AN 7 (AB 10) (AB 149))
(AE (AC 20) (AG (AB 150))
AU))))))))
(AE (AC 152) (AL 7 (AB 10))
(AE (AC 153) (AL 3 (AB 18))
(AE (AC 154) (AD 6 (AB 14))
(AE (AC 155) (AL 7 (AB 154))
(AE (AC 156) (AX 10 [(AB 152), (AB 153), (AB 155)])
(AE (AC 157) (Ai 0 (AB 156))
(AE (AC 158) (Ai 1 (AB 156))
(cDo (AN 7 (AB 10) (AB 157))
(AE (AC 20) (AG (AB 158))
(AE (AC 159) (AD 0 (AB 18))
(AE (AC 160) (AH (AB 159))
(AE (AC 21) (AG (AB 160))
(AE (AC 162) (AO iGe .i64 (AB 21) (kV (.int .i64 0)))
(cG (AB 162) true (AC 164) (AG (AB 21))
(cG (AB 162) true (AC 165) (AG (AB 9))
(cG (AB 162) true (AC 166) (AO iLt .i64 (AB 164) (AB 165))
(AE (AC 167) (AP (AB 162) (AB 166) (kV (.bool false)))
(cG (AB 167) true (AC 169) (AD 6 (AB 14))
(cG (AB 167) true (AC 170) (AD 3 (AB 169))
(cG (AB 167) true (AC 171) (AH (AB 170))
(cG (AB 167) true (AC 172) (AO iEq .i64 (AB 171) (kV (.int .i64 12)))
(cG (AB 167) true (AC 173) (AG (AB 172))
(cG (AB 173) true (AC 174) (AD 1 (AB 18))
(cG (AB 173) true (AC 175) (AH (AB 174))
(cG (AB 173) true (AC 176) (AO iEq .u8 (AB 175) (kV (.int .u8 4)))
(cG (AB 167) true (AC 177) (AP (AB 173) (AB 176) (kV (.bool false)))
(cG (AB 167) true (AC 178) (AG (AB 177))
(cG (AB 178) false (AC 179) (AD 6 (AB 14))
(cG (AB 178) false (AC 180) (AD 3 (AB 179))
(cG (AB 178) false (AC 181) (AH (AB 180))
(cG (AB 178) false (AC 182) (AO iEq .i64 (AB 181) (kV (.int .i64 60)))
(cG (AB 178) false (AC 183) (AG (AB 182))
(cG (AB 183) true (AC 184) (AD 1 (AB 18))
(cG (AB 183) true (AC 185) (AH (AB 184))
(cG (AB 183) true (AC 186) (AO iEq .u8 (AB 185) (kV (.int .u8 1)))
(cG (AB 178) false (AC 187) (AP (AB 183) (AB 186) (kV (.bool false)))
(cG (AB 167) true (AC 188) (AP (AB 178) (kV (.bool true)) (AB 187))
(AE (AC 189) (AP (AB 167) (AB 188) (kV (.bool false)))
(AS (AB 189)
(AE (AC 192) (Ay 1 (AB 12) (AB 21))
(cDo (AN 1 (AB 192) (kV (.bool true)))
AU))
AU))))))))))))))))))))))))))))))))))))))))
(AE (AC 194) (AO iNe .i64 (AB 20) (kV (.int .i64 0)))
(cG (AB 194) true (AC 196) (AL 7 (AB 10))
(cG (AB 194) true (AC 197) (AL 7 (AB 19))
(cG (AB 194) true (AC 198) (AX 11 [(AB 196), (AB 197)])
(cG (AB 194) true (AC 199) (A8 (AB 198))
(AE (AC 200) (AP (AB 194) (AB 199) (kV (.bool false)))
(cG (AB 200) false (AC 202) (AL 7 (AB 10))
(cG (AB 200) false (AC 203) (AX 12 [(AB 202)])
(cG (AB 200) false (AC 204) (A8 (AB 203))
(AE (AC 205) (AP (AB 200) (kV (.bool true)) (AB 204))
(cG (AB 205) false (AC 207) (AD 3 (AB 19))
(cG (AB 205) false (AC 208) (AH (AB 207))
(cG (AB 205) false (AC 209) (AO iNe .i64 (AB 208) (kV (.int .i64 1)))
(cG (AB 205) false (AC 210) (AG (AB 209))
(cG (AB 210) true (AC 211) (AL 7 (AB 10))
(cG (AB 210) true (AC 212) (AL 7 (AB 19))
(cG (AB 210) true (AC 213) (AX 11 [(AB 211), (AB 212)])
(cG (AB 210) true (AC 214) (A8 (AB 213))
(cG (AB 205) false (AC 215) (AP (AB 210) (AB 214) (kV (.bool false)))
(AE (AC 216) (AP (AB 205) (kV (.bool true)) (AB 215))
(AS (AB 216)
(AE (AC 8) (AG (kV (.bool false)))
Aj)
AU))))))))))))))))))))))))))))))))))))))))))))))))))))))))))))
(AE (AC 52) (BD .i64 (Au .i64) (AB 13) (kV (.int .i64 1)))
(AE (AC 13) (AG (AB 52))
AU)))
(A3 0)))))))))
(AE (AC 217) (AX 13 [])
(AE (AC 8) (AG (AB 217))
Aj)))
def fF : C := (AE (AC 217) (AX 13 [])
(AE (AC 8) (AG (AB 217))
Aj))
theorem Za : sfP = As (Ab 0 (A0 sfL)) fF := rfl
def d3h : C := (AE (AC 8) (AG (kV (.bool false)))
(AE (AC 23) (E7 .u8 (AB 0) (kV (.int .u8 8)))
(AE (AC 24) (CV .i64 (AB 23))
(AE (AC 25) (BD .i64 (Au .i64) (kV (.int .i64 1)) (AB 24))
(AE (AC 9) (AG (AB 25))
(AE (AC 28) (E7 .u8 (AB 2) (kV (.int .u8 10)))
(AE (AC 29) (CV .i64 (AB 28))
(AE (AC 32) (CV .i64 (AB 1))
(AE (AC 34) (E7 .i64 (AB 32) (AB 9))
(AE (AC 35) (BD .i64 (Au .i64) (kV (.int .i64 1)) (AB 34))
(AE (AC 36) (AX 5 [(kV (.int .i64 7)), (AB 29), (AB 9), (AB 35)])
(AE (AC 37) (Ai 0 (AB 36))
(AE (AC 38) (Ai 1 (AB 36))
(AE (AC 10) (At 7 DF)
(cDo (AN 7 (AB 10) (AB 37))
(AE (AC 11) (AG (AB 38))
(AE (AC 40) (AO iNe .i64 (AB 11) (kV (.int .i64 0)))
(AS (AB 40)
(AE (AC 8) (AG (kV (.bool false)))
Aj)
(AE (AC 42) (DU 1 ty4.zero (AB 9) (AB 9))
(AE (AC 12) (AG (AB 42))
(AE (AC 13) (AG (kV (.int .i64 0)))
sfP)))))))))))))))))))))
theorem dn : d3 = d3h := rfl
theorem RN : ∀ n : Nat, BJ ty4.zero n = (List.replicate n false).map Value.bool
  | 0 => rfl
  | n + 1 => by
    show ty4.zero ++ BJ ty4.zero n = _
    rw [RN n, List.replicate_succ, show ty4.zero = [.bool false] from by kernel_rfl]; rfl
theorem UB {F : CallF} {e : Env} {h : Hp} (W : h.Wf) {x y : O} {N : Nat} (hx : x e = .int .i64 (N : Int)) (hy : y e = .int .i64 (N : Int)) (hN : N ≤ 1000000) : DU 1 ty4.zero x y F e h = .ok (.slice (some ⟨h.next, 0, none⟩) N N) (h.pushRow 0 ((List.replicate N false).map Value.bool)) := by
  unfold DU
  rw [hx, hy, El]
  unfold N4
  have e1 : Nat.ble N N = true := Az.2 (Nat.le_refl N)
  have e2 : Nat.ble (Nat.mul (Nat.succ N) (Nat.succ 1)) most = true := Az.2 (by
    show (N + 1) * 2 ≤ 1099511627776
    omega)
  simp only [e1, e2, cond_true]
  rw [Dg W, RN]; rfl
theorem Om {F : CallF} {h : Hp} {a b c : Nat} (ha : a < 256) (hb : b < 256) (hc : c < 256) :
    NM .u8 (.int .u8 (a : Int)) (.int .u8 8) h = .ok (.int .u8 ((a % 8 : Nat) : Int)) h ∧ NM .u8 (.int .u8 (c : Int)) (.int .u8 10) h = .ok (.int .u8 ((c % 10 : Nat) : Int)) h ∧ Kj .i64 (.int .u8 ((a % 8 : Nat) : Int)) h = .ok (.int .i64 ((a % 8 : Nat) : Int)) h ∧ Kj .i64 (.int .u8 ((c % 10 : Nat) : Int)) h = .ok (.int .i64 ((c % 10 : Nat) : Int)) h ∧ Kj .i64 (.int .u8 (b : Int)) h = .ok (.int .i64 (b : Int)) h ∧
    Js .i64 (.int .i64 1) (.int .i64 ((a % 8 : Nat) : Int)) h = .ok (.int .i64 ((1 + a % 8 : Nat) : Int)) h ∧ NM .i64 (.int .i64 (b : Int)) (.int .i64 ((1 + a % 8 : Nat) : Int)) h = .ok (.int .i64 ((b % (1 + a % 8) : Nat) : Int)) h ∧ Js .i64 (.int .i64 1) (.int .i64 ((b % (1 + a % 8) : Nat) : Int)) h = .ok (.int .i64 ((1 + b % (1 + a % 8) : Nat) : Int)) h := by
  have m1 : a % 8 < 8 := Nat.mod_lt _ (by omega)
  have m2 : c % 10 < 10 := Nat.mod_lt _ (by omega)
  have m3 : b % (1 + a % 8) < 1 + a % 8 := Nat.mod_lt _ (by omega)
  have t : ∀ x y : Nat, (x : Int).tmod (y : Int) = ((x % y : Nat) : Int) := fun x y => (Int.ofNat_tmod x y).symm
  refine ⟨?_, ?_, ?_, ?_, ?_, ?_, ?_, ?_⟩
  · have := t a 8; rw [Hr (by omega), show (8 : Int) = ((8 : Nat) : Int) from rfl, this]
  · have := t c 10; rw [Hr (by omega), show (10 : Int) = ((10 : Nat) : Int) from rfl, this]
  · rw [H9, Cg (by omega)]
  · rw [H9, Cg (by omega)]
  · rw [H9, Cg (by omega)]
  · have : (1 : Int) + ((a % 8 : Nat) : Int) = ((1 + a % 8 : Nat) : Int) := by omega
    rw [Fj, this, Cg (by omega)]
  · rw [Hr (by omega), t]
  · have : (1 : Int) + ((b % (1 + a % 8) : Nat) : Int) = ((1 + b % (1 + a % 8) : Nat) : Int) := by omega
    rw [Fj, this, Cg (by omega)]
theorem Ud {n : Nat} {h : Hp} (W : h.Wf) {a b c nops : Nat} {u : Value} (ha : a < 256) (hb : b < 256) (hc : c < 256) (O : OpsIn h u nops 80) :
    ∃ h', call AK (n + 7) 3 [.int .u8 (a : Int), .int .u8 (b : Int), .int .u8 (c : Int), u] h = .ok (.bool true) h' ∧ h.Ext h' := by
  have big := W.big
  have m1 : a % 8 < 8 := Nat.mod_lt _ (by omega)
  have m2 : c % 10 < 10 := Nat.mod_lt _ (by omega)
  have m3 : b % (1 + a % 8) < 1 + a % 8 := Nat.mod_lt _ (by omega)
  obtain ⟨e1, e2, e3, e4, e5, e6, e7, e8⟩ := Om (F := call AK (n + 6)) (h := h) ha hb hc
  obtain ⟨h1, um, k1, x1, M1⟩ := OW (n := n + 1) W (ver := ((c % 10 : Nat) : Int)) (need := ((1 + b % (1 + a % 8) : Nat) : Int)) (N := 1 + a % 8) (by omega) (by omega) (by omega) (by omega) (by omega) (by omega)
  have hr := JC (ver := ((c % 10 : Nat) : Int)) (need := ((1 + b % (1 + a % 8) : Nat) : Int)) (n := 1 + a % 8) (by omega) (by omega) (by omega) (by omega) (by omega) (by omega)
  generalize 1 + a % 8 = N at m3 e6 e7 e8 k1 M1 hr
  generalize hm0 : FL ((c % 10 : Nat) : Int) ((1 + b % N : Nat) : Int) N = m0 at k1 M1 hr
  have hl0 : m0.marks.length = N := by rw [← hm0]; exact List.length_replicate
  have hkd : ∀ j, (m0.marks.getD j mm0).kd = 0 := fun j => by
    rw [← hm0]
    show ((List.replicate N mm0).getD j mm0).kd = 0
    rw [List.getD_eq_getElem?_getD, List.getElem?_replicate]
    split <;> rfl
  have nb := hr.n1
  have na := hr.n0
  obtain ⟨h2, OU, R10, x2, n2⟩ := Bm x1.wf (n := 7) Dz rfl
  have z1 := x1.next
  obtain ⟨h3, st3, Z3, x3, n3, o3⟩ := Av x2 R10 (Nat.le_refl _) (by omega) (mendV m0 um BA BA) (n := 7) (off := 0) rfl (Nat.le_refl _) M1.all
  rw [A5 (by rfl)] at Z3
  have Z3 : h3.Row h1.next 0 (mendL m0 um BA BA) := Z3
  have y3 := x1.trans x3
  have mk : ∃ h4, (∀ (F : CallF) (e : Env), AB 9 e = .int .i64 (N : Int) → DU 1 ty4.zero (AB 9) (AB 9) F e h3 = .ok (.slice (some ⟨h3.next, 0, none⟩) N N) h4) ∧ h3.Ext h4 ∧ h4.Row h3.next 0 ((List.replicate N false).map Value.bool) ∧ h4.next = h3.next + 1 :=
    ⟨h3.pushRow 0 _, fun F e he => UB y3.wf he he (by omega), (Hp.Ext.refl y3.wf).pushRow 0 _, Hp.Row.new y3.wf 0 _, rfl⟩
  obtain ⟨h4, mk4, x4, R12, n4⟩ := mk
  have y4 := y3.trans x4
  have I : SfI h h4 h1.next h3.next N m0 um BA BA (List.replicate N false) := { x := y4, R10 := Z3.ext x3.wf x4, R12 := R12, M := ((M1.ext x1.wf x3).ext y3.wf x4).mono (fun b hb => by omega), hr := hr, hbs := List.length_replicate, hN := hl0, hb := fun j hj hk => by rw [hkd j] at hk; cases hk }
  have f0 : iNe 0 0 = false := rfl
  have pre : ∃ e9, d3h (call AK (n + 6)) (Aw e0 0 [.int .u8 (a : Int), .int .u8 (b : Int), .int .u8 (c : Int), u]) h = sfP (call AK (n + 6)) e9 h4 ∧ AB 3 e9 = u ∧ AB 9 e9 = .int .i64 (N : Int) ∧ AB 10 e9 = pt h1.next ∧ AB 12 e9 = .slice (some ⟨h3.next, 0, none⟩) N N ∧ AB 13 e9 = .int .i64 ((0 : Nat) : Int) := by
    unfold d3h
    simp only [Ac, Af, Nat.succ_eq_add_one, Nat.zero_add, Nat.reduceAdd, Bo, Ch, Bf, Bq, Ci, BW, BN, Bz, AF, Nat.reduceLT, Nat.reduceEqDiff, if_true, if_false, reduceIte, KM, e1, Qf, e3, Bc, e6, e2, e4, e5, e7, e8, Ao, Ae, Al, k1, CQ, Ca, Cb, OU, Ad, st3, AZ, AY, f0, mk4]
    exact ⟨_, rfl, by simp [AF], by simp [AF], by simp [AF], by simp [AF], by simp only [AF, Nat.reduceLT, Nat.reduceEqDiff, if_true, if_false, reduceIte]; rfl⟩
  obtain ⟨e9, p, s3, s9, s10, s12, s13⟩ := pre
  obtain ⟨e10, g, q, xg⟩ := PP (n := n) W O I (by omega) (by omega) (by omega) (by omega) (by omega) s3 s9 s10 s12 s13
  refine ⟨g, ?_, xg⟩
  rw [de rfl, dn, p, Za]
  simp only [Bb, BU, q, BM, A6]
  unfold fF
  have ka := MO (n := n + 5) Pk (h := g)
  simp only [sT, Nat.reduceLT, Nat.reduceEqDiff, if_true, if_false, reduceIte, Ao, Ae, Al, ka, Ap, Ax]
end
end Go.Proofs.Ythcfmklkbakkpaa
