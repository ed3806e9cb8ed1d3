/-
  mend.told: what an answer makes of a mending. Printed by program (mdr.py).
  Mendings: what becomes of right ones is right.
  mend.Told, mend.Lose, mend.Begin, whole.
  mend.Lose, mend.Begin.
  MendSafe: what is wanted is safe; what is known of bad ones.
  MendSafe: one answer.
  MendSafe on the machine: true, whatever answers it is handed.
  MendSafe on the machine: true, whatever answers it is handed.
-/
import Derived.Test.YthcfmklkbakkpaaZN
import Derived.Test.YthcfmklkbakkpaaZO
import Derived.Test.YthcfmklkbakkpaaZP
import Derived.Test.YthcfmklkbakkpaaZQ
set_option linter.unusedVariables false
set_option linter.unusedSimpArgs false
namespace Go.Proofs.Ythcfmklkbakkpaa
noncomputable section
open Go Go.RowKit Go.ChangeShapes
set_option maxRecDepth 100000
theorem Kl : ∀ {ms : List MM} {us : List Value} {i : Nat} {z : Int} {c : Bool}, us.length = ms.length → i < ms.length → ((flatM ms us).set (i * 3) (.int .i64 z)).set (i * 3 + 1) (.bool c) = flatM (ms.set i { ms.getD i mm0 with kd := z, com := c }) us
  | [], _, _, _, _, _, hi => absurd hi (Nat.not_lt_zero _)
  | m :: ms, [], _, _, _, h, _ => by cases h
  | m :: ms, u :: us, 0, z, c, h, hi => rfl
  | m :: ms, u :: us, i + 1, z, c, h, hi => by
    simp only [List.length_cons] at h hi
    have e : (i + 1) * 3 = (i * 3) + 3 := by omega
    have e2 : i * 3 + 3 + 1 = (i * 3 + 1) + 3 := by omega
    rw [e, e2]
    show Value.int .i64 m.kd :: Value.bool m.com :: u :: (((flatM ms us).set (i * 3) (.int .i64 z)).set (i * 3 + 1) (.bool c)) = _
    rw [Kl (ms := ms) (us := us) (i := i) (z := z) (c := c) (by omega) (by omega)]; rfl
theorem G6 : ∀ {ms : List MM} {us : List Value} {i : Nat} {u : Value} {l : List Int}, us.length = ms.length → i < ms.length → (flatM ms us).set (i * 3 + 2) u = flatM (ms.set i { ms.getD i mm0 with ext := l }) (us.set i u)
  | [], _, _, _, _, _, hi => absurd hi (Nat.not_lt_zero _)
  | m :: ms, [], _, _, _, h, _ => by cases h
  | m :: ms, v :: us, 0, u, l, h, hi => rfl
  | m :: ms, v :: us, i + 1, u, l, h, hi => by
    simp only [List.length_cons] at h hi
    have e : (i + 1) * 3 + 2 = (i * 3 + 2) + 3 := by omega
    rw [e]
    show Value.int .i64 m.kd :: Value.bool m.com :: v :: (flatM ms us).set (i * 3 + 2) u = _
    rw [G6 (ms := ms) (us := us) (i := i) (u := u) (l := l) (by omega) (by omega)]; rfl
def Hv (m : MD) (i : Nat) (err : Int) (l : List Nat) (m' : MD) : Prop :=
  m' = m ∨ m' = { m with ph := 3 } ∨ (∃ k, m' = Gm m i k ∧ RightMk m k ∧ (k.kd = 4 → (m.marks.getD i mm0).kd = 4 ∨ (err = 12 ∧ (BU m i).2.1 = 4) ∨ (err = 60 ∧ (BU m i).2.1 = 1))) ∨ (m' = DV m i l ∧ ¬ m.ver = 0 ∧ (m.marks.getD i mm0).ext = [])
theorem GJ {h : Hp} {r : Nat} {t : TE} {ui ub : Value} (R : h.Row r 0 (tellL t ui ub)) : load1 ⟨r, 3, none⟩ h = .ok (.int .i64 t.err) h ∧ load1 ⟨r, 4, none⟩ h = .ok ui h ∧ load1 ⟨r, 5, none⟩ h = .ok ub h ∧ loadN 7 ⟨r, 0, none⟩ h = .ok (Dx t ui ub) h :=
  ⟨R.load1 (off := 3) (by show 3 < 7; omega), R.load1 (off := 4) (by show 4 < 7; omega), R.load1 (off := 5) (by show 5 < 7; omega), R.loadN (off := 0) (n := 7) (by show 0 + 7 ≤ 7; omega)⟩
theorem Ox {l : List Int} {lo : Int} (h : riseP lo l) : ∀ n, riseP lo (l.take n) := by
  induction l generalizing lo with
  | nil => intro n; rw [List.take_nil]; trivial
  | cons v l ih =>
    intro n
    obtain ⟨h1, h2, h3⟩ := h
    cases n with
    | zero => trivial
    | succ n => exact ⟨h1, h2, ih h3 n⟩
theorem Us {n : Nat} {h0 h : Hp} (x0 : h0.Ext h) (W0 : h0.Wf) {k K T : Nat} {m : MD} {um uw us ui ub : Value} {t : TE} {l : List Nat} {il : List IN} {i : Nat} (hk : h0.next ≤ k) (hkK : k ≤ K) (hKn : K ≤ h.next) (hTn : T ≤ h.next) (O : h.Ow k K T m um uw us) (hr : RightP m) (hi : i < m.marks.length) (hwb : Cq m i = true) (V : h0.By ub l) (J : h0.Inf ui il) (hil : il.length < 5000000000000) :
    ∃ h' m' um' uw' us', call AK (n + 4) 16 [mendV m um uw us, CF (BU m i), Dx t ui ub] h = .ok (mendV m' um' uw' us') h' ∧ h0.Ext h' ∧ h'.Md (fun b => k ≤ b) m' um' uw' us' ∧ Hv m i t.err l m' ∧ ∀ b el L, ¬ (k ≤ b ∧ b < K) → h.Row b el L → h'.Row b el L := by
  have big := W0.big
  have zn := x0.next
  have nb := hr.n1
  have wb : m.which.length ≤ 255 := by have := hr.sh.need; have := hr.need1; omega
  have sb : m.shards.length ≤ 255 := by have := hr.sh.len; omega
  have hkm := hr.marks i hi
  obtain ⟨h1, b3x, R3, x1, n1⟩ := Bw x0.wf (mendV m um uw us)
  have R3 : h1.Row h.next 0 (mendL m um uw us) := R3
  obtain ⟨h2, b4x, R4, x2, n2⟩ := Bw x1.wf (CF (BU m i))
  have R4 : h2.Row h1.next 0 (errL (BU m i)) := R4
  obtain ⟨h3, b5x, R5, x3, n3⟩ := Bw x2.wf (Dx t ui ub)
  have R5 : h3.Row h2.next 0 (tellL t ui ub) := R5
  obtain ⟨h4, al6, R6, x4, n4⟩ := Bq x3.wf (n := 7) D0 rfl
  have y4 := ((x1.trans x2).trans x3).trans x4
  have R3b := ((R3.ext x1.wf x2).ext x2.wf x3).ext x3.wf x4
  have R4b := (R4.ext x2.wf x3).ext x3.wf x4
  have R5b := R5.ext x3.wf x4
  have O4 := O.ext x0.wf y4 hkK
  have xg := (x0.trans y4).marked
  have hgm : h4.marked.mark = h4.next := rfl
  have hgn : h4.marked.next = h4.next := rfl
  have Og : h4.marked.Ow k K T m um uw us := O4.same rfl hkK
  have R3g : h4.marked.Row h.next 0 (mendL m um uw us) := R3b.same rfl
  have R4g : h4.marked.Row h1.next 0 (errL (BU m i)) := R4b.same rfl
  have R5g : h4.marked.Row h2.next 0 (tellL t ui ub) := R5b.same rfl
  have R6g : h4.marked.Row h3.next 0 [.int .i64 0, .int .i64 0, .int .i64 0, .int .i64 0, A6, A6, A6] := R6.same rfl
  have keepg : ∀ b el L, h.Row b el L → h4.marked.Row b el L := fun b el L r => (r.ext x0.wf y4).same rfl
  have l44 := (An R3b).2.2.2.2.1
  have l40 := (Bm R4b).1
  obtain ⟨B, xs, kB, BK, RB, xl, exts, ix, clo, cloM⟩ := Og.row
  have ix4 : Cv 3 um (.int .i64 (i : Int)) h4 = .ok (.pointer (some ⟨B, i * 3, none⟩)) h4 := ix h4 i hi
  have we1 : (BU m i).1 = (i : Int) := by
    unfold BU
    split
    · rfl
    · split <;> rfl
  generalize hg : h4.marked = g at xg hgm hgn Og R3g R4g R5g R6g keepg RB exts ix clo cloM
  have hfl := DC xl
  have hd := D5 xl hi
  have lk : load1 ⟨B, i * 3, none⟩ g = .ok (.int .i64 (m.marks.getD i mm0).kd) g := by
    rw [RB.load1 (by omega)]
    have e := congrArg (fun l => l[0]?) hd
    simp only [List.getElem?_drop, markL, List.cons_append, List.nil_append, List.getElem?_cons_zero, Nat.add_zero] at e
    rw [List.getD_eq_getElem?_getD, e]; rfl
  have lx : load1 ⟨B, i * 3 + 2, none⟩ g = .ok (xs.getD i noRes) g := by
    rw [RB.load1 (by omega)]
    have e := congrArg (fun l => l[2]?) hd
    simp only [List.getElem?_drop, markL, List.cons_append, List.nil_append, List.getElem?_cons_succ, List.getElem?_cons_zero] at e
    rw [List.getD_eq_getElem?_getD, e]; rfl
  obtain ⟨t53, t54, t55, t57⟩ := GJ R5g
  obtain ⟨w40, w41, w42, w43⟩ := Bm R4g
  obtain ⟨m30, m31, m32, m33, m34, m35, m36, m37⟩ := An R3g
  have t53' := t53
  have pre : ∃ e1, SO (call AK (n + 3)) (Av e0 0 [mendV m um uw us, CF (BU m i), Dx t ui ub]) h = Fa (Cb 0 (tdC (call AK (n + 3)) e1 g)) tdF (call AK (n + 3)) ∧ AB 3 e1 = pt h.next ∧ AB 4 e1 = pt h1.next ∧ AB 5 e1 = pt h2.next ∧ AB 6 e1 = pt h3.next ∧ AB 7 e1 = .pointer (some ⟨B, i * 3, none⟩) ∧ AB 8 e1 = .bool (iEq t.err 0) ∧ AB 9 e1 = .bool (iEq t.err 60) := by
    unfold SO
    simp only [Ac, Af, Nat.succ_eq_add_one, Nat.zero_add, Nat.reduceAdd, Br, Be, BQ, Bs, AG, Nat.reduceLT, Nat.reduceEqDiff, if_true, if_false, reduceIte, BM, Bz, b3x, b4x, b5x, al6, AJ, AN, AP, AX, l44, l40, we1, BG, ix4, Bc, hg, t53, AZ, AY]
    exact ⟨_, rfl, by simp [AG], by simp [AG], by simp [AG], by simp [AG], by simp [AG], by simp [AG], by simp [AG]⟩
  obtain ⟨e1, p, s3, s4, s5, s6, s7, s8, s9⟩ := pre
  have I : TdI g m um uw us (BU m i) t ui ub h.next h1.next h2.next h3.next B i (m.marks.getD i mm0).kd e1 := { l31 := m31, l37 := m37, l40 := w40, l41 := w41, l42 := w42, l53 := t53, l54 := t54, l55 := t55, lk := lk, s3 := s3, s4 := s4, s5 := s5, s6 := s6, s7 := s7 }
  have done : ∀ (g2 : Hp) (m' : MD) (e' : Env), tdC (call AK (n + 3)) e1 g = .norm e' g2 → AB 3 e' = pt h.next → AB 6 e' = pt h3.next → h0.Ext g2 → g2.Row h.next 0 (mendL m' um uw us) → g2.Row h3.next 0 [.int .i64 0, .int .i64 0, .int .i64 0, .int .i64 0, A6, A6, A6] → g2.Md (fun b => k ≤ b ∧ b ≠ h3.next) m' um uw us → Hv m i t.err l m' → (∀ b el L, ¬ (k ≤ b ∧ b < K) → h.Row b el L → g2.Row b el L) →
      ∃ h' m' um' uw' us', call AK (n + 4) 16 [mendV m um uw us, CF (BU m i), Dx t ui ub] h = .ok (mendV m' um' uw' us') h' ∧ h0.Ext h' ∧ h'.Md (fun b => k ≤ b) m' um' uw' us' ∧ Hv m i t.err l m' ∧ ∀ b el L, ¬ (k ≤ b ∧ b < K) → h.Row b el L → h'.Row b el L := fun g2 m' e' q q3 q6 y Ra Rb Mg hT fr => by
    obtain ⟨g', st', Z', y', _, o'⟩ := Aw y Rb (by omega) (by omega) (mendV m' um uw us) (n := 7) (off := 0) rfl (Nat.le_refl _) Mg.all
    rw [A5 (by rfl)] at Z'
    have a7 := (An Ra).2.2.2.2.2.2.2
    have run : ∃ e2, tdF (call AK (n + 3)) e' g2 = .ret e2 g' ∧ AB 6 e2 = pt h3.next := by
      unfold tdF
      simp only [sT, Nat.reduceLT, Nat.reduceEqDiff, if_true, if_false, reduceIte, q3, q6, Aa, AU, a7, Ad, st']
      exact ⟨_, rfl, by simp only [AG, Nat.reduceLT, Nat.reduceEqDiff, if_true, if_false, reduceIte]; exact q6⟩
    obtain ⟨e2, r1, r2⟩ := run
    refine ⟨g', m', um, uw, us, ?_, y', (Mg.keep fun b el L hb r => o' _ _ _ hb.2 r).mono fun b hb => hb.1, hT, fun b el L hb r => ?_⟩
    · rw [PZ rfl, Pj, p, q, show Cb 0 (.norm e' g2) = .norm e' g2 from rfl, BB, r1, Ao, Da (v := mendV m' um uw us) (h' := g') (by rw [r2, AU]; exact (An (show g'.Row h3.next 0 (mendL m' um uw us) from Z')).2.2.2.2.2.2.2)]
    · have := r.lt x0.wf
      exact o' _ _ _ (by omega) (fr _ _ _ hb r)
  have noch : ∀ (e' : Env), tdC (call AK (n + 3)) e1 g = .norm e' g → AB 3 e' = pt h.next → AB 6 e' = pt h3.next → _ := fun e' q q3 q6 => done g m e' q q3 q6 xg R3g R6g (Og.mdT hkK (by omega) (by omega)) (.inl rfl) (fun b el L hb r => keepg _ _ _ r)
  obtain ⟨g1, st1, Z1, y1, nx1, o1⟩ := Aw xg R3g (by omega) (by omega) (.int .i64 3) (n := 1) (off := 3) rfl (by show 3 + 1 ≤ 7; omega) rfl
  have Z1 : g1.Row h.next 0 (mendL { m with ph := 3 } um uw us) := Z1
  have stale : ∀ (e' : Env), tdC (call AK (n + 3)) e1 g = .norm e' g1 → AB 3 e' = pt h.next → AB 6 e' = pt h3.next → _ := fun e' q q3 q6 => done g1 { m with ph := 3 } e' q q3 q6 y1 Z1 (o1 _ _ _ (by omega) R6g) ((((Og.keep2 (h' := g1) (fun b el L hb r => o1 _ _ _ (by omega) r) hkK).ph 3)).mdT hkK (by omega) (by omega)) (.inr (.inl rfl)) (fun b el L hb r => by
    have := r.lt x0.wf
    exact o1 _ _ _ (by omega) (keepg _ _ _ r))
  have two : ∀ (c : Int) (bb : Bool), RightMk m { m.marks.getD i mm0 with kd := c, com := bb } → (c = 4 → (m.marks.getD i mm0).kd = 4 ∨ (t.err = 12 ∧ (BU m i).2.1 = 4) ∨ (t.err = 60 ∧ (BU m i).2.1 = 1)) →
      ∃ g1 g2, storeR 1 (.pointer (some ⟨B, i * 3, none⟩)) (.int .i64 c) g = .ok noRes g1 ∧ storeR 1 (.pointer (some ⟨B, i * 3 + 1, none⟩)) (.bool bb) g1 = .ok noRes g2 ∧ ∀ (e' : Env), tdC (call AK (n + 3)) e1 g = .norm e' g2 → AB 3 e' = pt h.next → AB 6 e' = pt h3.next → ∃ h' m' um' uw' us', call AK (n + 4) 16 [mendV m um uw us, CF (BU m i), Dx t ui ub] h = .ok (mendV m' um' uw' us') h' ∧ h0.Ext h' ∧ h'.Md (fun b => k ≤ b) m' um' uw' us' ∧ Hv m i t.err l m' ∧ ∀ b el L, ¬ (k ≤ b ∧ b < K) → h.Row b el L → h'.Row b el L := fun c bb hR h4 => by
    obtain ⟨g1, st1, Z1, y1, nx1, o1⟩ := Aw xg RB (by omega) (by omega) (.int .i64 c) (n := 1) (off := i * 3) rfl (by omega) rfl
    rw [Bv, DO (by omega)] at Z1
    obtain ⟨g2, st2, Z2, y2, nx2, o2⟩ := Aw y1 Z1 (by omega) (by omega) (.bool bb) (n := 1) (off := i * 3 + 1) rfl (by rw [List.length_set]; omega) rfl
    rw [show cellsOf (.bool bb) = [.bool bb] from rfl, DO (by rw [List.length_set]; omega), Kl xl hi] at Z2
    have oo : ∀ b el L, b ≠ B → g.Row b el L → g2.Row b el L := fun b el L hb r => o2 _ _ _ hb (o1 _ _ _ hb r)
    have O2 : g2.Ow k K T { m with marks := m.marks.set i { m.marks.getD i mm0 with kd := c, com := bb } } um uw us := clo g2 T _ xs (Nat.le_refl _) Z2 (by rw [List.length_set]) xl (fun j hj => by
      have : ((m.marks.set i { m.marks.getD i mm0 with kd := c, com := bb }).getD j mm0).ext = (m.marks.getD j mm0).ext := by
        rw [Cz hi]
        by_cases hij : i = j
        · rw [if_pos hij, hij]
        · rw [if_neg hij]
      rw [this]
      exact (exts j hj).keep fun b el L hb r => oo _ _ _ (by omega) r) oo
    exact ⟨g1, g2, st1, st2, fun e' q q3 q6 => done g2 { m with marks := m.marks.set i { m.marks.getD i mm0 with kd := c, com := bb } } e' q q3 q6 y2 (oo _ _ _ (by omega) R3g) (oo _ _ _ (by omega) R6g) (O2.mdT hkK (by omega) (by omega)) (.inr (.inr (.inl ⟨_, rfl, hR, h4⟩))) (fun b el L hb r => by
      have := r.lt x0.wf
      exact oo _ _ _ (by omega) (keepg _ _ _ r))⟩
  have ecase : t.err = 0 ∨ t.err = 60 ∨ t.err = 61 ∨ t.err = 12 ∨ (¬ t.err = 0 ∧ ¬ t.err = 60 ∧ ¬ t.err = 61 ∧ ¬ t.err = 12) := by omega
  have E0 : t.err = 0 → AB 8 e1 = .bool true ∧ AB 9 e1 = .bool false ∧ iEq t.err 61 = false ∧ iEq t.err 12 = false := fun h => by rw [h] at s8 s9 ⊢; exact ⟨s8, s9, rfl, rfl⟩
  have E60 : t.err = 60 → AB 8 e1 = .bool false ∧ AB 9 e1 = .bool true ∧ iEq t.err 61 = false ∧ iEq t.err 12 = false := fun h => by rw [h] at s8 s9 ⊢; exact ⟨s8, s9, rfl, rfl⟩
  have E61 : t.err = 61 → AB 8 e1 = .bool false ∧ AB 9 e1 = .bool false ∧ iEq t.err 61 = true ∧ iEq t.err 12 = false := fun h => by rw [h] at s8 s9 ⊢; exact ⟨s8, s9, rfl, rfl⟩
  have E12 : t.err = 12 → AB 8 e1 = .bool false ∧ AB 9 e1 = .bool false ∧ iEq t.err 61 = false ∧ iEq t.err 12 = true := fun h => by rw [h] at s8 s9 ⊢; exact ⟨s8, s9, rfl, rfl⟩
  have Ex : (¬ t.err = 0 ∧ ¬ t.err = 60 ∧ ¬ t.err = 61 ∧ ¬ t.err = 12) → AB 8 e1 = .bool false ∧ AB 9 e1 = .bool false ∧ iEq t.err 61 = false ∧ iEq t.err 12 = false := fun h => by
    rw [Cj h.1] at s8; rw [Cj h.2.1] at s9
    exact ⟨s8, s9, Cj h.2.2.1, Cj h.2.2.2⟩
  by_cases c0 : (m.marks.getD i mm0).kd = 0
  · have hop : (BU m i).2.1 = 4 := by unfold BU; rw [if_pos c0]
    have fa : iEq (BU m i).2.2 0 = true := by unfold BU; rw [if_pos c0]; rfl
    have fb : iEq (m.marks.getD i mm0).kd 0 = true := Cu c0
    have fc : iEq (m.marks.getD i mm0).kd 1 = false := Cj (by omega)
    rcases ecase with he | he | he | he | he
    · obtain ⟨a8, a9, a61, a12⟩ := E0 he
      obtain ⟨g5, kk, u', k1, x5, V5, hkk, hkd⟩ := Pp (n := n + 1) (m := m) (um := um) (uw := uw) (us := us) (idx := (BU m i).1) xg.wf (J.ext W0 xg) hil
      have RB5 := RB.ext xg.wf x5
      obtain ⟨g6, st6, Z6, y6, nx6, o6⟩ := Aw (xg.trans x5) RB5 (by omega) (by omega) (CP kk u') (n := 3) (off := i * 3) rfl (by omega) (HB V5.one.2.1)
      rw [H6, Fk xl hi] at Z6
      have z5 := x5.next
      have oo : ∀ b el L, b ≠ B → g.Row b el L → g6.Row b el L := fun b el L hb r => o6 _ _ _ hb (r.ext xg.wf x5)
      have M6 : g6.Md (fun b => k ≤ b ∧ b ≠ h3.next) { m with marks := m.marks.set i kk } um uw us := cloM g6 _ _ _ Z6 (by rw [List.length_set]) (by rw [List.length_set]; exact xl) (fun j hj => by
        rw [Cz hi, DJ (by omega)]
        by_cases hij : i = j
        · rw [if_pos hij, if_pos hij]
          exact (V5.keep fun b el L hb r => o6 _ _ _ (by omega) r).mono fun b hb => by omega
        · rw [if_neg hij, if_neg hij]
          exact ((exts j hj).keep fun b el L hb r => oo _ _ _ (by omega) r).mono fun b hb => by omega) (fun b hb => by omega) (fun b hb => by omega) oo
      obtain ⟨e', q, q3, q6⟩ := Yu I hop fa fb fc a8 a9 a61 a12 k1 st6
      exact done g6 { m with marks := m.marks.set i kk } e' q q3 q6 y6 (oo _ _ _ (by omega) R3g) (oo _ _ _ (by omega) R6g) M6 (.inr (.inr (.inl ⟨kk, rfl, hkk, fun h => by omega⟩))) (fun b el L hb r => by
        have := r.lt x0.wf
        exact oo _ _ _ (by omega) (keepg _ _ _ r))
    · obtain ⟨a8, a9, a61, a12⟩ := E60 he
      obtain ⟨e', q, q3, q6⟩ := UY I hop fa fb fc a8 a9 a61 a12
      exact noch e' q q3 q6
    · obtain ⟨a8, a9, a61, a12⟩ := E61 he
      obtain ⟨e', q, q3, q6⟩ := UZ I hop fa fb fc a8 a9 a61 a12
      exact noch e' q q3 q6
    · obtain ⟨a8, a9, a61, a12⟩ := E12 he
      obtain ⟨e', q, q3, q6⟩ := UX I hop fa fb fc a8 a9 a61 a12
      exact noch e' q q3 q6
    · obtain ⟨a8, a9, a61, a12⟩ := Ex he
      obtain ⟨e', q, q3, q6⟩ := Yv I hop fa fb fc a8 a9 a61 a12
      exact noch e' q q3 q6
  · by_cases ce : (m.marks.getD i mm0).ext = []
    · have mk3 : ¬ m.ver = 0 → RightMk m { m.marks.getD i mm0 with kd := 3, com := false } := fun hv => { rise := hkm.rise, lo := by show (0 : Int) ≤ 3; omega, hi := by show (3 : Int) ≤ 4; omega, few := hkm.few, com := (fun h => by cases h), none := fun _ => ce, ver := fun h => absurd h hv }
      have mk4 : ¬ m.ver = 0 → RightMk m { m.marks.getD i mm0 with kd := 4, com := false } := fun hv => { rise := hkm.rise, lo := by show (0 : Int) ≤ 4; omega, hi := by show (4 : Int) ≤ 4; omega, few := hkm.few, com := (fun h => by cases h), none := fun _ => ce, ver := fun h => absurd h hv }
      have mk2 : RightMk m { m.marks.getD i mm0 with kd := 2, com := false } := { rise := hkm.rise, lo := by show (0 : Int) ≤ 2; omega, hi := by show (2 : Int) ≤ 4; omega, few := hkm.few, com := (fun h => by cases h), none := fun _ => ce, ver := fun h => ⟨.inr rfl, rfl⟩ }
      have wo : (BU m i).2.1 = opK (m.marks.getD i mm0).kd := by unfold BU; rw [if_neg c0, if_pos ce]
      have wv : (BU m i).2.2 = m.ver := by unfold BU; rw [if_neg c0, if_pos ce]
      by_cases c1 : (m.marks.getD i mm0).kd = 1
      · have hv : ¬ m.ver = 0 := fun h => by have := (hkm.ver h).1; omega
        have hop : (BU m i).2.1 = 4 := by rw [wo, c1]; rfl
        have fa : iEq (BU m i).2.2 0 = false := by rw [wv]; exact Cj hv
        have fb : iEq (m.marks.getD i mm0).kd 1 = true := Cu c1
        have mk3 := mk3 hv
        have mk4 := mk4 hv
        rcases ecase with he | he | he | he | he
        · obtain ⟨a8, a9, a61, a12⟩ := E0 he
          obtain ⟨g5, uw', us', k1, y5, M5, fr5⟩ := UA (n := n) xg W0 hk hkK (by omega) (by omega) Og hi V nb wb sb
          rw [← we1] at k1
          have R6r := fr5 _ _ _ (by omega) R6g
          obtain ⟨g6, st6, Z6, y6, nx6, o6⟩ := Aw y5 R6r (by omega) (by omega) (mendV (DV m i l) um uw' us') (n := 7) (off := 0) rfl (Nat.le_refl _) M5.all
          rw [A5 (by rfl)] at Z6
          obtain ⟨e', q, q6⟩ := Y0 I hop fa fb a8 a9 a61 a12 k1 st6
          refine ⟨g6, DV m i l, um, uw', us', ?_, y6, (M5.keep fun b el L hb r => o6 _ _ _ (by omega) r).mono (fun b hb => hb.1), .inr (.inr (.inr ⟨rfl, hv, ce⟩)), fun b el L hb r => ?_⟩
          · rw [PZ rfl, Pj, p, q, show Cb 0 (.ret e' g6) = .ret e' g6 from rfl, Ds, Ao, Da (v := mendV (DV m i l) um uw' us') (h' := g6) (by rw [q6, AU]; exact (An (show g6.Row h3.next 0 (mendL (DV m i l) um uw' us') from Z6)).2.2.2.2.2.2.2)]
          · have := r.lt x0.wf
            exact o6 _ _ _ (by omega) (fr5 _ _ _ hb (keepg _ _ _ r))
        · obtain ⟨a8, a9, a61, a12⟩ := E60 he
          obtain ⟨ga, gb, sa, sb', fin⟩ := two 3 false (mk3) (fun h => by omega)
          obtain ⟨e', q, q3, q6⟩ := Uh I hop fa fb a8 a9 a61 a12 sa sb'
          exact fin e' q q3 q6
        · obtain ⟨a8, a9, a61, a12⟩ := E61 he
          obtain ⟨e', q, q3, q6⟩ := Ui I hop fa fb a8 a9 a61 a12
          exact noch e' q q3 q6
        · obtain ⟨a8, a9, a61, a12⟩ := E12 he
          obtain ⟨ga, gb, sa, sb', fin⟩ := two 4 false (mk4) (fun _ => .inr (.inl ⟨he, hop⟩))
          obtain ⟨e', q, q3, q6⟩ := Ug I hop fa fb a8 a9 a61 a12 sa sb'
          exact fin e' q q3 q6
        · obtain ⟨a8, a9, a61, a12⟩ := Ex he
          obtain ⟨e', q, q3, q6⟩ := Y6 I hop fa fb a8 a9 a61 a12
          exact noch e' q q3 q6
      · by_cases c2 : (m.marks.getD i mm0).kd = 2
        · have hop : (BU m i).2.1 = 2 := by rw [wo, c2]; rfl
          have hv : 0 < m.ver := by
            unfold Cq at hwb
            rw [if_neg c0, if_pos ce, if_pos c2, Bool.and_eq_true] at hwb
            simpa using hwb.1
          rcases ecase with he | he | he | he | he
          · obtain ⟨a8, a9, a61, a12⟩ := E0 he
            obtain ⟨ga, gb, sa, sb', fin⟩ := two (m.marks.getD i mm0).kd true { rise := hkm.rise, lo := hkm.lo, hi := hkm.hi, few := hkm.few, com := fun _ => .inr c2, none := fun _ => ce, ver := fun h => by omega } (fun h => .inl h)
            obtain ⟨g6, st6, Z6, y6, nx6, o6⟩ := Aw xg RB (by omega) (by omega) (.bool true) (n := 1) (off := i * 3 + 1) rfl (by omega) rfl
            rw [show cellsOf (.bool true) = [.bool true] from rfl, DO (by omega), I8 xl hi] at Z6
            have O6 : g6.Ow k K T { m with marks := m.marks.set i { m.marks.getD i mm0 with com := true } } um uw us := clo g6 T _ xs (Nat.le_refl _) Z6 (by rw [List.length_set]) xl (fun j hj => by
              have : ((m.marks.set i { m.marks.getD i mm0 with com := true }).getD j mm0).ext = (m.marks.getD j mm0).ext := by
                rw [Cz hi]
                by_cases hij : i = j
                · rw [if_pos hij, hij]
                · rw [if_neg hij]
              rw [this]
              exact (exts j hj).keep fun b el L hb r => o6 _ _ _ (by omega) r) (fun b el L hb r => o6 _ _ _ hb r)
            obtain ⟨e', q, q3, q6⟩ := Y7 I hop a8 a9 a61 a12 st6
            exact done g6 { m with marks := m.marks.set i { m.marks.getD i mm0 with com := true } } e' q q3 q6 y6 (o6 _ _ _ (by omega) R3g) (o6 _ _ _ (by omega) R6g) (O6.mdT hkK (by omega) (by omega)) (.inr (.inr (.inl ⟨_, rfl, { rise := hkm.rise, lo := hkm.lo, hi := hkm.hi, few := hkm.few, com := fun _ => .inr c2, none := fun _ => ce, ver := fun h => by omega }, fun h => .inl h⟩))) (fun b el L hb r => by
              have := r.lt x0.wf
              exact o6 _ _ _ (by omega) (keepg _ _ _ r))
          · obtain ⟨a8, a9, a61, a12⟩ := E60 he
            obtain ⟨g6, st6, Z6, y6, nx6, o6⟩ := Aw xg RB (by omega) (by omega) (CP mm0 A6) (n := 3) (off := i * 3) rfl (by omega) rfl
            rw [H6, Fk xl hi] at Z6
            have O6 : g6.Ow k K T { m with marks := m.marks.set i mm0 } um uw us := clo g6 T _ _ (Nat.le_refl _) Z6 (by rw [List.length_set]) (by rw [List.length_set]; exact xl) (fun j hj => by
              rw [Cz hi, DJ (by omega)]
              by_cases hij : i = j
              · rw [if_pos hij, if_pos hij]; exact .inl ⟨rfl, rfl⟩
              · rw [if_neg hij, if_neg hij]
                exact (exts j hj).keep fun b el L hb r => o6 _ _ _ (by omega) r) (fun b el L hb r => o6 _ _ _ hb r)
            obtain ⟨e', q, q3, q6⟩ := Uk I hop a8 a9 a61 a12 st6
            exact done g6 { m with marks := m.marks.set i mm0 } e' q q3 q6 y6 (o6 _ _ _ (by omega) R3g) (o6 _ _ _ (by omega) R6g) (O6.mdT hkK (by omega) (by omega)) (.inr (.inr (.inl ⟨_, rfl, { rise := trivial, lo := Int.le_refl _, hi := by show (0 : Int) ≤ 4; omega, few := Nat.zero_le _, com := (fun h => by cases h), none := fun _ => rfl, ver := fun _ => ⟨.inl rfl, rfl⟩ }, fun h => by cases h⟩))) (fun b el L hb r => by
              have := r.lt x0.wf
              exact o6 _ _ _ (by omega) (keepg _ _ _ r))
          · obtain ⟨a8, a9, a61, a12⟩ := E61 he
            obtain ⟨e', q, q3, q6⟩ := Ul I hop a8 a9 a61 a12 st1
            exact stale e' q q3 q6
          · obtain ⟨a8, a9, a61, a12⟩ := E12 he
            obtain ⟨e', q, q3, q6⟩ := Uj I hop a8 a9 a61 a12
            exact noch e' q q3 q6
          · obtain ⟨a8, a9, a61, a12⟩ := Ex he
            obtain ⟨e', q, q3, q6⟩ := Y8 I hop a8 a9 a61 a12
            exact noch e' q q3 q6
        · have hv : ¬ m.ver = 0 := fun h => by have := (hkm.ver h).1; omega
          have mk3 := mk3 hv
          have mk4 := mk4 hv
          by_cases c3 : (m.marks.getD i mm0).kd = 3
          · have hop : (BU m i).2.1 = 1 := by rw [wo, c3]; rfl
            rcases ecase with he | he | he | he | he
            · obtain ⟨a8, a9, a61, a12⟩ := E0 he
              obtain ⟨ga, gb, sa, sb', fin⟩ := two 2 false (mk2) (fun h => by omega)
              obtain ⟨e', q, q3, q6⟩ := Y9 I hop a8 a9 a61 a12 sa sb'
              exact fin e' q q3 q6
            · obtain ⟨a8, a9, a61, a12⟩ := E60 he
              obtain ⟨ga, gb, sa, sb', fin⟩ := two 4 false (mk4) (fun _ => .inr (.inr ⟨he, hop⟩))
              obtain ⟨e', q, q3, q6⟩ := Un I hop a8 a9 a61 a12 sa sb'
              exact fin e' q q3 q6
            · obtain ⟨a8, a9, a61, a12⟩ := E61 he
              obtain ⟨e', q, q3, q6⟩ := Uo I hop a8 a9 a61 a12 st1
              exact stale e' q q3 q6
            · obtain ⟨a8, a9, a61, a12⟩ := E12 he
              obtain ⟨e', q, q3, q6⟩ := Um I hop a8 a9 a61 a12
              exact noch e' q q3 q6
            · obtain ⟨a8, a9, a61, a12⟩ := Ex he
              obtain ⟨e', q, q3, q6⟩ := ZA I hop a8 a9 a61 a12
              exact noch e' q q3 q6
          · have c4 : (m.marks.getD i mm0).kd = 4 := by have := hkm.lo; have := hkm.hi; omega
            have hop : (BU m i).2.1 = 6 := by rw [wo, c4]; rfl
            have fa : iEq m.ver 0 = false := Cj hv
            rcases ecase with he | he | he | he | he
            · obtain ⟨a8, a9, a61, a12⟩ := E0 he
              obtain ⟨ga, gb, sa, sb', fin⟩ := two 3 false (mk3) (fun h => by omega)
              obtain ⟨e', q, q3, q6⟩ := ZB I hop fa a8 a9 a61 a12 sa sb'
              exact fin e' q q3 q6
            · obtain ⟨a8, a9, a61, a12⟩ := E60 he
              obtain ⟨e', q, q3, q6⟩ := Uq I hop fa a8 a9 a61 a12
              exact noch e' q q3 q6
            · obtain ⟨a8, a9, a61, a12⟩ := E61 he
              obtain ⟨e', q, q3, q6⟩ := Ur I hop fa a8 a9 a61 a12
              exact noch e' q q3 q6
            · obtain ⟨a8, a9, a61, a12⟩ := E12 he
              obtain ⟨e', q, q3, q6⟩ := Up I hop fa a8 a9 a61 a12
              exact noch e' q q3 q6
            · obtain ⟨a8, a9, a61, a12⟩ := Ex he
              obtain ⟨e', q, q3, q6⟩ := ZC I hop fa a8 a9 a61 a12
              exact noch e' q q3 q6
    · have wo : (BU m i).2.1 = if m.ver = 0 then 6 else 3 := by unfold BU; rw [if_neg c0, if_neg ce]
      by_cases hv : m.ver = 0
      · have hop : (BU m i).2.1 = 6 := by rw [wo, if_pos hv]
        have fa : iEq m.ver 0 = true := Cu hv
        rcases ecase with he | he | he | he | he
        · obtain ⟨a8, a9, a61, a12⟩ := E0 he
          obtain ⟨g6, st6, Z6, y6, nx6, o6⟩ := Aw xg RB (by omega) (by omega) A6 (n := 1) (off := i * 3 + 2) rfl (by omega) rfl
          rw [show cellsOf A6 = [A6] from rfl, DO (by omega), G6 (l := []) xl hi] at Z6
          have O6 : g6.Ow k K T { m with marks := m.marks.set i { m.marks.getD i mm0 with ext := [] } } um uw us := clo g6 T _ _ (Nat.le_refl _) Z6 (by rw [List.length_set]) (by rw [List.length_set]; exact xl) (fun j hj => by
            rw [Cz hi, DJ (by omega)]
            by_cases hij : i = j
            · rw [if_pos hij, if_pos hij]; exact .inl ⟨rfl, rfl⟩
            · rw [if_neg hij, if_neg hij]
              exact (exts j hj).keep fun b el L hb r => o6 _ _ _ (by omega) r) (fun b el L hb r => o6 _ _ _ hb r)
          obtain ⟨e', q, q3, q6⟩ := Yy I hop fa a8 a9 a61 a12 st6
          exact done g6 { m with marks := m.marks.set i { m.marks.getD i mm0 with ext := [] } } e' q q3 q6 y6 (o6 _ _ _ (by omega) R3g) (o6 _ _ _ (by omega) R6g) (O6.mdT hkK (by omega) (by omega)) (.inr (.inr (.inl ⟨_, rfl, { rise := trivial, lo := hkm.lo, hi := hkm.hi, few := by show 0 ≤ 50; omega, com := hkm.com, none := fun _ => rfl, ver := hkm.ver }, fun h => .inl h⟩))) (fun b el L hb r => by
            have := r.lt x0.wf
            exact o6 _ _ _ (by omega) (keepg _ _ _ r))
        · obtain ⟨a8, a9, a61, a12⟩ := E60 he
          obtain ⟨e', q, q3, q6⟩ := Ue I hop fa a8 a9 a61 a12
          exact noch e' q q3 q6
        · obtain ⟨a8, a9, a61, a12⟩ := E61 he
          obtain ⟨e', q, q3, q6⟩ := Uf I hop fa a8 a9 a61 a12
          exact noch e' q q3 q6
        · obtain ⟨a8, a9, a61, a12⟩ := E12 he
          obtain ⟨e', q, q3, q6⟩ := Ud I hop fa a8 a9 a61 a12
          exact noch e' q q3 q6
        · obtain ⟨a8, a9, a61, a12⟩ := Ex he
          obtain ⟨e', q, q3, q6⟩ := Yz I hop fa a8 a9 a61 a12
          exact noch e' q q3 q6
      · have hop : (BU m i).2.1 = 3 := by rw [wo, if_neg hv]
        rcases ecase with he | he | he | he | he
        · obtain ⟨a8, a9, a61, a12⟩ := E0 he
          have hVS := exts i hi
          obtain ⟨b0, off, c, el, L, v1, v2, v3, v4, v5, v6⟩ : ∃ b off c el L, xs.getD i noRes = .slice (some ⟨b, off, none⟩) (ints .i64 (m.marks.getD i mm0).ext).length c ∧ (ints .i64 (m.marks.getD i mm0).ext).length ≤ c ∧ g.Row b el L ∧ off + (ints .i64 (m.marks.getD i mm0).ext).length ≤ L.length ∧ (L.drop off).take (ints .i64 (m.marks.getD i mm0).ext).length = ints .i64 (m.marks.getD i mm0).ext ∧ (K ≤ b ∧ b < T) := by
            rcases hVS with ⟨_, hx⟩ | hx
            · have := congrArg List.length hx
              rw [BW, List.length_nil] at this
              exact absurd (List.eq_nil_of_length_eq_zero this) ce
            · exact hx
          rw [BW] at v1 v2 v4 v5
          obtain ⟨nn, hnn⟩ : ∃ nn, (m.marks.getD i mm0).ext.length = nn + 1 := ⟨(m.marks.getD i mm0).ext.length - 1, by have := List.length_pos_iff.2 ce; omega⟩
          rw [hnn] at v1 v2 v4 v5
          have xgm := xg.marked
          obtain ⟨g6, st6, Z6, y6, nx6, _, o6⟩ := Df xgm (RB.same (h' := g.marked) rfl) (by omega) (by omega) (.slice (some ⟨b0, off, none⟩) nn c) (n := 1) (off := i * 3 + 2) rfl (by omega) rfl
          rw [show cellsOf (.slice (some ⟨b0, off, none⟩) nn c) = [.slice (some ⟨b0, off, none⟩) nn c] from rfl, DO (by omega), G6 (l := (m.marks.getD i mm0).ext.take nn) xl hi] at Z6
          have oo : ∀ b el L, b ≠ B → g.Row b el L → g6.Row b el L := fun b el L hb r => o6 _ _ _ hb (r.same rfl)
          have hlt : ((m.marks.getD i mm0).ext.take nn).length = nn := by rw [List.length_take]; omega
          have O6 : g6.Ow k K T { m with marks := m.marks.set i { m.marks.getD i mm0 with ext := (m.marks.getD i mm0).ext.take nn } } um uw us := clo g6 T _ _ (Nat.le_refl _) Z6 (by rw [List.length_set]) (by rw [List.length_set]; exact xl) (fun j hj => by
            rw [Cz hi, DJ (by omega)]
            by_cases hij : i = j
            · rw [if_pos hij, if_pos hij]
              refine .inr ⟨b0, off, c, el, L, ?_, ?_, oo _ _ _ (by omega) v3, ?_, ?_, v6⟩
              · show _ = Value.slice _ (ints .i64 ((m.marks.getD i mm0).ext.take nn)).length _
                rw [BW, hlt]
              · show (ints .i64 ((m.marks.getD i mm0).ext.take nn)).length ≤ _
                rw [BW, hlt]; omega
              · show off + (ints .i64 ((m.marks.getD i mm0).ext.take nn)).length ≤ _
                rw [BW, hlt]; omega
              · show (L.drop off).take (ints .i64 ((m.marks.getD i mm0).ext.take nn)).length = ints .i64 ((m.marks.getD i mm0).ext.take nn)
                rw [BW, hlt]
                have e := congrArg (fun l => l.take nn) v5
                simp only [List.take_take] at e
                rw [Nat.min_eq_left (by omega)] at e
                rw [e]
                exact (List.map_take).symm
            · rw [if_neg hij, if_neg hij]
              exact (exts j hj).keep fun b el L hb r => oo _ _ _ (by omega) r) oo
          obtain ⟨e', q, q3, q6⟩ := Yw I hop a8 a9 a61 a12 (u := xs.getD i noRes) (by
            rw [(RB.same (h' := g.marked) rfl).load1 (by omega)]
            have e := congrArg (fun l => l[2]?) hd
            simp only [List.getElem?_drop, markL, List.cons_append, List.nil_append, List.getElem?_cons_succ, List.getElem?_cons_zero] at e
            rw [List.getD_eq_getElem?_getD, e]; rfl) v1 (by omega) (by have := hkm.few; omega) st6
          exact done g6 { m with marks := m.marks.set i { m.marks.getD i mm0 with ext := (m.marks.getD i mm0).ext.take nn } } e' q q3 q6 y6 (oo _ _ _ (by omega) R3g) (oo _ _ _ (by omega) R6g) (O6.mdT hkK (by omega) (by omega)) (.inr (.inr (.inl ⟨_, rfl, { rise := Ox hkm.rise nn, lo := hkm.lo, hi := hkm.hi, few := by show ((m.marks.getD i mm0).ext.take nn).length ≤ 50; have := hkm.few; omega, com := hkm.com, none := fun h => absurd h c0, ver := hkm.ver }, fun h => .inl h⟩))) (fun b el L hb r => by
            have := r.lt x0.wf
            exact oo _ _ _ (by omega) (keepg _ _ _ r))
        · obtain ⟨a8, a9, a61, a12⟩ := E60 he
          obtain ⟨e', q, q3, q6⟩ := Ub I hop a8 a9 a61 a12
          exact noch e' q q3 q6
        · obtain ⟨a8, a9, a61, a12⟩ := E61 he
          obtain ⟨e', q, q3, q6⟩ := Uc I hop a8 a9 a61 a12 st1
          exact stale e' q q3 q6
        · obtain ⟨a8, a9, a61, a12⟩ := E12 he
          obtain ⟨e', q, q3, q6⟩ := Ua I hop a8 a9 a61 a12
          exact noch e' q q3 q6
        · obtain ⟨a8, a9, a61, a12⟩ := Ex he
          obtain ⟨e', q, q3, q6⟩ := Yx I hop a8 a9 a61 a12
          exact noch e' q q3 q6
end
end Go.Proofs.Ythcfmklkbakkpaa
set_option linter.unusedVariables false
set_option linter.unusedSimpArgs false
namespace Go.Proofs.Ythcfmklkbakkpaa
noncomputable section
open Go Go.RowKit Go.ChangeShapes
set_option maxRecDepth 100000
def Fz (m : MD) : MD := if m.ph = 1 then (if wholeP m = true then { m with ph := 2 } else if hopeP m = true then { m with ph := 3 } else m) else m
structure RightQ (m : MD) : Prop where
  st0 : 0 ≤ m.st
  st1 : m.st ≤ 1099511627776
  ver0 : 0 ≤ m.ver
  ver1 : m.ver ≤ 1099511627776
  n0 : 1 ≤ m.marks.length
  n1 : m.marks.length ≤ 255
  need0 : 1 ≤ m.need
  need1 : m.need ≤ m.marks.length
  marks : ∀ i, i < m.marks.length → RightMk m (m.marks.getD i mm0)
  sh : RightSh m
theorem RightP.q {m : MD} (h : RightP m) : RightQ m := ⟨h.st0, h.st1, h.ver0, h.ver1, h.n0, h.n1, h.need0, h.need1, h.marks, h.sh⟩
theorem RightMk.cast {m m' : MD} {k : MM} (r : RightMk m k) (h : m'.ver = m.ver) : RightMk m' k := ⟨by rw [h]; exact r.rise, r.lo, r.hi, r.few, r.com, r.none, fun hv => r.ver (by rw [← h]; exact hv)⟩
theorem RightQ.fin {m : MD} (q : RightQ m) (hp : m.ph = 1) : RightP (Fz m) := by
  unfold Fz
  rw [if_pos hp]
  by_cases hw : wholeP m = true
  · rw [if_pos hw]
    exact ⟨q.st0, q.st1, q.ver0, q.ver1, q.n0, q.n1, q.need0, q.need1, fun i hi => (q.marks i hi).cast rfl, ⟨q.sh.len, q.sh.need, q.sh.ver, q.sh.each⟩, .inr (.inl ⟨rfl, hw⟩)⟩
  · rw [if_neg hw]
    have hw : wholeP m = false := by simpa using hw
    by_cases hh : hopeP m = true
    · rw [if_pos hh]
      exact ⟨q.st0, q.st1, q.ver0, q.ver1, q.n0, q.n1, q.need0, q.need1, fun i hi => (q.marks i hi).cast rfl, ⟨q.sh.len, q.sh.need, q.sh.ver, q.sh.each⟩, .inr (.inr ⟨rfl, hw⟩)⟩
    · rw [if_neg hh]
      exact ⟨q.st0, q.st1, q.ver0, q.ver1, q.n0, q.n1, q.need0, q.need1, q.marks, q.sh, .inl ⟨hp, hw, by simpa using hh⟩⟩
theorem RightQ.set {m : MD} (q : RightQ m) {i : Nat} {k : MM} (hi : i < m.marks.length) (hk : RightMk m k) : RightQ (Gm m i k) := by
  have hl : (Gm m i k).marks.length = m.marks.length := by show (m.marks.set i k).length = _; rw [List.length_set]
  refine ⟨q.st0, q.st1, q.ver0, q.ver1, by rw [hl]; exact q.n0, by rw [hl]; exact q.n1, q.need0, by rw [hl]; exact q.need1, fun j hj => ?_, ⟨q.sh.len, q.sh.need, q.sh.ver, fun j hj => ?_⟩⟩
  · have e : (Gm m i k).marks.getD j mm0 = if i = j then k else m.marks.getD j mm0 := Cz hi
    rw [e]
    split
    · exact hk.cast rfl
    · exact (q.marks j (by rw [← hl]; exact hj)).cast rfl
  · obtain ⟨a, b, c, d⟩ := q.sh.each j hj
    exact ⟨a, by rw [hl]; exact b, c, d⟩
theorem HT {m : MD} (h : RightP m) (hp : m.ph = 1) : RightP { m with ph := 3 } := by
  have q := h.q
  have hw : wholeP m = false := by
    rcases h.ph with ⟨_, h2, _⟩ | ⟨h1, _⟩ | ⟨h1, _⟩
    · exact h2
    · omega
    · omega
  exact ⟨q.st0, q.st1, q.ver0, q.ver1, q.n0, q.n1, q.need0, q.need1, fun i hi => (q.marks i hi).cast rfl, ⟨q.sh.len, q.sh.need, q.sh.ver, q.sh.each⟩, .inr (.inr ⟨rfl, hw⟩)⟩
theorem Pv {l : List Nat} : ∀ {ls : List (List Nat)}, ¬ ls = [] → (ls ++ [l]).headD [] = ls.headD []
  | [], h => absurd rfl h
  | x :: ls, _ => rfl
theorem Mw {m : MD} (h : RightP m) (hp : m.ph = 1) {i : Nat} (hi : i < m.marks.length) (hv : ¬ m.ver = 0) (ce : (m.marks.getD i mm0).ext = []) (l : List Nat) : RightP (Fz (DV m i l)) := by
  unfold DV
  have hkm := h.marks i hi
  have hk2 : RightMk m { m.marks.getD i mm0 with kd := 2 } := { rise := hkm.rise, lo := by show (0 : Int) ≤ 2; omega, hi := by show (2 : Int) ≤ 4; omega, few := hkm.few, com := fun _ => .inr rfl, none := fun _ => ce, ver := fun h => absurd h hv }
  have q := h.q.set hi hk2
  split
  · rename_i hf
    split
    · rename_i hc
      have hl : (m.marks.set i { m.marks.getD i mm0 with kd := 2 }).length = m.marks.length := by rw [List.length_set]
      refine RightQ.fin (m := { m with marks := m.marks.set i { m.marks.getD i mm0 with kd := 2 }, which := m.which ++ [(i : Int)], shards := m.shards ++ [l] }) ⟨q.st0, q.st1, q.ver0, q.ver1, q.n0, q.n1, q.need0, q.need1, fun j hj => (q.marks j hj).cast rfl, ⟨?_, ?_, fun h => absurd h hv, fun j hj => ?_⟩⟩ hp
      · show (m.which ++ [(i : Int)]).length = (m.shards ++ [l]).length
        rw [List.length_append, List.length_append, h.sh.len]; rfl
      · show ((m.which ++ [(i : Int)]).length : Int) ≤ m.need
        rw [List.length_append]
        show ((m.which.length + 1 : Nat) : Int) ≤ m.need
        omega
      · have hj : j < (m.which ++ [(i : Int)]).length := hj
        rw [List.length_append] at hj
        have hj : j < m.which.length + 1 := hj
        have hfa : ∀ x, (m.shards = [] → x = l) → fitsM m x = true → fitsM { m with marks := m.marks.set i { m.marks.getD i mm0 with kd := 2 }, which := m.which ++ [(i : Int)], shards := m.shards ++ [l] } x = true := fun x hx h => by
          unfold fitsM at h ⊢
          simp only [Bool.and_eq_true, Bool.or_eq_true, decide_eq_true_eq] at h ⊢
          refine ⟨h.1, .inr ?_⟩
          by_cases hs : m.shards = []
          · rw [hx hs, hs]; rfl
          · rw [Pv hs]
            rcases h.2 with h2 | h2
            · exact absurd h2 hs
            · exact h2
        by_cases hjl : j < m.which.length
        · obtain ⟨a, b, c, d⟩ := h.sh.each j hjl
          have e1 : (m.which ++ [(i : Int)]).getD j 0 = m.which.getD j 0 := by
            rw [List.getD_eq_getElem?_getD, List.getElem?_append_left hjl, List.getD_eq_getElem?_getD]
          have e2 : (m.which ++ [(i : Int)]).take j = m.which.take j := List.take_append_of_le_length (by omega)
          have hjs : j < m.shards.length := by rw [← h.sh.len]; exact hjl
          have e3 : (m.shards ++ [l]).getD j [] = m.shards.getD j [] := by
            rw [List.getD_eq_getElem?_getD, List.getElem?_append_left hjs, List.getD_eq_getElem?_getD]
          show 0 ≤ (m.which ++ [(i : Int)]).getD j 0 ∧ (m.which ++ [(i : Int)]).getD j 0 < ((m.marks.set i { m.marks.getD i mm0 with kd := 2 }).length : Int) ∧ (m.which ++ [(i : Int)]).getD j 0 ∉ (m.which ++ [(i : Int)]).take j ∧ fitsM _ ((m.shards ++ [l]).getD j []) = true
          rw [e1, e2, e3, hl]
          exact ⟨a, b, c, hfa _ (fun hs => by rw [hs] at hjs; exact absurd hjs (Nat.not_lt_zero _)) d⟩
        · obtain rfl : j = m.which.length := by omega
          have e1 : (m.which ++ [(i : Int)]).getD m.which.length 0 = (i : Int) := by
            rw [List.getD_eq_getElem?_getD, List.getElem?_append_right (Nat.le_refl _), Nat.sub_self]; rfl
          have e2 : (m.which ++ [(i : Int)]).take m.which.length = m.which := by
            rw [List.take_append_of_le_length (Nat.le_refl _), List.take_length]
          have e3 : (m.shards ++ [l]).getD m.which.length [] = l := by
            rw [h.sh.len, List.getD_eq_getElem?_getD, List.getElem?_append_right (Nat.le_refl _), Nat.sub_self]; rfl
          show 0 ≤ (m.which ++ [(i : Int)]).getD m.which.length 0 ∧ (m.which ++ [(i : Int)]).getD m.which.length 0 < ((m.marks.set i { m.marks.getD i mm0 with kd := 2 }).length : Int) ∧ (m.which ++ [(i : Int)]).getD m.which.length 0 ∉ (m.which ++ [(i : Int)]).take m.which.length ∧ fitsM _ ((m.shards ++ [l]).getD m.which.length []) = true
          rw [e1, e2, e3, hl]
          exact ⟨by omega, by omega, hc.2, hfa _ (fun _ => rfl) hf⟩
    · exact q.fin hp
  · have : Fz { m with ph := 3 } = { m with ph := 3 } := by unfold Fz; rw [if_neg (show ¬ (3 : Int) = 1 by omega)]
    rw [this]
    exact HT h hp
theorem M8 {m m1 : MD} (h : RightP m) (hp : m.ph = 1) {i : Nat} (hi : i < m.marks.length) {err : Int} {l : List Nat} (hT : Hv m i err l m1) : RightP (Fz m1) := by
  rcases hT with rfl | rfl | ⟨k, rfl, hk, _⟩ | ⟨rfl, hv, ce⟩
  · exact h.q.fin hp
  · have : Fz { m with ph := 3 } = { m with ph := 3 } := by unfold Fz; rw [if_neg (show ¬ (3 : Int) = 1 by omega)]
    rw [this]
    exact HT h hp
  · exact (h.q.set hi hk).fin hp
  · exact Mw h hp hi hv ce l
theorem MX {m : MD} (h : RightP m) (hp : m.ph = 1) {i : Nat} (hi : i < m.marks.length) : RightP (Gm m i mm0) := by
  have hk : RightMk m mm0 := { rise := trivial, lo := Int.le_refl _, hi := by show (0 : Int) ≤ 4; omega, few := Nat.zero_le _, com := (fun h => by cases h), none := fun _ => rfl, ver := fun _ => ⟨.inl rfl, rfl⟩ }
  have q := h.q.set hi hk
  have hl : (Gm m i mm0).marks.length = m.marks.length := by show (m.marks.set i mm0).length = _; rw [List.length_set]
  have hg : (Gm m i mm0).marks.getD i mm0 = mm0 := by
    show (m.marks.set i mm0).getD i mm0 = _
    rw [Cz hi, if_pos rfl]
  have hw : wholeP (Gm m i mm0) = false := KO (j := i) (by rw [hl]; exact hi) (by rw [hg]; rfl)
  have ho : (Gm m i mm0).marks.all JX = false := KO (j := i) (by rw [hl]; exact hi) (by rw [hg]; rfl)
  refine ⟨q.st0, q.st1, q.ver0, q.ver1, q.n0, q.n1, q.need0, q.need1, q.marks, q.sh, .inl ⟨hp, hw, ?_⟩⟩
  unfold hopeP
  rw [ho, Bool.and_false]
def FH (ver need : Int) (n : Nat) : MD := ⟨7, ver, need, 1, List.replicate n mm0, [], []⟩
theorem I2 {ver need : Int} {n : Nat} (h0 : 0 ≤ ver) (h1 : ver ≤ 100) (hn : 1 ≤ n) (hn2 : n ≤ 255) (a : 1 ≤ need) (b : need ≤ n) : RightP (FH ver need n) := by
  have hl : (FH ver need n).marks.length = n := List.length_replicate
  have hg : ∀ i, i < n → (FH ver need n).marks.getD i mm0 = mm0 := fun i hi => by
    show (List.replicate n mm0).getD i mm0 = _
    rw [List.getD_eq_getElem?_getD, List.getElem?_replicate]
    split <;> rfl
  have hw : wholeP (FH ver need n) = false := KO (j := 0) (by rw [hl]; omega) (by rw [hg 0 (by omega)]; rfl)
  have ho : (FH ver need n).marks.all JX = false := KO (j := 0) (by rw [hl]; omega) (by rw [hg 0 (by omega)]; rfl)
  refine ⟨by show (0 : Int) ≤ 7; omega, by show (7 : Int) ≤ _; omega, h0, by show ver ≤ _; omega, by rw [hl]; exact hn, by rw [hl]; exact hn2, a, by rw [hl]; exact b, fun i hi => ?_, ⟨rfl, by show (0 : Int) ≤ need; omega, fun _ => rfl, fun i hi => absurd hi (Nat.not_lt_zero _)⟩, .inl ⟨rfl, hw, ?_⟩⟩
  · rw [hg i (by rw [← hl]; exact hi)]
    exact { rise := trivial, lo := Int.le_refl _, hi := by show (0 : Int) ≤ 4; omega, few := Nat.zero_le _, com := (fun h => by cases h), none := fun _ => rfl, ver := fun _ => ⟨.inl rfl, rfl⟩ }
  · unfold hopeP
    rw [ho, Bool.and_false]
end
end Go.Proofs.Ythcfmklkbakkpaa
set_option linter.unusedVariables false
set_option linter.unusedSimpArgs false
namespace Go.Proofs.Ythcfmklkbakkpaa
noncomputable section
open Go Go.RowKit Go.ChangeShapes
set_option maxRecDepth 100000
def in64 (n : Int) : Prop := -9223372036854775808 ≤ n ∧ n ≤ 9223372036854775807
theorem P1 {n : Int} (h : in64 n) : inK .i64 n = true := by
  cases n with
  | ofNat m => exact Az.2 (by have := h.2; show m ≤ 9223372036854775807; simp at this; omega)
  | negSucc m => exact Az.2 (by have := h.1; show m ≤ 9223372036854775807; omega)
theorem cn {n : Int} (h : 0 ≤ n ∧ n ≤ 255) : inK .u8 n = true := by
  obtain ⟨m, rfl⟩ := Int.eq_ofNat_of_zero_le h.1
  exact Az.2 (by show m ≤ 255; omega)
structure OkE (x : Int × Int × Int) : Prop where
  a : in64 x.1
  b : 0 ≤ x.2.1 ∧ x.2.1 ≤ 255
  c : in64 x.2.2
def Xb (neg : Bool) (a b : Value) (h : Hp) : R := match eqC ⟨true, [.i .i64, .i .u8, .i .i64]⟩ a b with
  | some r => okB (neg != r) h
  | none => .no
theorem KB {F : CallF} {e : Env} {h : Hp} {x y : O} {neg : Bool} : Eo ⟨true, [.i .i64, .i .u8, .i .i64]⟩ neg x y F e h = Xb neg (x e) (y e) h := rfl
theorem bQ {x : Int × Int × Int} (o : OkE x) : EH ⟨true, [.i .i64, .i .u8, .i .i64]⟩ (CF x) = true := by
  show (match (match DQ .i64 .i64 with | true => inK .i64 x.1 | false => false) with | true => (match (match DQ .u8 .u8 with | true => inK .u8 x.2.1 | false => false) with | true => (match (match DQ .i64 .i64 with | true => inK .i64 x.2.2 | false => false) with | true => true | false => false) | false => false) | false => false) = true
  rw [P1 o.a, cn o.b, P1 o.c]; rfl
theorem NS {h : Hp} {neg : Bool} {x y : Int × Int × Int} (ox : OkE x) (oy : OkE y) : Xb neg (CF x) (CF y) h = .ok (.bool (neg != decide (x = y))) h := by
  have e1 : eqC ⟨true, [.i .i64, .i .u8, .i .i64]⟩ (CF x) (CF y) = some (decide (x = y)) := by
    unfold eqC Gc
    simp only [bQ ox, bQ oy]
    show (match (match DQ .i64 .i64 with | true => some (iEq x.1 y.1) | false => none) with | some true => (match (match DQ .u8 .u8 with | true => some (iEq x.2.1 y.2.1) | false => none) with | some true => (match (match DQ .i64 .i64 with | true => some (iEq x.2.2 y.2.2) | false => none) with | some true => some true | some false => some false | none => none) | some false => some false | none => none) | some false => some false | none => none) = _
    have hk : DQ .i64 .i64 = true := rfl
    have hk8 : DQ .u8 .u8 = true := rfl
    obtain ⟨a, b, c⟩ := x
    obtain ⟨a', b', c'⟩ := y
    simp only [hk, hk8, NZ, Prod.mk.injEq]
    by_cases h1 : a = a'
    · by_cases h2 : b = b'
      · by_cases h3 : c = c' <;> simp [h1, h2, h3]
      · simp [h1, h2]
    · simp [h1]
  unfold Xb
  rw [e1]
  exact FW
theorem P6 : ∀ {l : List Int}, ¬ l = [] → FS l ∈ l
  | [], h => absurd rfl h
  | a :: l, _ => FU (by simp)
theorem Q4 {l : List Int} {lo : Int} (h : riseP lo l) : ∀ x ∈ l, lo < x ∧ x ≤ 1099511627776 := by
  induction l generalizing lo with
  | nil => intro x hx; cases hx
  | cons v l ih =>
    obtain ⟨h1, h2, h3⟩ := h
    intro x hx
    rcases List.mem_cons.1 hx with rfl | hx
    · exact ⟨h1, h2⟩
    · have := ih h3 x hx; exact ⟨by omega, this.2⟩
theorem KL {m : MD} (h : RightP m) {i : Nat} (hi : i < m.marks.length) : OkE (BU m i) := by
  have hk := h.marks i hi
  have n1 := h.n1
  have v0 := h.ver0
  have v1 := h.ver1
  unfold BU
  split
  · exact ⟨⟨by show _ ≤ (i : Int); omega, by show (i : Int) ≤ _; omega⟩, ⟨by show (0 : Int) ≤ 4; omega, by show (4 : Int) ≤ 255; omega⟩, ⟨by show _ ≤ (0 : Int); omega, by show (0 : Int) ≤ _; omega⟩⟩
  · split
    · refine ⟨⟨by show _ ≤ (i : Int); omega, by show (i : Int) ≤ _; omega⟩, ?_, ⟨by show _ ≤ m.ver; omega, by show m.ver ≤ _; omega⟩⟩
      show 0 ≤ opK _ ∧ opK _ ≤ 255
      unfold opK
      split
      · omega
      · split
        · omega
        · split
          · omega
          · split <;> omega
    · rename_i ce
      have := Q4 hk.rise _ (P6 ce)
      refine ⟨⟨by show _ ≤ (i : Int); omega, by show (i : Int) ≤ _; omega⟩, ?_, ⟨by show _ ≤ FS _; omega, by show FS _ ≤ _; omega⟩⟩
      show 0 ≤ (if m.ver = 0 then (6 : Int) else 3) ∧ (if m.ver = 0 then (6 : Int) else 3) ≤ 255
      split <;> omega
def toE : C := (AE (AC 65) (AL 7 (AB 3))
(cDo (AM 7 (AB 6) (AB 65))
(AE (AC 7) (AF (kV (.int .i64 0)))
Ak)))
def toK : C := (AE (AC 54) (AD 3 (AB 3))
(AE (AC 55) (AH (AB 54))
(AE (AC 56) (AS iNe .i64 (AB 55) (kV (.int .i64 1)))
(AE (AC 53) (AF (AB 56))
(AO (AB 53)
AQ
(AE (AC 58) (AL 7 (AB 3))
(AE (AC 59) (AV 17 [(AB 58)])
(AE (AC 57) (AF (AB 59))
(AO (AB 57)
(AE (AC 60) (AD 3 (AB 3))
(cDo (AM 1 (AB 60) (kV (.int .i64 2)))
AQ))
(AE (AC 62) (AL 7 (AB 3))
(AE (AC 63) (AV 18 [(AB 62)])
(AE (AC 61) (AF (AB 63))
(AO (AB 61)
(AE (AC 64) (AD 3 (AB 3))
(cDo (AM 1 (AB 64) (kV (.int .i64 3)))
AQ))
AQ)))))))))))))
def toS : C := (As (Ab 0 (AE (AC 54) (AD 3 (AB 3))
(AE (AC 55) (AH (AB 54))
(AE (AC 56) (AS iNe .i64 (AB 55) (kV (.int .i64 1)))
(AE (AC 53) (AF (AB 56))
(AO (AB 53)
AQ
(AE (AC 58) (AL 7 (AB 3))
(AE (AC 59) (AV 17 [(AB 58)])
(AE (AC 57) (AF (AB 59))
(AO (AB 57)
(AE (AC 60) (AD 3 (AB 3))
(cDo (AM 1 (AB 60) (kV (.int .i64 2)))
AQ))
(AE (AC 62) (AL 7 (AB 3))
(AE (AC 63) (AV 18 [(AB 62)])
(AE (AC 61) (AF (AB 63))
(AO (AB 61)
(AE (AC 64) (AD 3 (AB 3))
(cDo (AM 1 (AB 64) (kV (.int .i64 3)))
AQ))
AQ))))))))))))))
(AE (AC 65) (AL 7 (AB 3))
(cDo (AM 7 (AB 6) (AB 65))
(AE (AC 7) (AF (kV (.int .i64 0)))
Ak))))
theorem ZD : toS = As (Ab 0 toK) toE := rfl
def MC : C := (AE (AC 3) (Bd (AB 0))
(AE (AC 4) (Bd (AB 1))
(AE (AC 5) (Bd (AB 2))
(AE (AC 6) (Au 7 DB)
(AE (AC 7) (AF (kV (.int .i64 0)))
(AE (AC 10) (AL 7 (AB 3))
(AE (AC 11) (AV 12 [(AB 10)])
(AE (AC 12) (BF (AB 11))
(cG (AB 12) false (AC 14) (AD 0 (AB 4))
(cG (AB 12) false (AC 15) (AH (AB 14))
(cG (AB 12) false (AC 16) (AS iLt .i64 (AB 15) (kV (.int .i64 0)))
(AE (AC 17) (AW (AB 12) (kV (.bool true)) (AB 16))
(cG (AB 17) false (AC 19) (AD 0 (AB 4))
(cG (AB 17) false (AC 20) (AH (AB 19))
(cG (AB 17) false (AC 21) (AD 4 (AB 3))
(cG (AB 17) false (AC 22) (AH (AB 21))
(cG (AB 17) false (AC 23) (Am (AB 22))
(cG (AB 17) false (AC 24) (AS iGe .i64 (AB 20) (AB 23))
(AE (AC 25) (AW (AB 17) (kV (.bool true)) (AB 24))
(AO (AB 25)
(AE (AC 26) (AL 7 (AB 3))
(cDo (AM 7 (AB 6) (AB 26))
(AE (AC 7) (AF (kV (.int .i64 160)))
Ak)))
(AE (AC 27) (AL 7 (AB 3))
(AE (AC 28) (AV 15 [(AB 27)])
(cDo (AM 7 (AB 3) (AB 28))
(AE (AC 30) (AL 7 (AB 3))
(AE (AC 31) (AD 0 (AB 4))
(AE (AC 32) (AH (AB 31))
(AE (AC 33) (AV 14 [(AB 30), (AB 32)])
(AE (AC 34) (Ah 0 (AB 33))
(AE (AC 35) (Ah 1 (AB 33))
(AE (AC 8) (Au 3 Dh)
(cDo (AM 3 (AB 8) (AB 34))
(AE (AC 9) (AF (AB 35))
(AE (AC 36) (AD 3 (AB 3))
(AE (AC 37) (AH (AB 36))
(AE (AC 38) (AS iNe .i64 (AB 37) (kV (.int .i64 1)))
(cG (AB 38) false (AC 40) (AF (AB 9))
(cG (AB 38) false (AC 41) (BF (AB 40))
(AE (AC 42) (AW (AB 38) (kV (.bool true)) (AB 41))
(cG (AB 42) false (AC 44) (AL 3 (AB 8))
(cG (AB 42) false (AC 45) (AL 3 (AB 4))
(cG (AB 42) false (AC 46) (Eo ⟨true, [.i .i64, .i .u8, .i .i64]⟩ true (AB 44) (AB 45))
(AE (AC 47) (AW (AB 42) (kV (.bool true)) (AB 46))
(AO (AB 47)
(AE (AC 48) (AL 7 (AB 3))
(cDo (AM 7 (AB 6) (AB 48))
(AE (AC 7) (AF (kV (.int .i64 0)))
Ak)))
(AE (AC 49) (AL 7 (AB 3))
(AE (AC 50) (AL 3 (AB 4))
(AE (AC 51) (AL 7 (AB 5))
(AE (AC 52) (AV 16 [(AB 49), (AB 50), (AB 51)])
(cDo (AM 7 (AB 3) (AB 52))
toS))))))))))))))))))))))))))))))))))))))))))))))))
theorem MB : d10 = MC := rfl
def PN (m : MD) (w : Int × Int × Int) (err : Int) (l : List Nat) (m' : MD) (c : Int) : Prop :=
  (¬ (0 ≤ w.1 ∧ w.1 < m.marks.length) ∧ m' = m ∧ c = 160) ∨ ∃ i : Nat, i < m.marks.length ∧ w.1 = (i : Int) ∧ c = 0 ∧
    ((¬ (m.ph = 1 ∧ Cq m i = true ∧ w = BU m i) ∧ m' = m) ∨ ((m.ph = 1 ∧ Cq m i = true ∧ w = BU m i) ∧ ∃ m1, Hv m i err l m1 ∧ m' = Fz m1))
theorem Lo {n : Nat} {h : Hp} (W : h.Wf) {S : Nat → Prop} {m : MD} {um uw us ui ub : Value} {w : Int × Int × Int} {t : TE} {l : List Nat} {il : List IN} (M : h.Md S m um uw us) (hr : RightP m) (ow : OkE w) (V : h.By ub l) (J : h.Inf ui il) (hil : il.length < 5000000000000) :
    ∃ h' m' um' uw' us' c, call AK (n + 6) 10 [mendV m um uw us, CF w, Dx t ui ub] h = .ok (.tuple ⟨[mendV m' um' uw' us', .int .i64 c]⟩) h' ∧ h.Ext h' ∧ h'.Md (fun b => S b ∧ b < h.next ∨ h.next ≤ b) m' um' uw' us' ∧ RightP m' ∧ PN m w t.err l m' c := by
  have big := W.big
  have nb := hr.n1
  obtain ⟨h1, b3x, R3, x1, n1⟩ := Bw W (mendV m um uw us)
  have R3 : h1.Row h.next 0 (mendL m um uw us) := R3
  obtain ⟨h2, b4x, R4, x2, n2⟩ := Bw x1.wf (CF w)
  have R4 : h2.Row h1.next 0 (errL w) := R4
  obtain ⟨h3, b5x, R5, x3, n3⟩ := Bw x2.wf (Dx t ui ub)
  have R5 : h3.Row h2.next 0 (tellL t ui ub) := R5
  obtain ⟨h4, al6, R6, x4, n4⟩ := Bq x3.wf (n := 7) D0 rfl
  have y4 := ((x1.trans x2).trans x3).trans x4
  have R3b := ((R3.ext x1.wf x2).ext x2.wf x3).ext x3.wf x4
  have R4b := (R4.ext x2.wf x3).ext x3.wf x4
  have R5b := R5.ext x3.wf x4
  have M4 := (M.lt W).ext W y4
  obtain ⟨_, _, _, _, _, _, _, l7⟩ := An R3b
  obtain ⟨h5, k5, x5⟩ := Gk (n := n + 1) y4.wf M4 hr
  have y5 := y4.trans x5
  have R3c := R3b.ext y4.wf x5
  have R4c := R4b.ext y4.wf x5
  have R5c := R5b.ext y4.wf x5
  have R6c := R6.ext y4.wf x5
  have M5 := M4.ext y4.wf x5
  obtain ⟨_, _, _, _, m4, _, _, m7⟩ := An R3c
  obtain ⟨w0, w1, w2, w3⟩ := Bm R4c
  have lnm := M5.marks.len (g := h5)
  have z5 := x5.next
  by_cases hin : 0 ≤ w.1 ∧ w.1 < m.marks.length
  · obtain ⟨i, hiw⟩ := Int.eq_ofNat_of_zero_le hin.1
    have hi : i < m.marks.length := by omega
    have c1 : iLt w.1 0 = false := Ek (by omega)
    have c2 : iGe w.1 (m.marks.length : Int) = false := Py (by omega)
    obtain ⟨h6, um1, uw1, us1, K, k6, x6, O6, hkK, hKn⟩ := Nz (n := n + 3) x5.wf M5 hr
    have y6 := y5.trans x6
    have z6 := x6.next
    obtain ⟨h7, st7, Z7, y7, n7, o7⟩ := Aw y6 (R3c.ext x5.wf x6) (by omega) (by omega) (mendV m um1 uw1 us1) (n := 7) (off := 0) rfl (Nat.le_refl _) (O6.md hkK).all
    rw [A5 (by rfl)] at Z7
    have Z7 : h7.Row h.next 0 (mendL m um1 uw1 us1) := Z7
    have O7 := O6.keep (h' := h7) (fun b el L hb r => o7 _ _ _ (by omega) r) hkK
    have R4d := o7 _ _ _ (show h1.next ≠ h.next by omega) (R4c.ext x5.wf x6)
    have R5d := o7 _ _ _ (show h2.next ≠ h.next by omega) (R5c.ext x5.wf x6)
    have R6d := o7 _ _ _ (show h3.next ≠ h.next by omega) (R6c.ext x5.wf x6)
    obtain ⟨_, _, _, _, _, _, _, a7⟩ := An Z7
    obtain ⟨a0, _, _, a3⟩ := Bm R4d
    have hkm := hr.marks i hi
    obtain ⟨h8, k8, x8⟩ := N8 (n := n + 3) y7.wf (O7.md hkK) hi hkm.lo hkm.hi (by have := hkm.few; omega)
    have y8 := y7.trans x8
    have z8 := x8.next
    obtain ⟨h9, al9, R9, x9, n9⟩ := Bq x8.wf (n := 3) FD rfl
    obtain ⟨h10, st10, Z10, x10, n10, o10⟩ := Aw x9 R9 (Nat.le_refl _) (by omega) (CF (BU m i)) (n := 3) (off := 0) rfl (Nat.le_refl _) rfl
    rw [A5 (by rfl)] at Z10
    have y10 := y8.trans x10
    have q10 : h7.Ext h10 := x8.trans x10
    have z10 := x10.next
    have Z7b := Z7.ext y7.wf q10
    have R4e := R4d.ext y7.wf q10
    have R5e := R5d.ext y7.wf q10
    have R6e := R6d.ext y7.wf q10
    have O10 := O7.ext y7.wf q10 hkK
    obtain ⟨_, _, _, e3, _, _, _, e7⟩ := An Z7b
    obtain ⟨v0, v1, v2, v3⟩ := Bm (show h10.Row h8.next 0 (errL (BU m i)) from Z10)
    obtain ⟨g0, g1, g2, g3⟩ := Bm R4e
    obtain ⟨t3, t4, t5, t7⟩ := GJ R5e
    have eqc := NS (h := h10) (neg := true) (KL hr hi) ow
    by_cases hw : m.ph = 1 ∧ Cq m i = true ∧ w = BU m i
    · obtain ⟨hp, hb, he⟩ := hw
      have f1 : iNe m.ph 1 = false := Dv hp
      rw [hb] at k8
      rw [decide_eq_true he.symm] at eqc
      have kt := Us (n := n + 1) (t := t) (il := il) y10 W (k := h5.next) (K := K) (T := h6.next) (by omega) hkK (by omega) (by omega) O10 hr hi hb V J hil
      obtain ⟨h11, m1, um2, uw2, us2, k11, y11, M11, hT, fr⟩ := kt
      rw [← he] at k11
      have z11 := y11.next
      have R3f := fr _ _ _ (by omega) Z7b
      have R6f := fr _ _ _ (by omega) R6e
      obtain ⟨h12, st12, Z12, y12, n12, o12⟩ := Aw y11 R3f (by omega) (by omega) (mendV m1 um2 uw2 us2) (n := 7) (off := 0) rfl (Nat.le_refl _) M11.all
      rw [A5 (by rfl)] at Z12
      have Z12 : h12.Row h.next 0 (mendL m1 um2 uw2 us2) := Z12
      have M12 := M11.keep (h' := h12) fun b el L hb r => o12 _ _ _ (by omega) r
      have R6g := o12 _ _ _ (show h3.next ≠ h.next by omega) R6f
      obtain ⟨_, _, _, p3, _, _, _, p7⟩ := An Z12
      have hRf := M8 hr hp hi hT
      have n1' : m1.marks.length ≤ 255 := by
        rcases hT with rfl | rfl | ⟨k, rfl, _⟩ | ⟨rfl, _⟩
        · exact nb
        · exact nb
        · show (m.marks.set i k).length ≤ 255; rw [List.length_set]; exact nb
        · unfold DV
          split
          · split
            · show (m.marks.set i _).length ≤ 255; rw [List.length_set]; exact nb
            · show (m.marks.set i _).length ≤ 255; rw [List.length_set]; exact nb
          · exact nb
      have pre : ∃ e1, MC (call AK (n + 5)) (Av e0 0 [mendV m um uw us, CF w, Dx t ui ub]) h = toS (call AK (n + 5)) e1 h12 ∧ AB 3 e1 = pt h.next ∧ AB 6 e1 = pt h3.next := by
        unfold MC
        simp only [Ac, Af, Nat.succ_eq_add_one, Nat.zero_add, Nat.reduceAdd, Br, Ck, Bh, Bs, Cm, Ba, BM, Bz, AG, Nat.reduceLT, Nat.reduceEqDiff, if_true, if_false, reduceIte, gD, b3x, b4x, b5x, al6, Aa, AU, l7, Ap, Ae, Al, k5, BP, BO, Bool.not_true, AJ, AN, AP, AX, w0, hiw, AZ, AY, hiw ▸ c1, hiw ▸ c2, m4, Ai, lnm, m7, k6, Ad, st7, a7, hiw ▸ a0, k8, B9, CJ, CL, al9, st10, e3, f1, v3, g3, KB, eqc, bne_self_eq_false, e7, t7, k11, st12]
        exact ⟨_, rfl, by simp [AG], by simp [AG]⟩
      obtain ⟨e1, p, s3, s6⟩ := pre
      have out : ∀ (g : Hp) (m' : MD) (e2 : Env), toK (call AK (n + 5)) e1 h12 = .norm e2 g → h.Ext g → g.Row h.next 0 (mendL m' um2 uw2 us2) → g.Row h3.next 0 [.int .i64 0, .int .i64 0, .int .i64 0, .int .i64 0, A6, A6, A6] → g.Md (fun b => h5.next ≤ b) m' um2 uw2 us2 → AB 3 e2 = pt h.next → AB 6 e2 = pt h3.next → m' = Fz m1 →
          ∃ h' m' um' uw' us' c, call AK (n + 6) 10 [mendV m um uw us, CF w, Dx t ui ub] h = .ok (.tuple ⟨[mendV m' um' uw' us', .int .i64 c]⟩) h' ∧ h.Ext h' ∧ h'.Md (fun b => S b ∧ b < h.next ∨ h.next ≤ b) m' um' uw' us' ∧ RightP m' ∧ PN m w t.err l m' c := fun g m' e2 hq xg Ra Rb Mg q3 q6 hm => by
        obtain ⟨g', st', Z', y', _, o'⟩ := Aw xg Rb (by omega) (by omega) (mendV m' um2 uw2 us2) (n := 7) (off := 0) rfl (Nat.le_refl _) Mg.all
        rw [A5 (by rfl)] at Z'
        have a7 := (An Ra).2.2.2.2.2.2.2
        have b7 := (An (show g'.Row h3.next 0 (mendL m' um2 uw2 us2) from Z')).2.2.2.2.2.2.2
        have run : ∃ e3, toE (call AK (n + 5)) e2 g = .ret e3 g' ∧ AB 6 e3 = pt h3.next ∧ AB 7 e3 = .int .i64 0 := by
          unfold toE
          simp only [sT, Nat.reduceLT, Nat.reduceEqDiff, if_true, if_false, reduceIte, q3, q6, Aa, AU, a7, Ad, st']
          exact ⟨_, rfl, by simp only [AG, Nat.reduceLT, Nat.reduceEqDiff, if_true, if_false, reduceIte]; exact q6, by simp [AG]⟩
        obtain ⟨e3, r1, r2, r3⟩ := run
        refine ⟨g', m', um2, uw2, us2, 0, ?_, y', (Mg.keep fun b el L hb r => o' _ _ _ (by omega) r).mono fun b hb => by omega, hm ▸ hRf, .inr ⟨i, hi, hiw, rfl, .inr ⟨⟨hp, hb, he⟩, m1, hT, hm⟩⟩⟩
        rw [L1 rfl, MB, p, ZD]
        simp only [Be, BQ, hq, EJ, BB, r1]
        rw [Ao, D1 (v := mendV m' um2 uw2 us2) (h' := g') (by rw [r2, AU]; exact b7), r3]
      by_cases hq : m1.ph = 1
      · have f2 : iNe m1.ph 1 = false := Dv hq
        obtain ⟨h13, k13, x13⟩ := Jh (n := n + 2) y12.wf M12 n1'
        have y13 := y12.trans x13
        have Z13 := Z12.ext y12.wf x13
        have R6h := R6g.ext y12.wf x13
        have M13 := M12.ext y12.wf x13
        obtain ⟨_, _, _, _, _, _, _, r7⟩ := An Z13
        cases hwh : wholeP m1
        · rw [hwh] at k13
          obtain ⟨h14, k14, x14⟩ := Ks (n := n + 2) y13.wf M13 n1'
          have y14 := y13.trans x14
          have Z14 := Z13.ext y13.wf x14
          have R6i := R6h.ext y13.wf x14
          have M14 := M13.ext y13.wf x14
          cases hho : hopeP m1
          · rw [hho] at k14
            have run : ∃ e2, toK (call AK (n + 5)) e1 h12 = .norm e2 h14 ∧ AB 3 e2 = pt h.next ∧ AB 6 e2 = pt h3.next := by
              unfold toK
              simp only [sT, Nat.reduceLT, Nat.reduceEqDiff, if_true, if_false, reduceIte, s3, s6, AJ, AN, Nat.zero_add, AP, AX, p3, AZ, AY, f2, Aa, AU, p7, Ap, Ae, Al, k13, r7, k14]
              exact ⟨_, rfl, by simp only [AG, Nat.reduceLT, Nat.reduceEqDiff, if_true, if_false, reduceIte]; exact s3, by simp only [AG, Nat.reduceLT, Nat.reduceEqDiff, if_true, if_false, reduceIte]; exact s6⟩
            obtain ⟨e2, r, r3, r6⟩ := run
            exact out h14 m1 e2 r y14 Z14 R6i M14 r3 r6 (by unfold Fz; rw [if_pos hq, hwh, hho]; rfl)
          · rw [hho] at k14
            obtain ⟨h15, st15, Z15, y15, n15, o15⟩ := Aw y14 Z14 (by omega) (by omega) (.int .i64 3) (n := 1) (off := 3) rfl (by show 3 + 1 ≤ 7; omega) rfl
            have run : ∃ e2, toK (call AK (n + 5)) e1 h12 = .norm e2 h15 ∧ AB 3 e2 = pt h.next ∧ AB 6 e2 = pt h3.next := by
              unfold toK
              simp only [sT, Nat.reduceLT, Nat.reduceEqDiff, if_true, if_false, reduceIte, s3, s6, AJ, AN, Nat.zero_add, AP, AX, p3, AZ, AY, f2, Aa, AU, p7, Ap, Ae, Al, k13, r7, k14, Ad, st15]
              exact ⟨_, rfl, by simp only [AG, Nat.reduceLT, Nat.reduceEqDiff, if_true, if_false, reduceIte]; exact s3, by simp only [AG, Nat.reduceLT, Nat.reduceEqDiff, if_true, if_false, reduceIte]; exact s6⟩
            obtain ⟨e2, r, r3, r6⟩ := run
            have M15 : h15.Md (fun b => h5.next ≤ b) { m1 with ph := 3 } um2 uw2 us2 := by
              have := M14.keep (h' := h15) fun b el L hb r => o15 _ _ _ (by omega) r
              exact ⟨this.marks, this.which, this.shards⟩
            exact out h15 { m1 with ph := 3 } e2 r y15 Z15 (o15 _ _ _ (by omega) R6i) M15 r3 r6 (by unfold Fz; rw [if_pos hq, hwh, hho]; rfl)
        · rw [hwh] at k13
          obtain ⟨h15, st15, Z15, y15, n15, o15⟩ := Aw y13 Z13 (by omega) (by omega) (.int .i64 2) (n := 1) (off := 3) rfl (by show 3 + 1 ≤ 7; omega) rfl
          have run : ∃ e2, toK (call AK (n + 5)) e1 h12 = .norm e2 h15 ∧ AB 3 e2 = pt h.next ∧ AB 6 e2 = pt h3.next := by
            unfold toK
            simp only [sT, Nat.reduceLT, Nat.reduceEqDiff, if_true, if_false, reduceIte, s3, s6, AJ, AN, Nat.zero_add, AP, AX, p3, AZ, AY, f2, Aa, AU, p7, Ap, Ae, Al, k13, Ad, st15]
            exact ⟨_, rfl, by simp only [AG, Nat.reduceLT, Nat.reduceEqDiff, if_true, if_false, reduceIte]; exact s3, by simp only [AG, Nat.reduceLT, Nat.reduceEqDiff, if_true, if_false, reduceIte]; exact s6⟩
          obtain ⟨e2, r, r3, r6⟩ := run
          have M15 : h15.Md (fun b => h5.next ≤ b) { m1 with ph := 2 } um2 uw2 us2 := by
            have := M13.keep (h' := h15) fun b el L hb r => o15 _ _ _ (by omega) r
            exact ⟨this.marks, this.which, this.shards⟩
          exact out h15 { m1 with ph := 2 } e2 r y15 Z15 (o15 _ _ _ (by omega) R6h) M15 r3 r6 (by unfold Fz; rw [if_pos hq, hwh]; rfl)
      · have f2 : iNe m1.ph 1 = true := F4 hq
        have run : ∃ e2, toK (call AK (n + 5)) e1 h12 = .norm e2 h12 ∧ AB 3 e2 = pt h.next ∧ AB 6 e2 = pt h3.next := by
          unfold toK
          simp only [sT, Nat.reduceLT, Nat.reduceEqDiff, if_true, if_false, reduceIte, s3, s6, AJ, AN, Nat.zero_add, AP, AX, p3, AZ, AY, f2]
          exact ⟨_, rfl, by simp only [AG, Nat.reduceLT, Nat.reduceEqDiff, if_true, if_false, reduceIte]; exact s3, by simp only [AG, Nat.reduceLT, Nat.reduceEqDiff, if_true, if_false, reduceIte]; exact s6⟩
        obtain ⟨e2, r, r3, r6⟩ := run
        exact out h12 m1 e2 r y12 Z12 R6g M12 r3 r6 (by unfold Fz; rw [if_neg hq])
    ·
      have O10m := O10.md hkK
      obtain ⟨h11, st11, Z11, y11, n11, o11⟩ := Aw y10 R6e (by omega) (by omega) (mendV m um1 uw1 us1) (n := 7) (off := 0) rfl (Nat.le_refl _) O10m.all
      rw [A5 (by rfl)] at Z11
      have b7 := (An (show h11.Row h3.next 0 (mendL m um1 uw1 us1) from Z11)).2.2.2.2.2.2.2
      have run : ∃ e1, MC (call AK (n + 5)) (Av e0 0 [mendV m um uw us, CF w, Dx t ui ub]) h = .ret e1 h11 ∧ AB 6 e1 = pt h3.next ∧ AB 7 e1 = .int .i64 0 := by
        unfold MC
        by_cases hp : m.ph = 1
        · have f1 : iNe m.ph 1 = false := Dv hp
          cases hb : Cq m i
          · rw [hb] at k8
            simp only [Ac, Af, Nat.succ_eq_add_one, Nat.zero_add, Nat.reduceAdd, sT, Nat.reduceLT, Nat.reduceEqDiff, if_true, if_false, reduceIte, gD, b3x, b4x, b5x, al6, Aa, AU, l7, Ap, Ae, Al, k5, BP, BO, Bool.not_true, Bool.not_false, AJ, AN, AP, AX, w0, hiw, AZ, AY, hiw ▸ c1, hiw ▸ c2, m4, Ai, lnm, m7, k6, Ad, st7, a7, hiw ▸ a0, k8, B9, CJ, CL, al9, st10, e3, f1, e7, st11]
            exact ⟨_, rfl, by simp [AG], by simp [AG]⟩
          · rw [hb] at k8
            rw [decide_eq_false (fun h => hw ⟨hp, hb, h.symm⟩)] at eqc
            simp only [Ac, Af, Nat.succ_eq_add_one, Nat.zero_add, Nat.reduceAdd, sT, Nat.reduceLT, Nat.reduceEqDiff, if_true, if_false, reduceIte, gD, b3x, b4x, b5x, al6, Aa, AU, l7, Ap, Ae, Al, k5, BP, BO, Bool.not_true, Bool.not_false, AJ, AN, AP, AX, w0, hiw, AZ, AY, hiw ▸ c1, hiw ▸ c2, m4, Ai, lnm, m7, k6, Ad, st7, a7, hiw ▸ a0, k8, B9, CJ, CL, al9, st10, e3, f1, v3, g3, KB, eqc, show (true != false) = true from rfl, e7, st11]
            exact ⟨_, rfl, by simp [AG], by simp [AG]⟩
        · have f1 : iNe m.ph 1 = true := F4 hp
          simp only [Ac, Af, Nat.succ_eq_add_one, Nat.zero_add, Nat.reduceAdd, sT, Nat.reduceLT, Nat.reduceEqDiff, if_true, if_false, reduceIte, gD, b3x, b4x, b5x, al6, Aa, AU, l7, Ap, Ae, Al, k5, BP, BO, Bool.not_true, Bool.not_false, AJ, AN, AP, AX, w0, hiw, AZ, AY, hiw ▸ c1, hiw ▸ c2, m4, Ai, lnm, m7, k6, Ad, st7, a7, hiw ▸ a0, k8, B9, CJ, CL, al9, st10, e3, f1, e7, st11]
          exact ⟨_, rfl, by simp [AG], by simp [AG]⟩
      obtain ⟨e1, r1, r2, r3⟩ := run
      refine ⟨h11, m, um1, uw1, us1, 0, ?_, y11, (O10m.keep fun b el L hb r => o11 _ _ _ (by omega) r).mono fun b hb => by omega, hr, .inr ⟨i, hi, hiw, rfl, .inl ⟨hw, rfl⟩⟩⟩
      rw [L1 rfl, MB, r1, Ao, D1 (v := mendV m um1 uw1 us1) (h' := h11) (by rw [r2, AU]; exact b7), r3]
  ·
    obtain ⟨h6, st6, Z6, y6, n6, o6⟩ := Aw y5 R6c (by omega) (by omega) (mendV m um uw us) (n := 7) (off := 0) rfl (Nat.le_refl _) M5.all
    rw [A5 (by rfl)] at Z6
    have b7 := (An (show h6.Row h3.next 0 (mendL m um uw us) from Z6)).2.2.2.2.2.2.2
    have run : ∃ e1, MC (call AK (n + 5)) (Av e0 0 [mendV m um uw us, CF w, Dx t ui ub]) h = .ret e1 h6 ∧ AB 6 e1 = pt h3.next ∧ AB 7 e1 = .int .i64 160 := by
      unfold MC
      by_cases h0 : 0 ≤ w.1
      · have c1 : iLt w.1 0 = false := Ek (by omega)
        have c2 : iGe w.1 (m.marks.length : Int) = true := cm (by omega)
        simp only [Ac, Af, Nat.succ_eq_add_one, Nat.zero_add, Nat.reduceAdd, sT, Nat.reduceLT, Nat.reduceEqDiff, if_true, if_false, reduceIte, gD, b3x, b4x, b5x, al6, Aa, AU, l7, Ap, Ae, Al, k5, BP, BO, Bool.not_true, AJ, AN, AP, AX, w0, AZ, AY, c1, c2, m4, Ai, lnm, m7, Ad, st6]
        exact ⟨_, rfl, by simp [AG], by simp [AG]⟩
      · have c1 : iLt w.1 0 = true := Ku (by omega)
        simp only [Ac, Af, Nat.succ_eq_add_one, Nat.zero_add, Nat.reduceAdd, sT, Nat.reduceLT, Nat.reduceEqDiff, if_true, if_false, reduceIte, gD, b3x, b4x, b5x, al6, Aa, AU, l7, Ap, Ae, Al, k5, BP, BO, Bool.not_true, AJ, AN, AP, AX, w0, AZ, AY, c1, m4, Ai, lnm, m7, Ad, st6]
        exact ⟨_, rfl, by simp [AG], by simp [AG]⟩
    obtain ⟨e1, r1, r2, r3⟩ := run
    refine ⟨h6, m, um, uw, us, 160, ?_, y6, (M5.keep fun b el L hb r => o6 _ _ _ (by omega) r).mono fun b hb => .inl hb, hr, .inl ⟨hin, rfl, rfl⟩⟩
    rw [L1 rfl, MB, r1, Ao, D1 (v := mendV m um uw us) (h' := h6) (by rw [r2, AU]; exact b7), r3]
end
end Go.Proofs.Ythcfmklkbakkpaa
set_option linter.unusedVariables false
set_option linter.unusedSimpArgs false
namespace Go.Proofs.Ythcfmklkbakkpaa
noncomputable section
open Go Go.RowKit Go.ChangeShapes
set_option maxRecDepth 100000
def Dw (m : MD) (i : Nat) : MD := if m.ph = 1 then Gm m i mm0 else m
theorem K7 {m : MD} (h : RightP m) {i : Nat} (hi : i < m.marks.length) : RightP (Dw m i) := by
  unfold Dw
  split
  · rename_i hp; exact MX h hp hi
  · exact h
def loE : C := (AE (AC 31) (AL 7 (AB 2))
(cDo (AM 7 (AB 4) (AB 31))
(AE (AC 5) (AF (kV (.int .i64 0)))
Ak)))
def d9h : C := (AE (AC 2) (Bd (AB 0))
(AE (AC 4) (Au 7 DB)
(AE (AC 5) (AF (kV (.int .i64 0)))
(AE (AC 6) (AL 7 (AB 2))
(AE (AC 7) (AV 12 [(AB 6)])
(AE (AC 8) (BF (AB 7))
(cG (AB 8) false (AC 10) (AF (AB 1))
(cG (AB 8) false (AC 11) (AS iLt .i64 (AB 10) (kV (.int .i64 0)))
(AE (AC 12) (AW (AB 8) (kV (.bool true)) (AB 11))
(cG (AB 12) false (AC 14) (AF (AB 1))
(cG (AB 12) false (AC 15) (AD 4 (AB 2))
(cG (AB 12) false (AC 16) (AH (AB 15))
(cG (AB 12) false (AC 17) (Am (AB 16))
(cG (AB 12) false (AC 18) (AS iGe .i64 (AB 14) (AB 17))
(AE (AC 19) (AW (AB 12) (kV (.bool true)) (AB 18))
(AO (AB 19)
(AE (AC 20) (AL 7 (AB 2))
(cDo (AM 7 (AB 4) (AB 20))
(AE (AC 5) (AF (kV (.int .i64 160)))
Ak)))
(AE (AC 21) (AL 7 (AB 2))
(AE (AC 22) (AV 15 [(AB 21)])
(cDo (AM 7 (AB 2) (AB 22))
(AE (AC 23) (AD 3 (AB 2))
(AE (AC 24) (AH (AB 23))
(AE (AC 25) (AS iEq .i64 (AB 24) (kV (.int .i64 1)))
(As (AO (AB 25)
(AE (AC 26) (AD 4 (AB 2))
(AE (AC 27) (AH (AB 26))
(AE (AC 29) (A8 FA.zero [])
(AE (AC 30) (A2 3 (AB 27) (AB 1))
(cDo (AM 3 (AB 30) (AB 29))
AQ)))))
AQ)
loE)))))))))))))))))))))))
def d9 : C := d9h
theorem U7 {n : Nat} {args : List Value} {h : Hp} (hl : Nat.ble (Bk args) 320 = true) : call AK (Nat.succ n) 9 args h = Bt [.cN (AB 4) 7, .t (AB 5)] (d9 (call AK n) (Av e0 0 args) h) := by
  have hb : AK.get 9 = some b9 := by kernel_rfl
  rw [BN hb]
  have hd : b9 = ⟨[.cN (AB 4) 7, .t (AB 5)], d9⟩ := by kernel_rfl
  rw [hd, BE hl]
theorem VC : d9 = d9h := rfl
theorem QC {n : Nat} {h : Hp} (W : h.Wf) {S : Nat → Prop} {m : MD} {um uw us : Value} {i : Nat} (M : h.Md S m um uw us) (hr : RightP m) (hi : i < m.marks.length) :
    ∃ h' um' uw' us', call AK (n + 5) 9 [mendV m um uw us, .int .i64 (i : Int)] h = .ok (.tuple ⟨[mendV (Dw m i) um' uw' us', .int .i64 0]⟩) h' ∧ h.Ext h' ∧ h'.Md (fun b => S b ∧ b < h.next ∨ h.next ≤ b) (Dw m i) um' uw' us' := by
  have big := W.big
  have nb := hr.n1
  obtain ⟨h1, b2x, R2, x1, n1⟩ := Bw W (mendV m um uw us)
  have R2 : h1.Row h.next 0 (mendL m um uw us) := R2
  obtain ⟨h2, al4, R4, x2, n2⟩ := Bq x1.wf (n := 7) D0 rfl
  have y2 := x1.trans x2
  have R2b := R2.ext x1.wf x2
  have M2 := M.ext W y2
  obtain ⟨_, _, _, _, _, _, _, l7⟩ := An R2b
  obtain ⟨h3, k3, x3⟩ := Gk (n := n) y2.wf M2 hr
  have y3 := y2.trans x3
  have R2c := R2b.ext y2.wf x3
  have R4c := R4.ext y2.wf x3
  have M3 := M2.ext y2.wf x3
  obtain ⟨_, _, _, _, m4, _, _, m7⟩ := An R2c
  have lnm := M3.marks.len (g := h3)
  have z3 := x3.next
  have c1 : iLt (i : Int) 0 = false := Ek (by omega)
  have c2 : iGe (i : Int) (m.marks.length : Int) = false := Py (by omega)
  obtain ⟨h4, um1, uw1, us1, K, k4, x4, O4, hkK, hKn⟩ := Nz (n := n + 2) y3.wf M3 hr
  have y4 := y3.trans x4
  have z4 := x4.next
  obtain ⟨h5, st5, Z5, y5, n5, o5⟩ := Aw y4 (R2c.ext y3.wf x4) (by omega) (by omega) (mendV m um1 uw1 us1) (n := 7) (off := 0) rfl (Nat.le_refl _) (O4.md hkK).all
  rw [A5 (by rfl)] at Z5
  have Z5 : h5.Row h.next 0 (mendL m um1 uw1 us1) := Z5
  have O5 := O4.keep (h' := h5) (fun b el L hb r => o5 _ _ _ (by omega) r) hkK
  have R4d := o5 _ _ _ (show h1.next ≠ h.next by omega) (R4c.ext y3.wf x4)
  obtain ⟨_, _, _, a3, a4, _, _, a7⟩ := An Z5
  have fin : ∀ (g : Hp) (m' : MD) (e : Env), h.Ext g → g.Row h.next 0 (mendL m' um1 uw1 us1) → g.Row h1.next 0 [.int .i64 0, .int .i64 0, .int .i64 0, .int .i64 0, A6, A6, A6] → g.Md (fun b => h3.next ≤ b) m' um1 uw1 us1 → AB 2 e = pt h.next → AB 4 e = pt h1.next → m' = Dw m i →
      call AK (n + 5) 9 [mendV m um uw us, .int .i64 (i : Int)] h = Bt [.cN (AB 4) 7, .t (AB 5)] (loE (call AK (n + 4)) e g) →
      ∃ h' um' uw' us', call AK (n + 5) 9 [mendV m um uw us, .int .i64 (i : Int)] h = .ok (.tuple ⟨[mendV (Dw m i) um' uw' us', .int .i64 0]⟩) h' ∧ h.Ext h' ∧ h'.Md (fun b => S b ∧ b < h.next ∨ h.next ≤ b) (Dw m i) um' uw' us' := fun g m' e xg Ra Rb Mg s2 s4 hm hc => by
    obtain ⟨g', st', Z', y', _, o'⟩ := Aw xg Rb (by omega) (by omega) (mendV m' um1 uw1 us1) (n := 7) (off := 0) rfl (Nat.le_refl _) Mg.all
    rw [A5 (by rfl)] at Z'
    have a7 := (An Ra).2.2.2.2.2.2.2
    have b7 := (An (show g'.Row h1.next 0 (mendL m' um1 uw1 us1) from Z')).2.2.2.2.2.2.2
    subst hm
    refine ⟨g', um1, uw1, us1, ?_, y', (Mg.keep fun b el L hb r => o' _ _ _ (by omega) r).mono fun b hb => by omega⟩
    rw [hc]
    unfold loE
    simp only [sT, Nat.reduceLT, Nat.reduceEqDiff, if_true, if_false, reduceIte, s2, s4, Aa, AU, a7, Ad, st']
    rw [Ao, D1 (v := mendV (Dw m i) um1 uw1 us1) (h' := g') (by simp only [AG, Nat.reduceLT, Nat.reduceEqDiff, if_true, if_false, reduceIte]; rw [s4, AU]; exact b7)]
    simp only [AG, Nat.reduceLT, Nat.reduceEqDiff, if_true, if_false, reduceIte]
  by_cases hp : m.ph = 1
  · have f1 : iEq m.ph 1 = true := Cu hp
    obtain ⟨B, xs, kB, BK, RB, xl, exts, ix, clo, cloM⟩ := O5.row
    have hfl := DC xl
    have ix5 := ix h5 i hi
    have b56 := fun (F : CallF) (e : Env) => KU (F := F) (e := e) (h := h5)
    obtain ⟨h6, st6, Z6, y6, n6, o6⟩ := Aw y5 RB (by omega) (by omega) (CP mm0 A6) (n := 3) (off := i * 3) rfl (by omega) rfl
    rw [H6, Fk xl hi] at Z6
    have M6 : h6.Md (fun b => h3.next ≤ b) { m with marks := m.marks.set i mm0 } um1 uw1 us1 := cloM h6 _ _ _ Z6 (by rw [List.length_set]) (by rw [List.length_set]; exact xl) (fun j hj => by
      rw [Cz hi, DJ (by omega)]
      by_cases hij : i = j
      · rw [if_pos hij, if_pos hij]; exact .inl ⟨rfl, rfl⟩
      · rw [if_neg hij, if_neg hij]
        exact ((exts j hj).keep fun b el L hb r => o6 _ _ _ (by omega) r).mono fun b hb => by omega) (fun b hb => by omega) (fun b hb => by omega) (fun b el L hb r => o6 _ _ _ hb r)
    have run : ∃ e1, call AK (n + 5) 9 [mendV m um uw us, .int .i64 (i : Int)] h = Bt [.cN (AB 4) 7, .t (AB 5)] (loE (call AK (n + 4)) e1 h6) ∧ AB 2 e1 = pt h.next ∧ AB 4 e1 = pt h1.next := by
      rw [U7 rfl, VC]
      unfold d9h
      simp only [Ac, Af, Nat.succ_eq_add_one, Nat.zero_add, Nat.reduceAdd, Br, Ck, Bh, Be, Dk, BB, Bs, Cm, B3, Ba, BM, Bz, AG, Nat.reduceLT, Nat.reduceEqDiff, if_true, if_false, reduceIte, gD, b2x, al4, Aa, AU, l7, Ap, Ae, Al, k3, BP, BO, Bool.not_true, AZ, AY, c1, AJ, AN, AP, AX, m4, Ai, lnm, c2, m7, k4, Ad, st5, a3, f1, a4, b56, BG, ix5, st6]
      exact ⟨_, rfl, by simp [AG], by simp [AG]⟩
    obtain ⟨e1, p, p2, p4⟩ := run
    exact fin h6 { m with marks := m.marks.set i mm0 } e1 y6 (o6 _ _ _ (by omega) Z5) (o6 _ _ _ (by omega) R4d) M6 p2 p4 (by unfold Dw; rw [if_pos hp]; rfl) p
  · have f1 : iEq m.ph 1 = false := Cj hp
    have run : ∃ e1, call AK (n + 5) 9 [mendV m um uw us, .int .i64 (i : Int)] h = Bt [.cN (AB 4) 7, .t (AB 5)] (loE (call AK (n + 4)) e1 h5) ∧ AB 2 e1 = pt h.next ∧ AB 4 e1 = pt h1.next := by
      rw [U7 rfl, VC]
      unfold d9h
      simp only [Ac, Af, Nat.succ_eq_add_one, Nat.zero_add, Nat.reduceAdd, Br, Ck, Bh, Be, Dk, BB, Bs, Cm, Ba, BM, Bz, AG, Nat.reduceLT, Nat.reduceEqDiff, if_true, if_false, reduceIte, gD, b2x, al4, Aa, AU, l7, Ap, Ae, Al, k3, BP, BO, Bool.not_true, AZ, AY, c1, AJ, AN, AP, AX, m4, Ai, lnm, c2, m7, k4, Ad, st5, a3, f1]
      exact ⟨_, rfl, by simp [AG], by simp [AG]⟩
    obtain ⟨e1, p, p2, p4⟩ := run
    exact fin h5 m e1 y5 Z5 R4d ((O5.md hkK)) p2 p4 (by unfold Dw; rw [if_neg hp]) p
theorem ZI : Hc.zero = [.int .i64 0, .int .i64 0, .int .i64 0, .int .i64 0, A6, A6, A6] := by kernel_rfl
theorem Q2 : ∀ n : Nat, BI FA.zero n = flatM (List.replicate n mm0) (List.replicate n A6)
  | 0 => rfl
  | n + 1 => by
    show FA.zero ++ BI FA.zero n = _
    rw [Q2 n, NC, List.replicate_succ, List.replicate_succ]; rfl
theorem Qe {F : CallF} {e : Env} {h : Hp} (W : h.Wf) {x y : O} {N : Nat} (hx : x e = .int .i64 (N : Int)) (hy : y e = .int .i64 (N : Int)) (hN : N ≤ 1000000) : EQ 40 FA.zero x y F e h = .ok (.slice (some ⟨h.next, 0, none⟩) N N) (h.pushRow 0 (flatM (List.replicate N mm0) (List.replicate N A6))) := by
  unfold EQ
  rw [hx, hy, Fo]
  unfold QE
  have e1 : Nat.ble N N = true := Az.2 (Nat.le_refl N)
  have e2 : Nat.ble (Nat.mul (Nat.succ N) (Nat.succ 40)) most = true := Az.2 (by
    show (N + 1) * 41 ≤ 1099511627776
    omega)
  simp only [e1, e2, cond_true]
  rw [D3 W, Q2]; rfl
theorem Ry {F : CallF} {e : Env} {h : Hp} {x0 x1 x3 x22 : O} {a b c : Int} {u : Value} (h0 : x0 e = .int .i64 a) (h1 : x1 e = .int .i64 b) (h3 : x3 e = .int .i64 c) (h22 : x22 e = u) (hk : known u = true) (hc : cellsOf u = [u]) : A8 Hc.zero [(0, 1, x0), (1, 1, x1), (2, 1, x3), (3, 1, (kV (.int .i64 1))), (4, 1, x22)] F e h = .ok (.agg ⟨[.int .i64 a, .int .i64 b, .int .i64 c, .int .i64 1, u, A6, A6]⟩) h := by
  rw [En, ZI, Bo (hk := by rw [h0]; rfl), h0, Bv, if_pos (show [Value.int .i64 a].length = 1 from rfl), if_pos (by show 0 + 1 ≤ 7; omega), Bo (hk := by rw [h1]; rfl), h1, Bv, if_pos (show [Value.int .i64 b].length = 1 from rfl), if_pos (by show 1 + 1 ≤ 7; omega), Bo (hk := by rw [h3]; rfl), h3, Bv, if_pos (show [Value.int .i64 c].length = 1 from rfl), if_pos (by show 2 + 1 ≤ 7; omega), Bo, Bz, Bv, if_pos (show [Value.int .i64 1].length = 1 from rfl), if_pos (by show 3 + 1 ≤ 7; omega), Bo (hk := by rw [h22]; exact hk), h22, hc, if_pos (show [u].length = 1 from rfl), if_pos (by show 4 + 1 ≤ 7; omega), Cr]; rfl
theorem OB {n : Nat} {h : Hp} (W : h.Wf) {ver need : Int} {N : Nat} (h0 : 0 ≤ ver) (h1 : ver ≤ 100) (hn : 1 ≤ N) (hn2 : N ≤ 255) (a : 1 ≤ need) (b : need ≤ N) :
    ∃ h' um, call AK (n + 5) 5 [.int .i64 7, .int .i64 ver, .int .i64 (N : Int), .int .i64 need] h = .ok (.tuple ⟨[mendV (FH ver need N) um A6 A6, .int .i64 0]⟩) h' ∧ h.Ext h' ∧ h'.Md (fun b => h.next ≤ b ∧ b < h'.next) (FH ver need N) um A6 A6 := by
  have big := W.big
  have hr := I2 h0 h1 hn hn2 a b
  obtain ⟨g1, al8, R8, x1, n1⟩ := Bq W (n := 7) D0 rfl
  have c1 : iLt (N : Int) 1 = false := Ek (by omega)
  have c2 : iGt (N : Int) 255 = false := DD (by omega)
  have mkS : ∃ g2, (∀ (F : CallF) (e : Env), AB 2 e = .int .i64 (N : Int) → EQ 40 FA.zero (AB 2) (AB 2) F e g1 = .ok (.slice (some ⟨g1.next, 0, none⟩) N N) g2) ∧ g1.Ext g2 ∧ g2.Row g1.next 0 (flatM (List.replicate N mm0) (List.replicate N A6)) ∧ g2.next = g1.next + 1 :=
    ⟨g1.pushRow 0 (flatM (List.replicate N mm0) (List.replicate N A6)), fun F e he => Qe x1.wf he he (by omega), (Hp.Ext.refl x1.wf).pushRow 0 _, Hp.Row.new x1.wf 0 _, rfl⟩
  obtain ⟨g2, mk, x2, Rm, n2⟩ := mkS
  have y2 := x1.trans x2
  obtain ⟨g3, Rh, R10, x3, n3⟩ := Bq y2.wf (n := 7) D0 rfl
  have bd : ∀ (F : CallF) (e : Env), AB 0 e = .int .i64 7 → AB 1 e = .int .i64 ver → AB 3 e = .int .i64 need → AB 22 e = .slice (some ⟨g1.next, 0, none⟩) N N → A8 Hc.zero [(0, 1, AB 0), (1, 1, AB 1), (2, 1, AB 3), (3, 1, (kV (.int .i64 1))), (4, 1, AB 22)] F e g2 = .ok (mendV (FH ver need N) (.slice (some ⟨g1.next, 0, none⟩) N N) A6 A6) g2 := fun F e e0 e1 e3 e22 => Ry e0 e1 e3 e22 rfl rfl
  have ha : Bj (mendL (FH ver need N) (.slice (some ⟨g1.next, 0, none⟩) N N) A6 A6) = true := rfl
  obtain ⟨g4, st10, Z10, y4, n4, o4⟩ := Aw (y2.trans x3) R10 (by omega) (by omega) (mendV (FH ver need N) (.slice (some ⟨g1.next, 0, none⟩) N N) A6 A6) (n := 7) (off := 0) rfl (Nat.le_refl _) ha
  rw [A5 (by rfl)] at Z10
  have Z10 : g4.Row g2.next 0 (mendL (FH ver need N) (.slice (some ⟨g1.next, 0, none⟩) N N) A6 A6) := Z10
  have Rm4 := o4 _ _ _ (show g1.next ≠ g2.next by omega) (Rm.ext y2.wf x3)
  have hl : (FH ver need N).marks.length = N := List.length_replicate
  have M4 : g4.Md (fun b => b = g1.next) (FH ver need N) (.slice (some ⟨g1.next, 0, none⟩) N N) A6 A6 := by
    refine ⟨⟨g1.next, 0, List.replicate N A6, by rw [hl], Rm4, by rw [hl, List.length_replicate], rfl, fun i hi => ?_⟩, .inl ⟨rfl, rfl⟩, ⟨[], .inl ⟨rfl, rfl⟩, rfl, fun i hi => absurd hi (Nat.not_lt_zero _)⟩⟩
    rw [hl] at hi
    have e1 : (List.replicate N A6).getD i noRes = A6 := by
      rw [List.getD_eq_getElem?_getD, List.getElem?_replicate, if_pos hi]; rfl
    have e2 : (FH ver need N).marks.getD i mm0 = mm0 := by
      show (List.replicate N mm0).getD i mm0 = _
      rw [List.getD_eq_getElem?_getD, List.getElem?_replicate]
      split <;> rfl
    rw [e1, e2]
    exact .inl ⟨rfl, rfl⟩
  obtain ⟨g5, k5, x5⟩ := Gk (n := n) y4.wf M4 hr
  have y5 := y4.trans x5
  have z5 := x5.next
  have Z10b := Z10.ext y4.wf x5
  obtain ⟨_, _, _, _, _, _, _, l7⟩ := An Z10
  obtain ⟨_, _, _, _, _, _, _, m7⟩ := An Z10b
  have R8b := (o4 _ _ _ (show h.next ≠ g2.next by omega) ((R8.ext x1.wf x2).ext y2.wf x3)).ext y4.wf x5
  obtain ⟨g6, st6, Z6, y6, n6, o6⟩ := Aw y5 R8b (Nat.le_refl _) (by omega) (mendV (FH ver need N) (.slice (some ⟨g1.next, 0, none⟩) N N) A6 A6) (n := 7) (off := 0) rfl (Nat.le_refl _) ha
  rw [A5 (by rfl)] at Z6
  have b7 := (An (show g6.Row h.next 0 (mendL (FH ver need N) (.slice (some ⟨g1.next, 0, none⟩) N N) A6 A6) from Z6)).2.2.2.2.2.2.2
  have run : ∃ e1, d5 (call AK (n + 4)) (Av e0 0 [.int .i64 7, .int .i64 ver, .int .i64 (N : Int), .int .i64 need]) h = .ret e1 g6 ∧ AB 8 e1 = pt h.next ∧ AB 9 e1 = .int .i64 0 := by
    unfold d5
    simp only [Ac, Af, Nat.succ_eq_add_one, Nat.zero_add, Nat.reduceAdd, sT, Nat.reduceLT, Nat.reduceEqDiff, if_true, if_false, reduceIte, gD, al8, AZ, AY, c1, c2, mk, bd, Rh, Ad, st10, Aa, AU, l7, Ap, Ae, Al, k5, BP, BO, Bool.not_true, m7, st6]
    exact ⟨_, rfl, by simp [AG], by simp [AG]⟩
  obtain ⟨e1, r1, r2, r3⟩ := run
  refine ⟨g6, _, ?_, y6, ((M4.ext y4.wf x5).keep fun b el L hb r => o6 _ _ _ (by omega) r).mono fun b hb => by omega⟩
  rw [bC rfl, r1, Ao, D1 (v := mendV (FH ver need N) (.slice (some ⟨g1.next, 0, none⟩) N N) A6 A6) (h' := g6) (by rw [r2, AU]; exact b7), r3]
end
end Go.Proofs.Ythcfmklkbakkpaa
set_option linter.unusedVariables false
set_option linter.unusedSimpArgs false
namespace Go.Proofs.Ythcfmklkbakkpaa
noncomputable section
open Go Go.RowKit Go.ChangeShapes
set_option maxRecDepth 100000
def BadI (m : MD) (bs : List Bool) : Prop := ∀ j, j < m.marks.length → (m.marks.getD j mm0).kd = 4 → bs.getD j false = true
theorem Jg {m : MD} {w : Int × Int × Int} (h : w ∈ Bp m) : m.ph = 1 ∧ ∃ j, j < m.marks.length ∧ Cq m j = true ∧ w = BU m j := by
  unfold Bp at h
  split at h
  · rename_i hp
    refine ⟨hp, ?_⟩
    unfold DR at h
    obtain ⟨j, hj, hw⟩ := List.mem_filterMap.1 h
    split at hw
    · rename_i hb
      exact ⟨j, List.mem_range.1 hj, hb, (Option.some.inj hw).symm⟩
    · cases hw
  · cases h
structure SafeW (m : MD) (bs : List Bool) (w : Int × Int × Int) : Prop where
  idx : ∃ j : Nat, j < m.marks.length ∧ w.1 = (j : Int) ∧ (w.2.1 = 6 → 0 < m.ver → bs.getD j false = true)
  op : w.2.1 = 4 ∨ w.2.1 = 3 ∨ w.2.1 = 6 ∨ w.2.1 = 2 ∨ w.2.1 = 1
  abort : w.2.1 = 3 → m.ver < w.2.2
  drop : w.2.1 = 6 → 0 < m.ver → w.2.2 = m.ver ∧ m.need ≤ (m.which.length : Int)
  prep : w.2.1 = 1 → w.2.2 = m.ver
theorem S0 (m : MD) : (Fz m).marks = m.marks := by
  unfold Fz
  split
  · split
    · rfl
    · split <;> rfl
  · rfl
theorem P8 (m : MD) (i : Nat) (l : List Nat) : (DV m i l).marks.length = m.marks.length := by
  unfold DV
  split
  · split
    · show (m.marks.set i _).length = _; rw [List.length_set]
    · show (m.marks.set i _).length = _; rw [List.length_set]
  · rfl
theorem OS {m m1 : MD} {i : Nat} {err : Int} {l : List Nat} (h : Hv m i err l m1) : m1.marks.length = m.marks.length := by
  rcases h with rfl | rfl | ⟨k, rfl, _⟩ | ⟨rfl, _⟩
  · rfl
  · rfl
  · show (m.marks.set i k).length = _; rw [List.length_set]
  · exact P8 _ _ _
theorem P9 {m m' : MD} {w : Int × Int × Int} {err c : Int} {l : List Nat} (h : PN m w err l m' c) : m'.marks.length = m.marks.length := by
  rcases h with ⟨_, rfl, _⟩ | ⟨i, _, _, _, ⟨_, rfl⟩ | ⟨_, m1, hT, rfl⟩⟩
  · rfl
  · rfl
  · rw [S0]; exact OS hT
theorem P7 (m : MD) (i : Nat) : (Dw m i).marks.length = m.marks.length := by
  unfold Dw
  split
  · show (m.marks.set i mm0).length = _; rw [List.length_set]
  · rfl
theorem PF : B5 .mt 0 [.int .i64 0, .bool false, .bool false, .int .i64 0, .int .u8 0, .int .i64 0, .int .i64 0, .int .i64 0, .int .u8 0, .int .i64 0, A6, A6, .int .i64 0] = some ND := by kernel_rfl
end
end Go.Proofs.Ythcfmklkbakkpaa
set_option linter.unusedVariables false
set_option linter.unusedSimpArgs false
namespace Go.Proofs.Ythcfmklkbakkpaa
noncomputable section
open Go Go.RowKit Go.ChangeShapes
set_option maxRecDepth 100000
def Nj (e e2 : Env) : Prop := AB 3 e2 = AB 3 e ∧ AB 9 e2 = AB 9 e ∧ AB 10 e2 = AB 10 e ∧ AB 12 e2 = AB 12 e ∧ AB 13 e2 = AB 13 e
theorem Nj.trans {e e2 e3 : Env} (a : Nj e e2) (b : Nj e2 e3) : Nj e e3 := ⟨b.1.trans a.1, b.2.1.trans a.2.1, b.2.2.1.trans a.2.2.1, b.2.2.2.1.trans a.2.2.2.1, b.2.2.2.2.trans a.2.2.2.2⟩
end
end Go.Proofs.Ythcfmklkbakkpaa
set_option linter.unusedVariables false
set_option linter.unusedSimpArgs false
namespace Go.Proofs.Ythcfmklkbakkpaa
noncomputable section
open Go Go.RowKit Go.ChangeShapes
set_option maxRecDepth 100000
def OpAt (h : Hp) (u : Value) (i : Nat) : Prop := ∃ a o ui ub il l, (∀ g, h.Ext g → Cv 13 u (.int .i64 (i : Int)) g = .ok (.pointer (some a)) g ∧ loadN 13 a g = .ok (opV o ui ub) g) ∧ h.Inf ui il ∧ h.By ub l ∧ OkE o.er
structure OpsIn (h : Hp) (u : Value) (n cap : Nat) : Prop where
  len : ∀ g : Hp, lenSR u g = .ok (.int .i64 (n : Int)) g
  at_ : ∀ i, i < n → i < cap → OpAt h u i
theorem OJ {m : MD} {o : OP} (hr : RightP m) (ho : OkE o.er) : OkE (C0 m o) := by
  unfold C0
  split
  · exact ho
  · cases hf : (Bp m).find? fun w => decide (w.1 = o.idx) with
    | none => exact ho
    | some w =>
      obtain ⟨_, j, hj, _, rfl⟩ := Jg (List.mem_of_find?_eq_some hf)
      exact KL hr hj
structure SfI (h h' : Hp) (b10 b12 N : Nat) (m : MD) (um uw us : Value) (bs : List Bool) : Prop where
  x : h.Ext h'
  R10 : h'.Row b10 0 (mendL m um uw us)
  R12 : h'.Row b12 0 (bs.map .bool)
  M : h'.Md (fun b => b ≠ b10 ∧ b ≠ b12) m um uw us
  hr : RightP m
  hbs : bs.length = N
  hN : m.marks.length = N
  hb : BadI m bs
theorem SfI.ext {h h' g : Hp} {b10 b12 N : Nat} {m : MD} {um uw us : Value} {bs : List Bool} (I : SfI h h' b10 b12 N m um uw us bs) (x : h'.Ext g) : SfI h g b10 b12 N m um uw us bs :=
  ⟨I.x.trans x, I.R10.ext I.x.wf x, I.R12.ext I.x.wf x, I.M.ext I.x.wf x, I.hr, I.hbs, I.hN, I.hb⟩
end
end Go.Proofs.Ythcfmklkbakkpaa
set_option linter.unusedVariables false
set_option linter.unusedSimpArgs false
namespace Go.Proofs.Ythcfmklkbakkpaa
noncomputable section
open Go Go.RowKit Go.ChangeShapes
set_option maxRecDepth 100000
theorem ON {F : CallF} {h : Hp} {a b c : Nat} (ha : a < 256) (hb : b < 256) (hc : c < 256) :
    Mx .u8 (.int .u8 (a : Int)) (.int .u8 8) h = .ok (.int .u8 ((a % 8 : Nat) : Int)) h ∧ Mx .u8 (.int .u8 (c : Int)) (.int .u8 10) h = .ok (.int .u8 ((c % 10 : Nat) : Int)) h ∧ KW .i64 (.int .u8 ((a % 8 : Nat) : Int)) h = .ok (.int .i64 ((a % 8 : Nat) : Int)) h ∧ KW .i64 (.int .u8 ((c % 10 : Nat) : Int)) h = .ok (.int .i64 ((c % 10 : Nat) : Int)) h ∧ KW .i64 (.int .u8 (b : Int)) h = .ok (.int .i64 (b : Int)) h ∧
    Jj .i64 (.int .i64 1) (.int .i64 ((a % 8 : Nat) : Int)) h = .ok (.int .i64 ((1 + a % 8 : Nat) : Int)) h ∧ Mx .i64 (.int .i64 (b : Int)) (.int .i64 ((1 + a % 8 : Nat) : Int)) h = .ok (.int .i64 ((b % (1 + a % 8) : Nat) : Int)) h ∧ Jj .i64 (.int .i64 1) (.int .i64 ((b % (1 + a % 8) : Nat) : Int)) h = .ok (.int .i64 ((1 + b % (1 + a % 8) : Nat) : Int)) h := by
  have m1 : a % 8 < 8 := Nat.mod_lt _ (by omega)
  have m2 : c % 10 < 10 := Nat.mod_lt _ (by omega)
  have m3 : b % (1 + a % 8) < 1 + a % 8 := Nat.mod_lt _ (by omega)
  have t : ∀ x y : Nat, (x : Int).tmod (y : Int) = ((x % y : Nat) : Int) := fun x y => (Int.ofNat_tmod x y).symm
  refine ⟨?_, ?_, ?_, ?_, ?_, ?_, ?_, ?_⟩
  · have := t a 8; rw [Hq (by omega), show (8 : Int) = ((8 : Nat) : Int) from rfl, this]
  · have := t c 10; rw [Hq (by omega), show (10 : Int) = ((10 : Nat) : Int) from rfl, this]
  · rw [H8, Cg (by omega)]
  · rw [H8, Cg (by omega)]
  · rw [H8, Cg (by omega)]
  · have : (1 : Int) + ((a % 8 : Nat) : Int) = ((1 + a % 8 : Nat) : Int) := by omega
    rw [Fe, this, Cg (by omega)]
  · rw [Hq (by omega), t]
  · have : (1 : Int) + ((b % (1 + a % 8) : Nat) : Int) = ((1 + b % (1 + a % 8) : Nat) : Int) := by omega
    rw [Fe, this, Cg (by omega)]
end
end Go.Proofs.Ythcfmklkbakkpaa
