/-
  move.Begin: what it gives, where no placement hinders and the stripes rise.
  move.Begin: the whole.
  place.First: what it gives.
  place.Of, slices.Delete, move.Mended, move.Over: what they give.
  A move's stripes, rings of nodes: plain lists.
  'MoveLeft': the loops over flags, over what is left, and over all stripes.
  'MoveLeft': stripe by stripe is mended.
  'MoveLeft', on the machine: true for any numbers, flags and order.
  'MoveLeft' of layer 17 answers true, whatever memory it is called in, whatever numbers, flags and order it is handed and whatever the tape answers: no condition. What the canonical machine gives is shown for any of them (YtkafejncffinmaaLfd); that machine is sound for the model (YtkafejncffinmaaFns).
-/
import Derived.Test.YtkafejncffinmaaLefta
import Derived.Test.YtkafejncffinmaaRows
import Derived.ProofKit
import Derived.OpenShut
import Derived.Carry
set_option linter.unusedVariables false
set_option linter.unusedSimpArgs false
namespace Go.Proofs.Ytkafejncffinmaa
open Go
set_option maxRecDepth 100000

/-! ### plain lists -/
theorem rising_bd : ∀ (zs : List Int) (p : Int), risingL p zs = true → ∀ z ∈ zs, 0 ≤ z ∧ z ≤ 1099511627776 ∧ p < z
  | [], _, _, z, hz => by cases hz
  | n :: l, p, h, z, hz => by
    unfold risingL at h
    rw [Bool.and_eq_true, decide_eq_true_eq] at h
    obtain ⟨⟨h1, h2, h3⟩, h4⟩ := h
    rcases List.mem_cons.1 hz with rfl | hz
    · exact ⟨h1, h2, h3⟩
    · obtain ⟨a, b, c⟩ := rising_bd l n h4 z hz
      exact ⟨a, b, by omega⟩
theorem take_step : ∀ (zs : List Int) (i : Nat), i < zs.length → zs.take (i + 1) = zs.take i ++ [zs.getD i 0]
  | [], i, h => by cases h
  | z :: l, 0, h => rfl
  | z :: l, i + 1, h => by
    show z :: l.take (i + 1) = z :: (l.take i ++ [l.getD i 0])
    rw [take_step l i (Nat.lt_of_succ_lt_succ h)]
theorem grp_mem {a : Int} : ∀ (l : List Pw) (i : Nat) (z : Int), z ∈ grp a i l → (i : Int) ≤ z ∧ z < ((i + l.length : Nat) : Int)
  | [], i, z, h => by cases h
  | x :: l, i, z, h => by
    have h : z ∈ (if a ∈ x.2.2 then (i : Int) :: grp a (i + 1) l else grp a (i + 1) l) := h
    have ih : z ∈ grp a (i + 1) l → (i : Int) ≤ z ∧ z < ((i + (l.length + 1) : Nat) : Int) := fun hz => by
      obtain ⟨h1, h2⟩ := grp_mem l (i + 1) z hz
      omega
    by_cases hx : a ∈ x.2.2
    · rw [if_pos hx] at h
      rcases List.mem_cons.1 h with rfl | h
      · exact ⟨by omega, by show _ < ((i + (l.length + 1) : Nat) : Int); omega⟩
      · exact ih h
    · rw [if_neg hx] at h
      exact ih h
theorem grp_nodup {a : Int} : ∀ (l : List Pw) (i : Nat), (grp a i l).Nodup
  | [], i => .nil
  | x :: l, i => by
    show (if a ∈ x.2.2 then (i : Int) :: grp a (i + 1) l else grp a (i + 1) l).Nodup
    by_cases hx : a ∈ x.2.2
    · rw [if_pos hx]
      exact List.nodup_cons.2 ⟨fun h => by have := (grp_mem l (i + 1) _ h).1; omega, grp_nodup l (i + 1)⟩
    · rw [if_neg hx]; exact grp_nodup l (i + 1)
theorem grp_is {a : Int} : ∀ (l : List Pw) (i n : Nat), ((i + n : Nat) : Int) ∈ grp a i l ↔ ∃ x, l[n]? = some x ∧ a ∈ x.2.2
  | [], i, n => ⟨(fun h => by cases h), (fun ⟨x, h, _⟩ => by cases h)⟩
  | y :: l, i, n => by
    show ((i + n : Nat) : Int) ∈ (if a ∈ y.2.2 then (i : Int) :: grp a (i + 1) l else grp a (i + 1) l) ↔ _
    cases n with
    | zero =>
      have h0 : ((i + 0 : Nat) : Int) ∉ grp a (i + 1) l := fun h => by have := (grp_mem l (i + 1) _ h).1; omega
      by_cases hx : a ∈ y.2.2
      · rw [if_pos hx]; exact ⟨fun _ => ⟨y, rfl, hx⟩, fun _ => List.mem_cons_self⟩
      · rw [if_neg hx]; exact ⟨fun h => absurd h h0, fun ⟨x, h1, h2⟩ => by cases h1; exact absurd h2 hx⟩
    | succ n =>
      have ih := grp_is (a := a) l (i + 1) n
      rw [show i + 1 + n = i + (n + 1) by omega] at ih
      have e : (y :: l)[n + 1]? = l[n]? := rfl
      rw [e, ← ih]
      by_cases hx : a ∈ y.2.2
      · rw [if_pos hx]
        refine ⟨fun h => ?_, fun h => List.mem_cons_of_mem _ h⟩
        rcases List.mem_cons.1 h with h | h
        · omega
        · exact h
      · rw [if_neg hx]
/-- the stripes that are left: those of groups that change -/
def leftL (gs : List Int) (N : Nat) (all : List Int) : List Int := all.filter fun z => decide (((z.toNat % N : Nat) : Int) ∈ gs)
theorem finish_3c {e : Env} {h : Hp} {g g' g'' : O} {n : Nat} {v : Value} (hv : loadsR n (g' e) h = .ok v h) : finish [.t g, .cN g' n, .t g''] e h = .ok (.tuple ⟨[g e, v, g'' e]⟩) h := by
  have h1 : result1 e h (.cN g' n) = .ok v h := hv
  show forceV (g e) (fun x => (match result1 e h (.cN g' n) with | .ok v _ => forceV v fun v => forceV (g'' e) (fun y => finish2 h [x, v, y]) | .no => .no)) = _
  rw [forceV_is, h1]
  simp only [forceV_is]; rfl

/-! ### which groups change -/
noncomputable def chB : C := (cOp (slotT 40) (oCmp iLt .i64 (slotG 39) (slotG 38))
(cCond (slotG 40)
(cSeq (cBlock 1 (cOp (slotT 41) (oIdx 1 (slotG 37) (slotG 39))
(cOp (slotT 42) (oLoad1 (slotG 41))
(cOp (slotT 16) (oMove (slotG 42))
(cOp (slotT 45) (oLookup ⟨false, [.i .i64]⟩ (.int .i64 0) false (slotG 14) (slotG 16))
(cOp (slotT 46) (oAdd .i64 (topOf .i64) (slotG 45) (kV (.int .i64 1)))
(cDo (oUpdate ⟨false, [.i .i64]⟩ (slotG 14) (slotG 16) (slotG 46))
cNorm)))))))
(cOp (slotT 47) (oAdd .i64 (topOf .i64) (slotG 39) (kV (.int .i64 1)))
(cOp (slotT 39) (oMove (slotG 47))
cNorm)))
(cExit 0)))
theorem ch_loop {F : CallF} {hA h : Hp} (WA : hA.Wf) (x : hA.Ext h) {k r : Nat} {vg : Value} {gs : List Int} (G : hA.Own k 3 vg (ints .i64 gs)) (hr : hA.next ≤ r) (M : h.MapZ r []) (hz : ∀ z ∈ gs, 0 ≤ z ∧ z ≤ 1000) (hn : gs.Nodup) (hl : gs.length ≤ 1000) {e : Env}
    (s14 : slotG 14 e = .map (some r)) (s37 : slotG 37 e = vg) (s38 : slotG 38 e = .int .i64 (gs.length : Int)) (s39 : slotG 39 e = .int .i64 0) {P : Env → Prop} (hP : P e) (hPs : ∀ e1 e2, P e1 → (∀ j, j < 14 → slotG j e2 = slotG j e1) → P e2) :
    ∃ e2 g, cLoop chB F e h = .exit 0 e2 g ∧ hA.Ext g ∧ g.MapZ r gs ∧ h.next ≤ g.next ∧ slotG 14 e2 = .map (some r) ∧ (∀ b el L, h.Row b el L → g.Row b el L) ∧ P e2 := by
  have hbig : 256 ≤ r := Nat.le_trans WA.big hr
  refine loop_run (I := fun i e' h' => hA.Ext h' ∧ h.next ≤ h'.next ∧ h'.MapZ r (gs.take i) ∧ i ≤ gs.length ∧ slotG 14 e' = .map (some r) ∧ slotG 37 e' = vg ∧ slotG 38 e' = .int .i64 (gs.length : Int) ∧ slotG 39 e' = .int .i64 (i : Int) ∧ (∀ b el L, h.Row b el L → h'.Row b el L) ∧ P e')
    (Q := fun y => ∃ e2 g, y = .exit 0 e2 g ∧ hA.Ext g ∧ g.MapZ r gs ∧ h.next ≤ g.next ∧ slotG 14 e2 = .map (some r) ∧ (∀ b el L, h.Row b el L → g.Row b el L) ∧ P e2) gs.length (by omega)
    (fun i e' h' ⟨ex, hnx, m, hi, t14, t37, t38, t39, fr, p⟩ => ?_) ⟨x, Nat.le_refl _, M, Nat.zero_le _, s14, s37, s38, s39, fun _ _ _ r => r, hP⟩
  by_cases hlt : i < gs.length
  · left
    obtain ⟨a, g1, g2⟩ := (G.ext WA ex).vals.int hlt
    have hzm : gs.getD i 0 ∈ gs := by rw [List.getD_eq_getElem?_getD, List.getElem?_eq_getElem hlt]; exact List.getElem_mem hlt
    have hnb := not_before hn hlt
    have hst := take_step gs i hlt
    obtain ⟨z0, z1⟩ := hz _ hzm
    generalize gs.getD i 0 = z at g2 hzm hnb hst z0 z1
    obtain ⟨c, rfl⟩ := Int.eq_ofNat_of_zero_le z0
    have okt : okZ (gs.take i) := fun y hy => by have := hz y (List.mem_of_mem_take hy); omega
    have lk := m.look okt (n := c) (by omega)
    rw [if_neg hnb] at lk
    have ad : addR .i64 (.int .i64 0) (.int .i64 1) h' = .ok (.int .i64 1) h' := by rw [addR_is]; rfl
    obtain ⟨h2, u1, u2, u3, u4, u5⟩ := m.put ex hr hbig okt (n := c) (by omega) hnb
    rw [← hst] at u3
    have c1 : iLt (i : Int) (gs.length : Int) = true := by rw [iLt_is]; simp; omega
    have a3 : addR .i64 (.int .i64 (i : Int)) (.int .i64 1) h2 = .ok (.int .i64 ((i + 1 : Nat) : Int)) h2 := by
      have : (i : Int) + 1 = ((i + 1 : Nat) : Int) := by omega
      rw [addR_is, this, wrap_nat (by omega)]
    have hrun : ∃ e2, chB F e' h' = .norm e2 h2 ∧ slotG 14 e2 = .map (some r) ∧ slotG 37 e2 = vg ∧ slotG 38 e2 = .int .i64 (gs.length : Int) ∧ slotG 39 e2 = .int .i64 ((i + 1 : Nat) : Int) ∧ ∀ j, j < 14 → slotG j e2 = slotG j e' := by
      unfold chB
      simp only [cOp_is, cDo_is, cCond_is, cSeq_is, cBlock_is, cNorm_is, cRet_is, cExit_is, opX_ok, doX_ok, condX_true, condX_false, seqX_norm, seqX_exit, seqX_ret, blockX_norm, blockX_ret, blockX_exit, oMove_is, kV_is, slot_set, Nat.reduceLT, Nat.reduceEqDiff, if_true, if_false, reduceIte, oCmp_is, cmpR_is, t39, t38, c1, oIdx_is, t37, g1, oLoad1_is, g2, oLookup_is, t14, lk, oAdd_is, ad, oUpdate_is, u1, a3]
      refine ⟨_, rfl, by simp only [slot_set, Nat.reduceLT, Nat.reduceEqDiff, if_true, if_false, reduceIte]; exact t14, by simp only [slot_set, Nat.reduceLT, Nat.reduceEqDiff, if_true, if_false, reduceIte]; exact t37, by simp only [slot_set, Nat.reduceLT, Nat.reduceEqDiff, if_true, if_false, reduceIte]; exact t38, by simp only [slot_set, Nat.reduceLT, Nat.reduceEqDiff, if_true, if_false, reduceIte], fun j hj => ?_⟩
      rw [slot_other (by omega) (by omega) (by omega), slot_other (by omega) (by omega) (by omega), slot_other (by omega) (by omega) (by omega), slot_other (by omega) (by omega) (by omega), slot_other (by omega) (by omega) (by omega), slot_other (by omega) (by omega) (by omega), slot_other (by omega) (by omega) (by omega), slot_other (by omega) (by omega) (by omega)]
    obtain ⟨e2, r1, r2, r3, r4, r5, r6⟩ := hrun
    exact ⟨hlt, e2, h2, r1, u2, by omega, u3, hlt, r2, r3, r4, r5, fun b el L R => u5 b el L (fr b el L R), hPs _ _ p r6⟩
  · right
    have c1 : iLt (i : Int) (gs.length : Int) = false := by rw [iLt_is]; simp; omega
    have hrun : ∃ e2, chB F e' h' = .exit 0 e2 h' ∧ slotG 14 e2 = .map (some r) ∧ ∀ j, j < 14 → slotG j e2 = slotG j e' := by
      unfold chB
      simp only [cOp_is, cDo_is, cCond_is, cSeq_is, cBlock_is, cNorm_is, cRet_is, cExit_is, opX_ok, doX_ok, condX_true, condX_false, seqX_norm, seqX_exit, seqX_ret, blockX_norm, blockX_ret, blockX_exit, oMove_is, kV_is, slot_set, Nat.reduceLT, Nat.reduceEqDiff, if_true, if_false, reduceIte, oCmp_is, cmpR_is, t39, t38, c1]
      exact ⟨_, rfl, by simp only [slot_set, Nat.reduceLT, Nat.reduceEqDiff, if_true, if_false, reduceIte]; exact t14, fun j hj => by rw [slot_other (by omega) (by omega) (by omega)]⟩
    obtain ⟨e2, r1, r2, r3⟩ := hrun
    rw [r1]
    rw [List.take_of_length_le (by omega)] at m
    exact ⟨rfl, e2, h', rfl, ex, m, hnx, r2, fr, hPs _ _ p r3⟩

/-! ### which stripes are left -/
noncomputable def lfB : C := (cOp (slotT 54) (oCmp iLt .i64 (slotG 53) (slotG 52))
(cCond (slotG 54)
(cSeq (cBlock 3 (cOp (slotT 55) (oIdx 1 (slotG 51) (slotG 53))
(cOp (slotT 56) (oLoad1 (slotG 55))
(cOp (slotT 19) (oMove (slotG 56))
(cOp (slotT 60) (oLenS (slotG 0))
(cOp (slotT 61) (oRem .i64 (slotG 19) (slotG 60))
(cOp (slotT 62) (oLookup ⟨false, [.i .i64]⟩ (.int .i64 0) false (slotG 14) (slotG 61))
(cOp (slotT 63) (oCmp iEq .i64 (slotG 62) (kV (.int .i64 0)))
(cCond (slotG 63)
(cExit 3)
(cOp (slotT 64) (oFieldAddr 2 (slotG 17))
(cOp (slotT 65) (oLoad1 (slotG 64))
(cOp (slotT 66) (oLenS (slotG 65))
(cOp (slotT 67) (oCmp iGe .i64 (slotG 66) (kV (.int .i64 10000)))
(cCond (slotG 67)
(cOp (slotT 68) (oBuild ty31.zero [])
(cOp (slotT 8) (oMove (kV (.slice none 0 0)))
(cDo (oStore 3 (slotG 9) (slotG 68))
(cOp (slotT 10) (oMove (kV (.int .i64 5)))
cRet))))
(cOp (slotT 69) (oFieldAddr 2 (slotG 17))
(cOp (slotT 70) (oLoad1 (slotG 69))
(cOp (slotT 72) (oBuildSlice 1 (repL ty3.zero 1) [(0, 1, (slotG 19))])
(cOp (slotT 73) (oAppend 1 8 3 (slotG 70) (slotG 72))
(cOp (slotT 74) (oFieldAddr 2 (slotG 17))
(cDo (oStore 1 (slotG 74) (slotG 73))
cNorm))))))))))))))))))))
(cOp (slotT 75) (oAdd .i64 (topOf .i64) (slotG 53) (kV (.int .i64 1)))
(cOp (slotT 53) (oMove (slotG 75))
cNorm)))
(cExit 2)))
theorem lf_loop {F : CallF} {hB h : Hp} (WB : hB.Wf) (x : hB.Ext h) {k c r N : Nat} {v u : Value} {fr to_ : Int} {gs all : List Int} (M : hB.MapZ r gs) (hz : okZ gs) (hN : 0 < N) (hN2 : N ≤ 1000) (hv : ∀ g : Hp, lenSR v g = .ok (.int .i64 (N : Int)) g) (V : hB.Vals u (ints .i64 all)) (ha : ∀ z ∈ all, 0 ≤ z ∧ z ≤ 1099511627776) (hl : all.length ≤ 9000)
    (hc : hB.next ≤ c) (hck : c < k) (hk2 : k ≤ h.next) (Rc : h.Row c 0 [.int .i64 fr, .int .i64 to_, .slice none 0 0]) {e : Env}
    (s0 : slotG 0 e = v) (s14 : slotG 14 e = .map (some r)) (s17 : slotG 17 e = .pointer (some ⟨c, 0, none⟩)) (s51 : slotG 51 e = u) (s52 : slotG 52 e = .int .i64 (all.length : Int)) (s53 : slotG 53 e = .int .i64 0) {P : Env → Prop} (hP : P e) (hPs : ∀ e1 e2, P e1 → (∀ j, j < 14 → slotG j e2 = slotG j e1) → P e2) :
    ∃ e2 g w, cLoop lfB F e h = .exit 2 e2 g ∧ hB.Ext g ∧ g.Row c 0 [.int .i64 fr, .int .i64 to_, w] ∧ g.Own k 3 w (ints .i64 (leftL gs N all)) ∧ slotG 17 e2 = .pointer (some ⟨c, 0, none⟩) ∧ P e2 := by
  have hbig : 256 ≤ c := Nat.le_trans WB.big hc
  refine loop_run (I := fun i e' h' => ∃ w ys, hB.Ext h' ∧ k ≤ h'.next ∧ h'.Row c 0 [.int .i64 fr, .int .i64 to_, w] ∧ h'.Own k 3 w (ints .i64 ys) ∧ ys ++ leftL gs N (all.drop i) = leftL gs N all ∧ ys.length ≤ i ∧ i ≤ all.length ∧ slotG 0 e' = v ∧ slotG 14 e' = .map (some r) ∧ slotG 17 e' = .pointer (some ⟨c, 0, none⟩) ∧ slotG 51 e' = u ∧ slotG 52 e' = .int .i64 (all.length : Int) ∧ slotG 53 e' = .int .i64 (i : Int) ∧ P e')
    (Q := fun y => ∃ e2 g w, y = .exit 2 e2 g ∧ hB.Ext g ∧ g.Row c 0 [.int .i64 fr, .int .i64 to_, w] ∧ g.Own k 3 w (ints .i64 (leftL gs N all)) ∧ slotG 17 e2 = .pointer (some ⟨c, 0, none⟩) ∧ P e2) all.length (by omega)
    (fun i e' h' ⟨w, ys, ex, hkn, R, o, hy, hyl, hi, t0, t14, t17, t51, t52, t53, p⟩ => ?_) ⟨_, [], x, hk2, Rc, .inl ⟨rfl, rfl⟩, rfl, Nat.le_refl _, Nat.zero_le _, s0, s14, s17, s51, s52, s53, hP⟩
  by_cases hlt : i < all.length
  · left
    obtain ⟨a, g1, g2⟩ := (V.ext WB ex).int hlt
    have hzm : all.getD i 0 ∈ all := by rw [List.getD_eq_getElem?_getD, List.getElem?_eq_getElem hlt]; exact List.getElem_mem hlt
    rw [drop_at hlt] at hy
    obtain ⟨z0, z1⟩ := ha _ hzm
    generalize all.getD i 0 = z at g2 hzm hy z0 z1
    obtain ⟨d, rfl⟩ := Int.eq_ofNat_of_zero_le z0
    have hdm : d % N < N := Nat.mod_lt _ hN
    have c1 : iLt (i : Int) (all.length : Int) = true := by rw [iLt_is]; simp; omega
    have rm : remR .i64 (.int .i64 (d : Int)) (.int .i64 (N : Int)) h' = .ok (.int .i64 ((d % N : Nat) : Int)) h' := by rw [remR_is (by omega)]; rfl
    have lk := (M.ext WB ex).look hz (n := d % N) (by omega)
    have hfl : leftL gs N ((d : Int) :: all.drop (i + 1)) = if ((d % N : Nat) : Int) ∈ gs then (d : Int) :: leftL gs N (all.drop (i + 1)) else leftL gs N (all.drop (i + 1)) := by
      unfold leftL
      rw [List.filter_cons, Int.toNat_natCast]
      simp only [decide_eq_true_eq]
    rw [hfl] at hy
    by_cases hg : ((d % N : Nat) : Int) ∈ gs
    · rw [if_pos hg] at hy lk
      have c2 : iEq 1 0 = false := rfl
      have lw : load1 ⟨c, 2, none⟩ h' = .ok w h' := R.load1 (off := 2) (by simp)
      have c3 : iGe (ys.length : Int) 10000 = false := by rw [iGe_is]; simp; omega
      have os : ∀ e : Env, slotG 19 e = .int .i64 (d : Int) → oBuildSlice 1 (repL ty3.zero 1) [(0, 1, slotG 19)] F e h' = .ok (.slice (some ⟨h'.next, 0, none⟩) 1 1) (h'.pushRow 0 [.int .i64 (d : Int)]) := fun e he => by rw [zero3]; exact one_slice ex.wf he rfl rfl
      obtain ⟨h2, w2, a1, a2, a3, a4, a5⟩ := own_one (eb := 8) (n := (d : Int)) (kd := .i64) ex (by omega) hkn o (by rw [ints_len]; omega)
      have a3 : h2.Own k 3 w2 (ints .i64 (ys ++ [(d : Int)])) := by unfold ints; rw [List.map_append]; exact a3
      have Rc2 := (a5 _ _ _ (o.other R (by omega)) R).1
      obtain ⟨w21, w22⟩ := a3.vals.cells1
      have st := Rc2.storeR (n := 1) (off := 2) a2.wf hbig (v := w2) (by rw [w21]; rfl) (by rw [w21]; simp) (by rw [w21]; show (bif oneCell w2 then true else false) = true; rw [w22]; rfl)
      rw [w21] at st
      have x3 := Rc2.wr_ext a2 hc (off := 2) (vs := [w2]) (by simp)
      have n3 := Rc2.wr_next (off := 2) (vs := [w2]) (by simp)
      have R3 := Rc2.wr_self a2.wf (off := 2) (vs := [w2]) (by simp)
      have o3 : (h2.wr c 2 [w2]).Own k 3 w2 (ints .i64 (ys ++ [(d : Int)])) := a3.keep fun b el L hb r => Rc2.wr_other a2.wf (off := 2) (vs := [w2]) (by simp) r (fun hx => a3.other Rc2 (by omega) (hx ▸ hb))
      generalize h2.wr c 2 [w2] = h3 at st x3 n3 R3 o3
      have R3 : h3.Row c 0 [.int .i64 fr, .int .i64 to_, w2] := R3
      have ad : addR .i64 (.int .i64 (i : Int)) (.int .i64 1) h3 = .ok (.int .i64 ((i + 1 : Nat) : Int)) h3 := by
        have : (i : Int) + 1 = ((i + 1 : Nat) : Int) := by omega
        rw [addR_is, this, wrap_nat (by omega)]
      have wl := o.vals.ilen
      have hrun : ∃ e2, lfB F e' h' = .norm e2 h3 ∧ slotG 0 e2 = v ∧ slotG 14 e2 = .map (some r) ∧ slotG 17 e2 = .pointer (some ⟨c, 0, none⟩) ∧ slotG 51 e2 = u ∧ slotG 52 e2 = .int .i64 (all.length : Int) ∧ slotG 53 e2 = .int .i64 ((i + 1 : Nat) : Int) ∧ ∀ j, j < 14 → slotG j e2 = slotG j e' := by
        unfold lfB
        simp only [cOp_is, cDo_is, cCond_is, cSeq_is, cBlock_is, cNorm_is, cRet_is, cExit_is, opX_ok, doX_ok, condX_true, condX_false, seqX_norm, seqX_exit, seqX_ret, blockX_norm, blockX_ret, blockX_exit, oMove_is, kV_is, slot_set, Nat.reduceLT, Nat.reduceEqDiff, if_true, if_false, reduceIte, oCmp_is, cmpR_is, t53, t52, c1, oIdx_is, t51, g1, oLoad1_is, g2, oLenS_is, t0, hv, oRem_is, rm, oLookup_is, t14, lk, c2, oFieldAddr_is', t17, fieldAR_is, loadR_is, Nat.zero_add, lw, wl, c3, os, oAppend_is, a1, oStore_is, st, oAdd_is, ad]
        refine ⟨_, rfl, by simp only [slot_set, Nat.reduceLT, Nat.reduceEqDiff, if_true, if_false, reduceIte]; exact t0, by simp only [slot_set, Nat.reduceLT, Nat.reduceEqDiff, if_true, if_false, reduceIte]; exact t14, by simp only [slot_set, Nat.reduceLT, Nat.reduceEqDiff, if_true, if_false, reduceIte]; exact t17, by simp only [slot_set, Nat.reduceLT, Nat.reduceEqDiff, if_true, if_false, reduceIte]; exact t51, by simp only [slot_set, Nat.reduceLT, Nat.reduceEqDiff, if_true, if_false, reduceIte]; exact t52, by simp only [slot_set, Nat.reduceLT, Nat.reduceEqDiff, if_true, if_false, reduceIte], fun j hj => ?_⟩
        repeat rw [slot_other (by omega) (by omega) (by omega)]
      obtain ⟨e2, r1, r2, r3, r4, r5, r6, r7, r8⟩ := hrun
      exact ⟨hlt, e2, h3, r1, w2, ys ++ [(d : Int)], x3, by omega, R3, o3, by rw [← hy]; simp, by rw [List.length_append, List.length_singleton]; omega, hlt, r2, r3, r4, r5, r6, r7, hPs _ _ p r8⟩
    · rw [if_neg hg] at hy lk
      have c2 : iEq 0 0 = true := rfl
      have ad : addR .i64 (.int .i64 (i : Int)) (.int .i64 1) h' = .ok (.int .i64 ((i + 1 : Nat) : Int)) h' := by
        have : (i : Int) + 1 = ((i + 1 : Nat) : Int) := by omega
        rw [addR_is, this, wrap_nat (by omega)]
      have hrun : ∃ e2, lfB F e' h' = .norm e2 h' ∧ slotG 0 e2 = v ∧ slotG 14 e2 = .map (some r) ∧ slotG 17 e2 = .pointer (some ⟨c, 0, none⟩) ∧ slotG 51 e2 = u ∧ slotG 52 e2 = .int .i64 (all.length : Int) ∧ slotG 53 e2 = .int .i64 ((i + 1 : Nat) : Int) ∧ ∀ j, j < 14 → slotG j e2 = slotG j e' := by
        unfold lfB
        simp only [cOp_is, cDo_is, cCond_is, cSeq_is, cBlock_is, cNorm_is, cRet_is, cExit_is, opX_ok, doX_ok, condX_true, condX_false, seqX_norm, seqX_exit, seqX_ret, blockX_norm, blockX_ret, blockX_exit, oMove_is, kV_is, slot_set, Nat.reduceLT, Nat.reduceEqDiff, if_true, if_false, reduceIte, oCmp_is, cmpR_is, t53, t52, c1, oIdx_is, t51, g1, oLoad1_is, g2, oLenS_is, t0, hv, oRem_is, rm, oLookup_is, t14, lk, c2, oAdd_is, ad]
        refine ⟨_, rfl, by simp only [slot_set, Nat.reduceLT, Nat.reduceEqDiff, if_true, if_false, reduceIte]; exact t0, by simp only [slot_set, Nat.reduceLT, Nat.reduceEqDiff, if_true, if_false, reduceIte]; exact t14, by simp only [slot_set, Nat.reduceLT, Nat.reduceEqDiff, if_true, if_false, reduceIte]; exact t17, by simp only [slot_set, Nat.reduceLT, Nat.reduceEqDiff, if_true, if_false, reduceIte]; exact t51, by simp only [slot_set, Nat.reduceLT, Nat.reduceEqDiff, if_true, if_false, reduceIte]; exact t52, by simp only [slot_set, Nat.reduceLT, Nat.reduceEqDiff, if_true, if_false, reduceIte], fun j hj => ?_⟩
        repeat rw [slot_other (by omega) (by omega) (by omega)]
      obtain ⟨e2, r1, r2, r3, r4, r5, r6, r7, r8⟩ := hrun
      exact ⟨hlt, e2, h', r1, w, ys, ex, hkn, R, o, hy, by omega, hlt, r2, r3, r4, r5, r6, r7, hPs _ _ p r8⟩
  · right
    have c1 : iLt (i : Int) (all.length : Int) = false := by rw [iLt_is]; simp; omega
    have hrun : ∃ e2, lfB F e' h' = .exit 2 e2 h' ∧ slotG 17 e2 = .pointer (some ⟨c, 0, none⟩) ∧ ∀ j, j < 14 → slotG j e2 = slotG j e' := by
      unfold lfB
      simp only [cOp_is, cDo_is, cCond_is, cSeq_is, cBlock_is, cNorm_is, cRet_is, cExit_is, opX_ok, doX_ok, condX_true, condX_false, seqX_norm, seqX_exit, seqX_ret, blockX_norm, blockX_ret, blockX_exit, oMove_is, kV_is, slot_set, Nat.reduceLT, Nat.reduceEqDiff, if_true, if_false, reduceIte, oCmp_is, cmpR_is, t53, t52, c1]
      exact ⟨_, rfl, by simp only [slot_set, Nat.reduceLT, Nat.reduceEqDiff, if_true, if_false, reduceIte]; exact t17, fun j hj => by rw [slot_other (by omega) (by omega) (by omega)]⟩
    obtain ⟨e2, r1, r2, r3⟩ := hrun
    rw [r1]
    rw [List.drop_of_length_le (by omega)] at hy
    have hy : ys ++ [] = leftL gs N all := hy
    rw [List.append_nil] at hy
    rw [hy] at o
    exact ⟨rfl, e2, h', w, rfl, ex, R, o, r2, hPs _ _ p r3⟩
end Go.Proofs.Ytkafejncffinmaa
set_option linter.unusedVariables false
set_option linter.unusedSimpArgs false
namespace Go.Proofs.Ytkafejncffinmaa
open Go
set_option maxRecDepth 100000
noncomputable def bgT : C := (cOp (slotT 50) (oBuild ty31.zero [(0, 1, (slotG 1)), (1, 1, (slotG 2))])
(cOp (slotT 17) (oAlloc 3 zt31)
(cDo (oStore 3 (slotG 17) (slotG 50))
(cOp (slotT 51) (oMove (slotG 3))
(cOp (slotT 52) (oLenS (slotG 51))
(cOp (slotT 53) (oMove (kV (.int .i64 0)))
(cSeq (cBlock 2 (cLoop (cOp (slotT 54) (oCmp iLt .i64 (slotG 53) (slotG 52))
(cCond (slotG 54)
(cSeq (cBlock 3 (cOp (slotT 55) (oIdx 1 (slotG 51) (slotG 53))
(cOp (slotT 56) (oLoad1 (slotG 55))
(cOp (slotT 19) (oMove (slotG 56))
(cOp (slotT 60) (oLenS (slotG 0))
(cOp (slotT 61) (oRem .i64 (slotG 19) (slotG 60))
(cOp (slotT 62) (oLookup ⟨false, [.i .i64]⟩ (.int .i64 0) false (slotG 14) (slotG 61))
(cOp (slotT 63) (oCmp iEq .i64 (slotG 62) (kV (.int .i64 0)))
(cCond (slotG 63)
(cExit 3)
(cOp (slotT 64) (oFieldAddr 2 (slotG 17))
(cOp (slotT 65) (oLoad1 (slotG 64))
(cOp (slotT 66) (oLenS (slotG 65))
(cOp (slotT 67) (oCmp iGe .i64 (slotG 66) (kV (.int .i64 10000)))
(cCond (slotG 67)
(cOp (slotT 68) (oBuild ty31.zero [])
(cOp (slotT 8) (oMove (kV (.slice none 0 0)))
(cDo (oStore 3 (slotG 9) (slotG 68))
(cOp (slotT 10) (oMove (kV (.int .i64 5)))
cRet))))
(cOp (slotT 69) (oFieldAddr 2 (slotG 17))
(cOp (slotT 70) (oLoad1 (slotG 69))
(cOp (slotT 72) (oBuildSlice 1 (repL ty3.zero 1) [(0, 1, (slotG 19))])
(cOp (slotT 73) (oAppend 1 8 3 (slotG 70) (slotG 72))
(cOp (slotT 74) (oFieldAddr 2 (slotG 17))
(cDo (oStore 1 (slotG 74) (slotG 73))
cNorm))))))))))))))))))))
(cOp (slotT 75) (oAdd .i64 (topOf .i64) (slotG 53) (kV (.int .i64 1)))
(cOp (slotT 53) (oMove (slotG 75))
cNorm)))
(cExit 2)))))
(cMark (cOp (slotT 77) (oLoadN 3 (slotG 17))
(cOp (slotT 8) (oMove (slotG 11))
(cDo (oQuiet .free (oStore 3 (slotG 9) (slotG 77)))
(cOp (slotT 10) (oMove (kV (.int .i64 0)))
cRet))))))))))))
noncomputable def bgF : C := (cMark (cOp (slotT 77) (oLoadN 3 (slotG 17))
(cOp (slotT 8) (oMove (slotG 11))
(cDo (oQuiet .free (oStore 3 (slotG 9) (slotG 77)))
(cOp (slotT 10) (oMove (kV (.int .i64 0)))
cRet)))))
noncomputable def bgS : C := (cSeq (cBlock 0 (cLoop (cOp (slotT 40) (oCmp iLt .i64 (slotG 39) (slotG 38))
(cCond (slotG 40)
(cSeq (cBlock 1 (cOp (slotT 41) (oIdx 1 (slotG 37) (slotG 39))
(cOp (slotT 42) (oLoad1 (slotG 41))
(cOp (slotT 16) (oMove (slotG 42))
(cOp (slotT 45) (oLookup ⟨false, [.i .i64]⟩ (.int .i64 0) false (slotG 14) (slotG 16))
(cOp (slotT 46) (oAdd .i64 (topOf .i64) (slotG 45) (kV (.int .i64 1)))
(cDo (oUpdate ⟨false, [.i .i64]⟩ (slotG 14) (slotG 16) (slotG 46))
cNorm)))))))
(cOp (slotT 47) (oAdd .i64 (topOf .i64) (slotG 39) (kV (.int .i64 1)))
(cOp (slotT 39) (oMove (slotG 47))
cNorm)))
(cExit 0)))))
(cOp (slotT 50) (oBuild ty31.zero [(0, 1, (slotG 1)), (1, 1, (slotG 2))])
(cOp (slotT 17) (oAlloc 3 zt31)
(cDo (oStore 3 (slotG 17) (slotG 50))
(cOp (slotT 51) (oMove (slotG 3))
(cOp (slotT 52) (oLenS (slotG 51))
(cOp (slotT 53) (oMove (kV (.int .i64 0)))
(cSeq (cBlock 2 (cLoop (cOp (slotT 54) (oCmp iLt .i64 (slotG 53) (slotG 52))
(cCond (slotG 54)
(cSeq (cBlock 3 (cOp (slotT 55) (oIdx 1 (slotG 51) (slotG 53))
(cOp (slotT 56) (oLoad1 (slotG 55))
(cOp (slotT 19) (oMove (slotG 56))
(cOp (slotT 60) (oLenS (slotG 0))
(cOp (slotT 61) (oRem .i64 (slotG 19) (slotG 60))
(cOp (slotT 62) (oLookup ⟨false, [.i .i64]⟩ (.int .i64 0) false (slotG 14) (slotG 61))
(cOp (slotT 63) (oCmp iEq .i64 (slotG 62) (kV (.int .i64 0)))
(cCond (slotG 63)
(cExit 3)
(cOp (slotT 64) (oFieldAddr 2 (slotG 17))
(cOp (slotT 65) (oLoad1 (slotG 64))
(cOp (slotT 66) (oLenS (slotG 65))
(cOp (slotT 67) (oCmp iGe .i64 (slotG 66) (kV (.int .i64 10000)))
(cCond (slotG 67)
(cOp (slotT 68) (oBuild ty31.zero [])
(cOp (slotT 8) (oMove (kV (.slice none 0 0)))
(cDo (oStore 3 (slotG 9) (slotG 68))
(cOp (slotT 10) (oMove (kV (.int .i64 5)))
cRet))))
(cOp (slotT 69) (oFieldAddr 2 (slotG 17))
(cOp (slotT 70) (oLoad1 (slotG 69))
(cOp (slotT 72) (oBuildSlice 1 (repL ty3.zero 1) [(0, 1, (slotG 19))])
(cOp (slotT 73) (oAppend 1 8 3 (slotG 70) (slotG 72))
(cOp (slotT 74) (oFieldAddr 2 (slotG 17))
(cDo (oStore 1 (slotG 74) (slotG 73))
cNorm))))))))))))))))))))
(cOp (slotT 75) (oAdd .i64 (topOf .i64) (slotG 53) (kV (.int .i64 1)))
(cOp (slotT 53) (oMove (slotG 75))
cNorm)))
(cExit 2)))))
(cMark (cOp (slotT 77) (oLoadN 3 (slotG 17))
(cOp (slotT 8) (oMove (slotG 11))
(cDo (oQuiet .free (oStore 3 (slotG 9) (slotG 77)))
(cOp (slotT 10) (oMove (kV (.int .i64 0)))
cRet)))))))))))))
noncomputable def bgS2 : C := (cSeq (cBlock 2 (cLoop (cOp (slotT 54) (oCmp iLt .i64 (slotG 53) (slotG 52))
(cCond (slotG 54)
(cSeq (cBlock 3 (cOp (slotT 55) (oIdx 1 (slotG 51) (slotG 53))
(cOp (slotT 56) (oLoad1 (slotG 55))
(cOp (slotT 19) (oMove (slotG 56))
(cOp (slotT 60) (oLenS (slotG 0))
(cOp (slotT 61) (oRem .i64 (slotG 19) (slotG 60))
(cOp (slotT 62) (oLookup ⟨false, [.i .i64]⟩ (.int .i64 0) false (slotG 14) (slotG 61))
(cOp (slotT 63) (oCmp iEq .i64 (slotG 62) (kV (.int .i64 0)))
(cCond (slotG 63)
(cExit 3)
(cOp (slotT 64) (oFieldAddr 2 (slotG 17))
(cOp (slotT 65) (oLoad1 (slotG 64))
(cOp (slotT 66) (oLenS (slotG 65))
(cOp (slotT 67) (oCmp iGe .i64 (slotG 66) (kV (.int .i64 10000)))
(cCond (slotG 67)
(cOp (slotT 68) (oBuild ty31.zero [])
(cOp (slotT 8) (oMove (kV (.slice none 0 0)))
(cDo (oStore 3 (slotG 9) (slotG 68))
(cOp (slotT 10) (oMove (kV (.int .i64 5)))
cRet))))
(cOp (slotT 69) (oFieldAddr 2 (slotG 17))
(cOp (slotT 70) (oLoad1 (slotG 69))
(cOp (slotT 72) (oBuildSlice 1 (repL ty3.zero 1) [(0, 1, (slotG 19))])
(cOp (slotT 73) (oAppend 1 8 3 (slotG 70) (slotG 72))
(cOp (slotT 74) (oFieldAddr 2 (slotG 17))
(cDo (oStore 1 (slotG 74) (slotG 73))
cNorm))))))))))))))))))))
(cOp (slotT 75) (oAdd .i64 (topOf .i64) (slotG 53) (kV (.int .i64 1)))
(cOp (slotT 53) (oMove (slotG 75))
cNorm)))
(cExit 2)))))
(cMark (cOp (slotT 77) (oLoadN 3 (slotG 17))
(cOp (slotT 8) (oMove (slotG 11))
(cDo (oQuiet .free (oStore 3 (slotG 9) (slotG 77)))
(cOp (slotT 10) (oMove (kV (.int .i64 0)))
cRet))))))
noncomputable def bgTh : C := (cOp (slotT 50) (oBuild ty31.zero [(0, 1, (slotG 1)), (1, 1, (slotG 2))])
(cOp (slotT 17) (oAlloc 3 zt31)
(cDo (oStore 3 (slotG 17) (slotG 50))
(cOp (slotT 51) (oMove (slotG 3))
(cOp (slotT 52) (oLenS (slotG 51))
(cOp (slotT 53) (oMove (kV (.int .i64 0)))
bgS2))))))
theorem bgT_is : bgT = bgTh := rfl
theorem bgS_is : bgS = cSeq (cBlock 0 (cLoop chB)) bgT := rfl
theorem bgS2_is : bgS2 = cSeq (cBlock 2 (cLoop lfB)) bgF := rfl
noncomputable def d8h : C := (cOp (slotT 8) (oMove (kV (.slice none 0 0)))
(cOp (slotT 9) (oAlloc 3 zt31)
(cOp (slotT 10) (oMove (kV (.int .i64 0)))
(cOp (slotT 24) (oCall 29 [(slotG 0), (slotG 1), (slotG 2)])
(cOp (slotT 25) (oExtract 0 (slotG 24))
(cOp (slotT 26) (oExtract 1 (slotG 24))
(cOp (slotT 27) (oExtract 2 (slotG 24))
(cOp (slotT 11) (oMove (slotG 25))
(cOp (slotT 12) (oMove (slotG 26))
(cOp (slotT 13) (oMove (slotG 27))
(cOp (slotT 29) (oCmp iNe .i64 (slotG 13) (kV (.int .i64 0)))
(cCond (slotG 29)
(cOp (slotT 30) (oBuild ty31.zero [])
(cOp (slotT 8) (oMove (kV (.slice none 0 0)))
(cDo (oStore 3 (slotG 9) (slotG 30))
(cOp (slotT 10) (oMove (slotG 13))
cRet))))
(cOp (slotT 33) (oCall 30 [(slotG 3)])
(cOp (slotT 34) (oNot (slotG 33))
(cCond (slotG 34)
(cOp (slotT 35) (oBuild ty31.zero [])
(cOp (slotT 8) (oMove (kV (.slice none 0 0)))
(cDo (oStore 3 (slotG 9) (slotG 35))
(cOp (slotT 10) (oMove (kV (.int .i64 2)))
cRet))))
(cOp (slotT 36) oMap
(cOp (slotT 14) (oMove (slotG 36))
(cOp (slotT 37) (oMove (slotG 12))
(cOp (slotT 38) (oLenS (slotG 37))
(cOp (slotT 39) (oMove (kV (.int .i64 0)))
bgS))))))))))))))))))))
theorem d8_is : d8 = d8h := rfl
theorem zt31_is : setAll .mt 0 [.int .i64 0, .int .i64 0, .slice none 0 0] = some zt31 := by kernel_rfl
theorem zero31 : ty31.zero = [.int .i64 0, .int .i64 0, .slice none 0 0] := by kernel_rfl
theorem known_int {k : IntKind} {n : Int} : known (.int k n) = true := rfl
theorem over_m0 {x y z u : Value} : over [x, y, z] 0 [u] = [u, y, z] := rfl
theorem over_m1 {x y z u : Value} : over [x, y, z] 1 [u] = [x, u, z] := rfl
/-- the slots that the end reads -/
def bgP (v w9 : Value) (fr to_ : Int) (u vo : Value) (e : Env) : Prop := slotG 0 e = v ∧ slotG 1 e = .int .i64 fr ∧ slotG 2 e = .int .i64 to_ ∧ slotG 3 e = u ∧ slotG 9 e = w9 ∧ slotG 11 e = vo
theorem bgP_keep {v w9 u vo : Value} {fr to_ : Int} : ∀ e1 e2, bgP v w9 fr to_ u vo e1 → (∀ j, j < 14 → slotG j e2 = slotG j e1) → bgP v w9 fr to_ u vo e2 := fun e1 e2 ⟨a, b, c, d, f, g⟩ h => ⟨(h 0 (by omega)).trans a, (h 1 (by omega)).trans b, (h 2 (by omega)).trans c, (h 3 (by omega)).trans d, (h 9 (by omega)).trans f, (h 11 (by omega)).trans g⟩
/-- the end: the move is handed back -/
theorem bgF_is {F : CallF} {h g : Hp} {c9 c17 : Nat} {a b fr to_ : Int} {z w v u vo : Value} (W : h.Wf) (x : h.Ext g) (h9 : h.next ≤ c9) (R9 : g.Row c9 0 [.int .i64 a, .int .i64 b, z]) (Rc : g.Row c17 0 [.int .i64 fr, .int .i64 to_, w]) (hw : oneCell w = true) {k : Nat} {ys : List Int} (o : g.Own k 3 w (ints .i64 ys)) {n : Nat} {cs : List Value} {k2 : Nat} (U : g.Own2 k2 vo cs n)
    {e : Env} (p : bgP v (.pointer (some ⟨c9, 0, none⟩)) fr to_ u vo e) (s17 : slotG 17 e = .pointer (some ⟨c17, 0, none⟩)) :
    ∃ g', leave [.t (slotG 8), .cN (slotG 9) 3, .t (slotG 10)] (bgF F e g) = .ok (.tuple ⟨[vo, mvV fr to_ w, .int .i64 0]⟩) g' ∧ h.Ext g' ∧ g'.Own k 3 w (ints .i64 ys) ∧ g'.Own2 k2 vo cs n := by
  obtain ⟨p0, p1, p2, p3, p9, p11⟩ := p
  have Wg := x.wf
  have xm := x.marked
  have Rq : g.marked.quiet.Row c9 0 [.int .i64 a, .int .i64 b, z] := R9.same rfl
  have Rcm : g.marked.Row c17 0 [.int .i64 fr, .int .i64 to_, w] := Rc.same rfl
  have l17 : loadN 3 ⟨c17, 0, none⟩ g.marked = .ok (mvV fr to_ w) g.marked := Rcm.loadN (by simp)
  have ho : 0 + (cellsOf (mvV fr to_ w)).length ≤ [Value.int .i64 a, .int .i64 b, z].length := by simp [mvV, cells_agg]
  have h256 : 256 ≤ c9 := Nat.le_trans W.big h9
  have Wq := Wg.marked.quiet
  have st := Rq.storeR (n := 3) (off := 0) Wq h256 (v := mvV fr to_ w) rfl ho (by show (bif oneCell w then true else false) = true; rw [hw]; rfl)
  have xq := xm.quiet
  have xw := Rq.wr_ext xq h9 (off := 0) (vs := cellsOf (mvV fr to_ w)) ho
  have Rw := Rq.wr_self Wq (off := 0) (vs := cellsOf (mvV fr to_ w)) ho
  have oq : g.marked.quiet.Own k 3 w (ints .i64 ys) := o.same rfl
  have Uq : g.marked.quiet.Own2 k2 vo cs n := U.keep fun _ _ _ _ r => r.same rfl
  have ow : (g.marked.quiet.wr c9 0 (cellsOf (mvV fr to_ w))).Own k 3 w (ints .i64 ys) := oq.keep fun b' el L hb r => Rq.wr_other Wq (off := 0) (vs := cellsOf (mvV fr to_ w)) ho r (fun hx => oq.other Rq (by omega) (hx ▸ hb))
  have Uw : (g.marked.quiet.wr c9 0 (cellsOf (mvV fr to_ w))).Own2 k2 vo cs n := Uq.keep fun b' el L hb r => Rq.wr_other Wq (off := 0) (vs := cellsOf (mvV fr to_ w)) ho r (fun hx => Uq.other Rq (by omega) (hx ▸ hb))
  have q : ∀ e : Env, slotG 9 e = .pointer (some ⟨c9, 0, none⟩) → slotG 77 e = mvV fr to_ w → oQuiet .free (oStore 3 (slotG 9) (slotG 77)) F e g.marked = .ok noRes (g.marked.back (g.marked.quiet.wr c9 0 (cellsOf (mvV fr to_ w)))) := fun e h1 h2 => quiet_free (by rw [oStore_is, h1, h2]; exact st)
  have xe : h.Ext (g.marked.back (g.marked.quiet.wr c9 0 (cellsOf (mvV fr to_ w)))) := xm.back2 xw
  have lr : loadsR 3 (.pointer (some ⟨c9, 0, none⟩)) (g.marked.back (g.marked.quiet.wr c9 0 (cellsOf (mvV fr to_ w)))) = .ok (mvV fr to_ w) (g.marked.back (g.marked.quiet.wr c9 0 (cellsOf (mvV fr to_ w)))) := (Rw.same (h' := g.marked.back (g.marked.quiet.wr c9 0 (cellsOf (mvV fr to_ w)))) rfl).loadN (by simp [over, mvV, cells_agg])
  have oe : (g.marked.back (g.marked.quiet.wr c9 0 (cellsOf (mvV fr to_ w)))).Own k 3 w (ints .i64 ys) := ow.same rfl
  have Ue : (g.marked.back (g.marked.quiet.wr c9 0 (cellsOf (mvV fr to_ w)))).Own2 k2 vo cs n := Uw.keep fun _ _ _ _ r => r.same rfl
  generalize g.marked.back (g.marked.quiet.wr c9 0 (cellsOf (mvV fr to_ w))) = g' at q xe lr oe Ue
  have hrun : ∃ e2, bgF F e g = .ret e2 g' ∧ slotG 8 e2 = vo ∧ slotG 9 e2 = .pointer (some ⟨c9, 0, none⟩) ∧ slotG 10 e2 = .int .i64 0 := by
    unfold bgF
    simp only [cOp_is, cDo_is, cCond_is, cSeq_is, cBlock_is, cNorm_is, cRet_is, cExit_is, opX_ok, doX_ok, condX_true, condX_false, seqX_norm, seqX_exit, seqX_ret, blockX_norm, blockX_ret, blockX_exit, oMove_is, kV_is, slot_set, Nat.reduceLT, Nat.reduceEqDiff, if_true, if_false, reduceIte, marked_is, oLoadN_is, s17, loadsR_is, l17, p11, p9, q]
    exact ⟨_, rfl, by simp only [slot_set, Nat.reduceLT, Nat.reduceEqDiff, if_true, if_false, reduceIte], by simp only [slot_set, Nat.reduceLT, Nat.reduceEqDiff, if_true, if_false, reduceIte, p9], by simp only [slot_set, Nat.reduceLT, Nat.reduceEqDiff, if_true, if_false, reduceIte]⟩
  obtain ⟨e2, r1, r2, r3, r4⟩ := hrun
  refine ⟨g', ?_, xe, oe, Ue⟩
  rw [r1, leave_ret, finish_3c (v := mvV fr to_ w) (by rw [r3]; exact lr), r2, r4]
theorem begin_is {n : Nat} {h : Hp} (W : h.Wf) {k k' : Nat} {v u : Value} {ws : List Pw} {all : List Int} (d : h.Pls k v ws) (D : h.Nds k' ws) (hp : 0 < ws.length) (hl : ws.length ≤ 1000) (hok : ∀ x ∈ ws, okPl x.1 x.2.2) {fr to_ : Int} (f0 : 0 ≤ fr) (f1 : fr < 256) (t0 : 0 ≤ to_) (t1 : to_ < 256) (hft : fr ≠ to_) (hto : ∀ x ∈ ws, to_ ∉ x.2.2)
    (V : h.Vals u (ints .i64 all)) (hr : risingL (-1) all = true) (hal : all.length ≤ 9000) :
    ∃ h' vo w cs k2, call bodies (n + 9) 8 [v, .int .i64 fr, .int .i64 to_, u] h = .ok (.tuple ⟨[vo, mvV fr to_ w, .int .i64 0]⟩) h' ∧ h.Ext h' ∧ h.next ≤ k2 ∧ h'.Own2 k2 vo cs ws.length ∧ h'.Own k2 3 w (ints .i64 (leftL (grp fr 0 ws) ws.length all)) := by
  have x1 := (Hp.Ext.refl W).push (.cells zt31 3 0)
  have R9 : (h.push (.cells zt31 3 0)).Row h.next 0 [.int .i64 0, .int .i64 0, .slice none 0 0] := Hp.Row.alloc W zt31_is rfl
  have a9 := fun (e : Env) => oAlloc_is (F := call bodies (n + 8)) (e := e) (n := 3) (t := zt31) W
  have n1 : (h.push (.cells zt31 3 0)).next = h.next + 1 := rfl
  generalize h.push (.cells zt31 3 0) = h1 at x1 R9 a9 n1
  obtain ⟨h2, vo, vg, cs, k2, m1, y2, hk2, U, G⟩ := move_is (n := n) x1.wf (d.ext W x1) (D.ext W x1) hp hl hok f0 f1 t0 t1 hft hto
  have x2 := x1.trans y2
  have R9 := R9.ext x1.wf y2
  have V2 := V.ext W x2
  have rs := rising_is (n := n + 7) V2 (by omega)
  rw [hr] at rs
  -- a map
  have y3 := (Hp.Ext.refl x2.wf).push (.map [] 0)
  have x3 := x2.trans y3
  have M3 := new_map x2.wf
  have om := fun (e : Env) => oMap_is (F := call bodies (n + 8)) (e := e) x2.wf
  have n3 : (h2.push (.map [] 0)).next = h2.next + 1 := rfl
  generalize h2.push (.map [] 0) = h3 at y3 x3 M3 om n3
  have hd : ∀ z ∈ grp fr 0 ws, 0 ≤ z ∧ z ≤ 1000 := fun z hz => by
    have := grp_mem ws 0 z hz
    omega
  have hgl : (grp fr 0 ws).length ≤ 1000 := by
    have : ∀ (l : List Pw) (i : Nat), (grp fr i l).length ≤ l.length := by
      intro l
      induction l with
      | nil => intro i; exact Nat.le_refl _
      | cons y l ih =>
        intro i
        show (if fr ∈ y.2.2 then (i : Int) :: grp fr (i + 1) l else grp fr (i + 1) l).length ≤ l.length + 1
        by_cases hx : fr ∈ y.2.2
        · rw [if_pos hx, List.length_cons]; have := ih (i + 1); omega
        · rw [if_neg hx]; have := ih (i + 1); omega
    have := this ws 0
    omega
  have c1 : iNe 0 0 = false := rfl
  have gl := G.vals.ilen
  have gl3 := (G.ext x2.wf y3).vals.ilen
  have pre : ∃ e1, d8h (call bodies (n + 8)) (setArgs e0 0 [v, .int .i64 fr, .int .i64 to_, u]) h = bgS (call bodies (n + 8)) e1 h3 ∧ bgP v (.pointer (some ⟨h.next, 0, none⟩)) fr to_ u vo e1 ∧ slotG 14 e1 = .map (some h2.next) ∧ slotG 37 e1 = vg ∧ slotG 38 e1 = .int .i64 ((grp fr 0 ws).length : Int) ∧ slotG 39 e1 = .int .i64 0 := by
    unfold d8h bgP
    simp only [setArgs_cons, setArgs_nil, Nat.succ_eq_add_one, Nat.zero_add, Nat.reduceAdd, cOp_is, cCond_is, opX_ok, condX_false, oMove_is, kV_is, slot_set, Nat.reduceLT, Nat.reduceEqDiff, if_true, if_false, reduceIte, a9, oCall_is, vals_cons, vals_nil, m1, oExtract_is, extractR_0, extractR_1, extractR_2, oCmp_is, cmpR_is, c1, rs, oNot_is, notR_is, Bool.not_true, om, oLenS_is, gl3]
    exact ⟨_, rfl, ⟨by simp only [slot_set, Nat.reduceLT, Nat.reduceEqDiff, if_true, if_false, reduceIte], by simp only [slot_set, Nat.reduceLT, Nat.reduceEqDiff, if_true, if_false, reduceIte], by simp only [slot_set, Nat.reduceLT, Nat.reduceEqDiff, if_true, if_false, reduceIte], by simp only [slot_set, Nat.reduceLT, Nat.reduceEqDiff, if_true, if_false, reduceIte], by simp only [slot_set, Nat.reduceLT, Nat.reduceEqDiff, if_true, if_false, reduceIte], by simp only [slot_set, Nat.reduceLT, Nat.reduceEqDiff, if_true, if_false, reduceIte]⟩, by simp only [slot_set, Nat.reduceLT, Nat.reduceEqDiff, if_true, if_false, reduceIte], by simp only [slot_set, Nat.reduceLT, Nat.reduceEqDiff, if_true, if_false, reduceIte], by simp only [slot_set, Nat.reduceLT, Nat.reduceEqDiff, if_true, if_false, reduceIte], by simp only [slot_set, Nat.reduceLT, Nat.reduceEqDiff, if_true, if_false, reduceIte]⟩
  obtain ⟨e1, p1, pp, p14, p37, p38, p39⟩ := pre
  obtain ⟨e2, h4, q1, q2, q3, q4, q5, q6, q7⟩ := ch_loop (F := call bodies (n + 8)) x2.wf y3 G (Nat.le_refl _) M3 hd (grp_nodup ws 0) hgl p14 p37 p38 p39 pp bgP_keep
  have x4 := x2.trans q2
  have R9 := R9.ext x2.wf q2
  -- the cell of the move
  have y5 := (Hp.Ext.refl q2.wf).push (.cells zt31 3 0)
  have x5 := x4.push (.cells zt31 3 0)
  have Rc : (h4.push (.cells zt31 3 0)).Row h4.next 0 [.int .i64 0, .int .i64 0, .slice none 0 0] := Hp.Row.alloc q2.wf zt31_is rfl
  have a17 := fun (e : Env) => oAlloc_is (F := call bodies (n + 8)) (e := e) (n := 3) (t := zt31) q2.wf
  have n5 : (h4.push (.cells zt31 3 0)).next = h4.next + 1 := rfl
  generalize h4.push (.cells zt31 3 0) = h5 at y5 x5 Rc a17 n5
  have big : 256 ≤ h4.next := q2.wf.big
  have ho : 0 + [Value.int .i64 fr, .int .i64 to_, .slice none 0 0].length ≤ [Value.int .i64 0, .int .i64 0, .slice none 0 0].length := by simp
  have st := Rc.storeR (n := 3) (off := 0) y5.wf big (v := .agg ⟨[.int .i64 fr, .int .i64 to_, .slice none 0 0]⟩) rfl ho rfl
  rw [cells_agg] at st
  have y6 := Rc.wr_ext y5 (Nat.le_refl _) (off := 0) (vs := [.int .i64 fr, .int .i64 to_, .slice none 0 0]) ho
  have n6 := Rc.wr_next (off := 0) (vs := [.int .i64 fr, .int .i64 to_, .slice none 0 0]) ho
  have Rc6 := Rc.wr_self y5.wf (off := 0) (vs := [.int .i64 fr, .int .i64 to_, .slice none 0 0]) ho
  generalize h5.wr h4.next 0 [.int .i64 fr, .int .i64 to_, .slice none 0 0] = h6 at st y6 n6 Rc6
  have Rc6 : h6.Row h4.next 0 [.int .i64 fr, .int .i64 to_, .slice none 0 0] := Rc6
  have V6 := V.ext W (x4.trans y6)
  obtain ⟨pp0, pp1, pp2, pp3, pp9, pp11⟩ := q7
  have pre2 : ∃ e3, bgTh (call bodies (n + 8)) e2 h4 = bgS2 (call bodies (n + 8)) e3 h6 ∧ bgP v (.pointer (some ⟨h.next, 0, none⟩)) fr to_ u vo e3 ∧ slotG 14 e3 = .map (some h2.next) ∧ slotG 17 e3 = .pointer (some ⟨h4.next, 0, none⟩) ∧ slotG 51 e3 = u ∧ slotG 52 e3 = .int .i64 (all.length : Int) ∧ slotG 53 e3 = .int .i64 0 := by
    unfold bgTh bgP
    simp only [cOp_is, cDo_is, opX_ok, doX_ok, oMove_is, kV_is, slot_set, Nat.reduceLT, Nat.reduceEqDiff, if_true, if_false, reduceIte, oBuild_is, zero31, fillL_cons, fillL_nil, pp1, pp2, known_int, cells_int, List.length_cons, List.length_nil, Nat.zero_add, Nat.reduceAdd, Nat.reduceLeDiff, over_m0, over_m1, a17, oStore_is, st, pp3, oLenS_is, V6.ilen]
    exact ⟨_, rfl, ⟨by simp only [slot_set, Nat.reduceLT, Nat.reduceEqDiff, if_true, if_false, reduceIte]; exact pp0, by simp only [slot_set, Nat.reduceLT, Nat.reduceEqDiff, if_true, if_false, reduceIte, pp1], by simp only [slot_set, Nat.reduceLT, Nat.reduceEqDiff, if_true, if_false, reduceIte, pp2], by simp only [slot_set, Nat.reduceLT, Nat.reduceEqDiff, if_true, if_false, reduceIte, pp3], by simp only [slot_set, Nat.reduceLT, Nat.reduceEqDiff, if_true, if_false, reduceIte]; exact pp9, by simp only [slot_set, Nat.reduceLT, Nat.reduceEqDiff, if_true, if_false, reduceIte]; exact pp11⟩, by simp only [slot_set, Nat.reduceLT, Nat.reduceEqDiff, if_true, if_false, reduceIte]; exact q5, by simp only [slot_set, Nat.reduceLT, Nat.reduceEqDiff, if_true, if_false, reduceIte], by simp only [slot_set, Nat.reduceLT, Nat.reduceEqDiff, if_true, if_false, reduceIte], by simp only [slot_set, Nat.reduceLT, Nat.reduceEqDiff, if_true, if_false, reduceIte], by simp only [slot_set, Nat.reduceLT, Nat.reduceEqDiff, if_true, if_false, reduceIte]⟩
  obtain ⟨e3, r1, rp, r14, r17, r51, r52, r53⟩ := pre2
  have hgz : okZ (grp fr 0 ws) := fun z hz => by have := hd z hz; omega
  have hal2 : ∀ z ∈ all, 0 ≤ z ∧ z ≤ 1099511627776 := fun z hz => by have := rising_bd all (-1) hr z hz; omega
  obtain ⟨e4, h7, w, s1, s2, s3, s4, s5, s6⟩ := lf_loop (F := call bodies (n + 8)) (N := ws.length) (k := h6.next) q2.wf y6 q3 hgz hp hl (fun g => d.len) (V.ext W x4) hal2 hal (Nat.le_refl _) (by omega) (Nat.le_refl _) Rc6 rp.1 r14 r17 r51 r52 r53 rp bgP_keep
  have x7 := x4.trans s2
  have R9 := R9.ext q2.wf s2
  have U7 := (U.ext x2.wf q2).ext q2.wf s2
  have hk : k2 ≤ h6.next := by
    have a1 : h2.next ≤ h4.next := q2.next
    rcases U with ⟨_, _, h0⟩ | ⟨b, _, Rb, _, hb, _⟩
    · omega
    · have := Rb.lt x2.wf; omega
  obtain ⟨g', z1, z2, z3, z4⟩ := bgF_is (F := call bodies (n + 8)) W x7 (Nat.le_refl _) R9 s3 s4.vals.cells1.2 s4 U7 s6 s5
  refine ⟨g', vo, w, cs, k2, ?_, z2, by omega, z4, z3.le hk⟩
  rw [call8 rfl, d8_is, p1, bgS_is]
  simp only [cSeq_is, cBlock_is, q1, blockX_exit, seqX_norm]
  rw [bgT_is, r1, bgS2_is]
  simp only [cSeq_is, cBlock_is, s1, blockX_exit, seqX_norm]
  exact z1
end Go.Proofs.Ytkafejncffinmaa
set_option linter.unusedVariables false
set_option linter.unusedSimpArgs false
namespace Go.Proofs.Ytkafejncffinmaa
open Go
set_option maxRecDepth 100000
/-- the nodes of a group in a ring -/
def nodesL (N n g : Nat) : List Int := (List.range n).map fun i => (((g + i) % N : Nat) : Int)
theorem nodesL_len (N n g : Nat) : (nodesL N n g).length = n := by unfold nodesL; rw [List.length_map, List.length_range]
theorem nodesL_succ (N n g : Nat) : nodesL N (n + 1) g = nodesL N n g ++ [(((g + n) % N : Nat) : Int)] := by
  unfold nodesL
  rw [List.range_succ, List.map_append]; rfl
noncomputable def minR (a b : Value) (h : Hp) : R := minmax true a b h
theorem oMin_is {F : CallF} {e : Env} {h : Hp} {x y : O} : oMin x y F e h = minR (x e) (y e) h := rfl
theorem minR_is {h : Hp} {m : Nat} (hm : m ≤ 255) : minR (.int .i64 255) (.int .i64 (m : Int)) h = .ok (.int .i64 (m : Int)) h := by
  show (bif (bif true then iLt (m : Int) 255 else iLt 255 (m : Int)) then R.ok (.int .i64 (m : Int)) h else .ok (.int .i64 255) h) = _
  by_cases h1 : m = 255
  · subst h1
    have : iLt ((255 : Nat) : Int) 255 = false := rfl
    simp only [cond_true]
    rw [this]; rfl
  · have : iLt (m : Int) 255 = true := by rw [iLt_is]; simp; omega
    simp only [cond_true]
    rw [this]; rfl
noncomputable def fbB : C := (cOp (slotT 43) (oCmp iLt .i64 (slotG 42) (slotG 41))
(cCond (slotG 43)
(cSeq (cBlock 3 (cOp (slotT 11) (oMove (slotG 42))
(cMark (cOp (slotT 45) (oFieldAddr 1 (slotG 10))
(cOp (slotT 46) (oLoad1 (slotG 45))
(cOp (slotT 49) (oAdd .i64 (topOf .i64) (slotG 9) (slotG 11))
(cOp (slotT 51) (oRem .i64 (slotG 49) (slotG 0))
(cOp (slotT 52) (oQuiet .strong (oBuildSlice 1 (repL ty3.zero 1) [(0, 1, (slotG 51))]))
(cOp (slotT 53) (oQuiet .free (oAppend 1 8 3 (slotG 46) (slotG 52)))
(cOp (slotT 54) (oFieldAddr 1 (slotG 10))
(cDo (oQuiet .free (oStore 1 (slotG 54) (slotG 53)))
cNorm)))))))))))
(cOp (slotT 55) (oAdd .i64 (topOf .i64) (slotG 42) (kV (.int .i64 1)))
(cOp (slotT 42) (oMove (slotG 55))
cNorm)))
(cExit 2)))
noncomputable def fbS : C := (cSeq (cBlock 2 (cLoop (cOp (slotT 43) (oCmp iLt .i64 (slotG 42) (slotG 41))
(cCond (slotG 43)
(cSeq (cBlock 3 (cOp (slotT 11) (oMove (slotG 42))
(cMark (cOp (slotT 45) (oFieldAddr 1 (slotG 10))
(cOp (slotT 46) (oLoad1 (slotG 45))
(cOp (slotT 49) (oAdd .i64 (topOf .i64) (slotG 9) (slotG 11))
(cOp (slotT 51) (oRem .i64 (slotG 49) (slotG 0))
(cOp (slotT 52) (oQuiet .strong (oBuildSlice 1 (repL ty3.zero 1) [(0, 1, (slotG 51))]))
(cOp (slotT 53) (oQuiet .free (oAppend 1 8 3 (slotG 46) (slotG 52)))
(cOp (slotT 54) (oFieldAddr 1 (slotG 10))
(cDo (oQuiet .free (oStore 1 (slotG 54) (slotG 53)))
cNorm)))))))))))
(cOp (slotT 55) (oAdd .i64 (topOf .i64) (slotG 42) (kV (.int .i64 1)))
(cOp (slotT 42) (oMove (slotG 55))
cNorm)))
(cExit 2)))))
(cOp (slotT 57) (oLoadN 2 (slotG 10))
(cOp (slotT 58) (oBuildSlice 1 (repL ty37.zero 1) [(0, 2, (slotG 57))])
(cOp (slotT 59) (oAppend 2 32 37 (slotG 8) (slotG 58))
(cOp (slotT 8) (oMove (slotG 59))
cNorm)))))
noncomputable def fbE : C := (cOp (slotT 57) (oLoadN 2 (slotG 10))
(cOp (slotT 58) (oBuildSlice 1 (repL ty37.zero 1) [(0, 2, (slotG 57))])
(cOp (slotT 59) (oAppend 2 32 37 (slotG 8) (slotG 58))
(cOp (slotT 8) (oMove (slotG 59))
cNorm))))
theorem fbS_is : fbS = cSeq (cBlock 2 (cLoop fbB)) fbE := rfl
noncomputable def faB : C := (cOp (slotT 38) (oCmp iLt .i64 (slotG 37) (slotG 36))
(cCond (slotG 38)
(cSeq (cBlock 1 (cOp (slotT 9) (oMove (slotG 37))
(cOp (slotT 40) (oBuild ty37.zero [(0, 1, (kV (.int .i64 1)))])
(cOp (slotT 10) (oAlloc 2 zt37)
(cDo (oStore 2 (slotG 10) (slotG 40))
(cOp (slotT 41) (oMove (slotG 1))
(cOp (slotT 42) (oMove (kV (.int .i64 0)))
fbS)))))))
(cOp (slotT 60) (oAdd .i64 (topOf .i64) (slotG 37) (kV (.int .i64 1)))
(cOp (slotT 37) (oMove (slotG 60))
cNorm)))
(cExit 0)))
noncomputable def faE : C := (cOp (slotT 6) (oMove (slotG 8))
(cOp (slotT 7) (oMove (kV (.int .i64 0)))
cRet))
noncomputable def faS : C := (cSeq (cBlock 0 (cLoop (cOp (slotT 38) (oCmp iLt .i64 (slotG 37) (slotG 36))
(cCond (slotG 38)
(cSeq (cBlock 1 (cOp (slotT 9) (oMove (slotG 37))
(cOp (slotT 40) (oBuild ty37.zero [(0, 1, (kV (.int .i64 1)))])
(cOp (slotT 10) (oAlloc 2 zt37)
(cDo (oStore 2 (slotG 10) (slotG 40))
(cOp (slotT 41) (oMove (slotG 1))
(cOp (slotT 42) (oMove (kV (.int .i64 0)))
(cSeq (cBlock 2 (cLoop (cOp (slotT 43) (oCmp iLt .i64 (slotG 42) (slotG 41))
(cCond (slotG 43)
(cSeq (cBlock 3 (cOp (slotT 11) (oMove (slotG 42))
(cMark (cOp (slotT 45) (oFieldAddr 1 (slotG 10))
(cOp (slotT 46) (oLoad1 (slotG 45))
(cOp (slotT 49) (oAdd .i64 (topOf .i64) (slotG 9) (slotG 11))
(cOp (slotT 51) (oRem .i64 (slotG 49) (slotG 0))
(cOp (slotT 52) (oQuiet .strong (oBuildSlice 1 (repL ty3.zero 1) [(0, 1, (slotG 51))]))
(cOp (slotT 53) (oQuiet .free (oAppend 1 8 3 (slotG 46) (slotG 52)))
(cOp (slotT 54) (oFieldAddr 1 (slotG 10))
(cDo (oQuiet .free (oStore 1 (slotG 54) (slotG 53)))
cNorm)))))))))))
(cOp (slotT 55) (oAdd .i64 (topOf .i64) (slotG 42) (kV (.int .i64 1)))
(cOp (slotT 42) (oMove (slotG 55))
cNorm)))
(cExit 2)))))
(cOp (slotT 57) (oLoadN 2 (slotG 10))
(cOp (slotT 58) (oBuildSlice 1 (repL ty37.zero 1) [(0, 2, (slotG 57))])
(cOp (slotT 59) (oAppend 2 32 37 (slotG 8) (slotG 58))
(cOp (slotT 8) (oMove (slotG 59))
cNorm))))))))))))
(cOp (slotT 60) (oAdd .i64 (topOf .i64) (slotG 37) (kV (.int .i64 1)))
(cOp (slotT 37) (oMove (slotG 60))
cNorm)))
(cExit 0)))))
(cOp (slotT 6) (oMove (slotG 8))
(cOp (slotT 7) (oMove (kV (.int .i64 0)))
cRet)))
theorem faS_is : faS = cSeq (cBlock 0 (cLoop faB)) faE := rfl
noncomputable def faT : C := (cOp (slotT 8) (oMove (kV (.slice none 0 0)))
(cOp (slotT 36) (oMove (slotG 2))
(cOp (slotT 37) (oMove (kV (.int .i64 0)))
(cSeq (cBlock 0 (cLoop (cOp (slotT 38) (oCmp iLt .i64 (slotG 37) (slotG 36))
(cCond (slotG 38)
(cSeq (cBlock 1 (cOp (slotT 9) (oMove (slotG 37))
(cOp (slotT 40) (oBuild ty37.zero [(0, 1, (kV (.int .i64 1)))])
(cOp (slotT 10) (oAlloc 2 zt37)
(cDo (oStore 2 (slotG 10) (slotG 40))
(cOp (slotT 41) (oMove (slotG 1))
(cOp (slotT 42) (oMove (kV (.int .i64 0)))
(cSeq (cBlock 2 (cLoop (cOp (slotT 43) (oCmp iLt .i64 (slotG 42) (slotG 41))
(cCond (slotG 43)
(cSeq (cBlock 3 (cOp (slotT 11) (oMove (slotG 42))
(cMark (cOp (slotT 45) (oFieldAddr 1 (slotG 10))
(cOp (slotT 46) (oLoad1 (slotG 45))
(cOp (slotT 49) (oAdd .i64 (topOf .i64) (slotG 9) (slotG 11))
(cOp (slotT 51) (oRem .i64 (slotG 49) (slotG 0))
(cOp (slotT 52) (oQuiet .strong (oBuildSlice 1 (repL ty3.zero 1) [(0, 1, (slotG 51))]))
(cOp (slotT 53) (oQuiet .free (oAppend 1 8 3 (slotG 46) (slotG 52)))
(cOp (slotT 54) (oFieldAddr 1 (slotG 10))
(cDo (oQuiet .free (oStore 1 (slotG 54) (slotG 53)))
cNorm)))))))))))
(cOp (slotT 55) (oAdd .i64 (topOf .i64) (slotG 42) (kV (.int .i64 1)))
(cOp (slotT 42) (oMove (slotG 55))
cNorm)))
(cExit 2)))))
(cOp (slotT 57) (oLoadN 2 (slotG 10))
(cOp (slotT 58) (oBuildSlice 1 (repL ty37.zero 1) [(0, 2, (slotG 57))])
(cOp (slotT 59) (oAppend 2 32 37 (slotG 8) (slotG 58))
(cOp (slotT 8) (oMove (slotG 59))
cNorm))))))))))))
(cOp (slotT 60) (oAdd .i64 (topOf .i64) (slotG 37) (kV (.int .i64 1)))
(cOp (slotT 37) (oMove (slotG 60))
cNorm)))
(cExit 0)))))
(cOp (slotT 6) (oMove (slotG 8))
(cOp (slotT 7) (oMove (kV (.int .i64 0)))
cRet))))))
noncomputable def d7h : C := (cOp (slotT 6) (oMove (kV (.slice none 0 0)))
(cOp (slotT 7) (oMove (kV (.int .i64 0)))
(cOp (slotT 13) (oCmp iLt .i64 (slotG 0) (kV (.int .i64 1)))
(cG (slotG 13) false (slotT 15) (oMove (slotG 0))
(cG (slotG 13) false (slotT 16) (oCmp iGt .i64 (slotG 15) (kV (.int .i64 256)))
(cOp (slotT 17) (oPick (slotG 13) (kV (.bool true)) (slotG 16))
(cG (slotG 17) false (slotT 19) (oMove (slotG 1))
(cG (slotG 17) false (slotT 20) (oCmp iLt .i64 (slotG 19) (kV (.int .i64 1)))
(cOp (slotT 21) (oPick (slotG 17) (kV (.bool true)) (slotG 20))
(cG (slotG 21) false (slotT 23) (oMove (slotG 1))
(cG (slotG 21) false (slotT 24) (oMove (slotG 0))
(cG (slotG 21) false (slotT 25) (oMin (kV (.int .i64 255)) (slotG 24))
(cG (slotG 21) false (slotT 26) (oCmp iGt .i64 (slotG 23) (slotG 25))
(cOp (slotT 27) (oPick (slotG 21) (kV (.bool true)) (slotG 26))
(cG (slotG 27) false (slotT 29) (oMove (slotG 2))
(cG (slotG 27) false (slotT 30) (oCmp iLt .i64 (slotG 29) (kV (.int .i64 1)))
(cOp (slotT 31) (oPick (slotG 27) (kV (.bool true)) (slotG 30))
(cG (slotG 31) false (slotT 33) (oMove (slotG 2))
(cG (slotG 31) false (slotT 34) (oCmp iGt .i64 (slotG 33) (kV (.int .i64 1000)))
(cOp (slotT 35) (oPick (slotG 31) (kV (.bool true)) (slotG 34))
(cCond (slotG 35)
(cOp (slotT 6) (oMove (kV (.slice none 0 0)))
(cOp (slotT 7) (oMove (kV (.int .i64 2)))
cRet))
(cOp (slotT 8) (oMove (kV (.slice none 0 0)))
(cOp (slotT 36) (oMove (slotG 2))
(cOp (slotT 37) (oMove (kV (.int .i64 0)))
faS))))))))))))))))))))))))
theorem d7_is : d7 = d7h := rfl
def keepF (e e2 : Env) : Prop := slotG 0 e2 = slotG 0 e ∧ slotG 1 e2 = slotG 1 e ∧ slotG 8 e2 = slotG 8 e ∧ slotG 9 e2 = slotG 9 e ∧ slotG 10 e2 = slotG 10 e ∧ slotG 36 e2 = slotG 36 e ∧ slotG 37 e2 = slotG 37 e
theorem fb_round {F : CallF} {hO h' : Hp} (WO : hO.Wf) (ex : hO.Ext h') {c N n g i : Nat} {w : Value} (hc : hO.next ≤ c) (hN : 0 < N) (hN2 : N ≤ 255) (hg : g ≤ 1000) (hi : i < n) (hn : n ≤ 255) (R : h'.Row c 0 [.int .i64 1, w]) (o : h'.Own hO.next 3 w (ints .i64 (nodesL N i g)))
    {e : Env} (s0 : slotG 0 e = .int .i64 (N : Int)) (s9 : slotG 9 e = .int .i64 (g : Int)) (s10 : slotG 10 e = .pointer (some ⟨c, 0, none⟩)) (s41 : slotG 41 e = .int .i64 (n : Int)) (s42 : slotG 42 e = .int .i64 (i : Int)) :
    ∃ e2 g2 w2, fbB F e h' = .norm e2 g2 ∧ hO.Ext g2 ∧ g2.Row c 0 [.int .i64 1, w2] ∧ g2.Own hO.next 3 w2 (ints .i64 (nodesL N (i + 1) g)) ∧ keepF e e2 ∧ slotG 41 e2 = .int .i64 (n : Int) ∧ slotG 42 e2 = .int .i64 ((i + 1 : Nat) : Int) := by
  have big : 256 ≤ c := Nat.le_trans WO.big hc
  have xm := ex.marked
  have Wm := xm.wf
  have lw : load1 ⟨c, 1, none⟩ h'.marked = .ok w h'.marked := (R.same (h' := h'.marked) rfl).load1 (off := 1) (by simp)
  have hml : (g + i) % N < N := Nat.mod_lt _ hN
  have ad : addR .i64 (.int .i64 (g : Int)) (.int .i64 (i : Int)) h'.marked = .ok (.int .i64 ((g + i : Nat) : Int)) h'.marked := by
    rw [addR_is, ← Int.natCast_add, wrap_nat (by omega)]
  have rm : remR .i64 (.int .i64 ((g + i : Nat) : Int)) (.int .i64 (N : Int)) h'.marked = .ok (.int .i64 (((g + i) % N : Nat) : Int)) h'.marked := by rw [remR_is (by omega)]; rfl
  -- a slice of one
  have os : ∀ e : Env, slotG 51 e = .int .i64 (((g + i) % N : Nat) : Int) → oBuildSlice 1 (repL ty3.zero 1) [(0, 1, slotG 51)] F e h'.marked.quiet = .ok (.slice (some ⟨h'.next, 0, none⟩) 1 1) (h'.marked.quiet.pushRow 0 [.int .i64 (((g + i) % N : Nat) : Int)]) := fun e he => by rw [zero3]; exact one_slice Wm.quiet he rfl rfl
  have y1 := (Hp.Ext.refl Wm.quiet).pushRow 0 [.int .i64 (((g + i) % N : Nat) : Int)]
  have q1 : ∀ e : Env, slotG 51 e = .int .i64 (((g + i) % N : Nat) : Int) → oQuiet .strong (oBuildSlice 1 (repL ty3.zero 1) [(0, 1, slotG 51)]) F e h'.marked = .ok (.slice (some ⟨h'.next, 0, none⟩) 1 1) (h'.marked.back (h'.marked.quiet.pushRow 0 [.int .i64 (((g + i) % N : Nat) : Int)])) := fun e he => quiet_is (os e he) y1 (Nat.le_refl _)
  have x1 : hO.Ext (h'.marked.back (h'.marked.quiet.pushRow 0 [.int .i64 (((g + i) % N : Nat) : Int)])) := xm.trans y1.back
  have V1 : (h'.marked.back (h'.marked.quiet.pushRow 0 [.int .i64 (((g + i) % N : Nat) : Int)])).quiet.Vals (.slice (some ⟨h'.next, 0, none⟩) 1 1) [.int .i64 (((g + i) % N : Nat) : Int)] := (one_vals Wm.quiet).same rfl
  have R1 : (h'.marked.back (h'.marked.quiet.pushRow 0 [.int .i64 (((g + i) % N : Nat) : Int)])).quiet.Row c 0 [.int .i64 1, w] := ((R.same (h' := h'.marked.quiet) rfl).push Wm.quiet _).same rfl
  have o1 : (h'.marked.back (h'.marked.quiet.pushRow 0 [.int .i64 (((g + i) % N : Nat) : Int)])).quiet.Own hO.next 3 w (ints .i64 (nodesL N i g)) := ((o.same (h' := h'.marked.quiet) rfl).ext Wm.quiet y1).same rfl
  have hn1 : h'.next ≤ (h'.marked.back (h'.marked.quiet.pushRow 0 [.int .i64 (((g + i) % N : Nat) : Int)])).quiet.next := Nat.le_succ _
  generalize h'.marked.back (h'.marked.quiet.pushRow 0 [.int .i64 (((g + i) % N : Nat) : Int)]) = m1 at q1 x1 V1 R1 o1 hn1
  -- the append
  have hon : hO.next ≤ m1.quiet.next := Nat.le_trans ex.next hn1
  obtain ⟨g2, w2, a1, a2, a3, a4, a5⟩ := own_append (eb := 8) (en := 3) x1.quiet (Nat.le_refl _) hon o1 V1 (by simp) rfl (by rw [ints_len, nodesL_len]; simp; omega)
  have a3 : g2.Own hO.next 3 w2 (ints .i64 (nodesL N (i + 1) g)) := by rw [nodesL_succ]; unfold ints; rw [List.map_append]; exact a3
  have q2 : ∀ e : Env, slotG 46 e = w → slotG 52 e = .slice (some ⟨h'.next, 0, none⟩) 1 1 → oQuiet .free (oAppend 1 8 3 (slotG 46) (slotG 52)) F e m1 = .ok w2 (m1.back g2) := fun e h1 h2 => quiet_free (by rw [oAppend_is, h1, h2]; exact a1)
  have R2 := (a5 _ _ _ (o1.other R1 (by omega)) R1).1
  have x2 : hO.Ext (m1.back g2) := x1.back2 a2
  have R2 : (m1.back g2).quiet.Row c 0 [.int .i64 1, w] := R2.same rfl
  have o2 : (m1.back g2).quiet.Own hO.next 3 w2 (ints .i64 (nodesL N (i + 1) g)) := a3.same rfl
  generalize m1.back g2 = m2 at q2 x2 R2 o2
  -- the store
  obtain ⟨w21, w22⟩ := o2.vals.cells1
  have st := R2.storeR (n := 1) (off := 1) x2.wf.quiet big (v := w2) (by rw [w21]; rfl) (by rw [w21]; simp) (by rw [w21]; show (bif oneCell w2 then true else false) = true; rw [w22]; rfl)
  rw [w21] at st
  have x3 := R2.wr_ext x2.quiet hc (off := 1) (vs := [w2]) (by simp)
  have R3 := R2.wr_self x2.wf.quiet (off := 1) (vs := [w2]) (by simp)
  have o3 : (m2.quiet.wr c 1 [w2]).Own hO.next 3 w2 (ints .i64 (nodesL N (i + 1) g)) := o2.keep fun b el L hb r => R2.wr_other x2.wf.quiet (off := 1) (vs := [w2]) (by simp) r (fun hx => o2.other R2 (by omega) (hx ▸ hb))
  have q3 : ∀ e : Env, slotG 54 e = .pointer (some ⟨c, 1, none⟩) → slotG 53 e = w2 → oQuiet .free (oStore 1 (slotG 54) (slotG 53)) F e m2 = .ok noRes (m2.back (m2.quiet.wr c 1 [w2])) := fun e h1 h2 => quiet_free (by rw [oStore_is, h1, h2]; exact st)
  have x4 : hO.Ext (m2.back (m2.quiet.wr c 1 [w2])) := x2.back2 x3
  have R4 : (m2.back (m2.quiet.wr c 1 [w2])).Row c 0 [.int .i64 1, w2] := R3.same rfl
  have o4 : (m2.back (m2.quiet.wr c 1 [w2])).Own hO.next 3 w2 (ints .i64 (nodesL N (i + 1) g)) := o3.same rfl
  generalize m2.back (m2.quiet.wr c 1 [w2]) = m3 at q3 x4 R4 o4
  have c1 : iLt (i : Int) (n : Int) = true := by rw [iLt_is]; simp; omega
  have ai : addR .i64 (.int .i64 (i : Int)) (.int .i64 1) m3 = .ok (.int .i64 ((i + 1 : Nat) : Int)) m3 := by
    have : (i : Int) + 1 = ((i + 1 : Nat) : Int) := by omega
    rw [addR_is, this, wrap_nat (by omega)]
  have hrun : ∃ e2, fbB F e h' = .norm e2 m3 ∧ keepF e e2 ∧ slotG 41 e2 = .int .i64 (n : Int) ∧ slotG 42 e2 = .int .i64 ((i + 1 : Nat) : Int) := by
    unfold fbB keepF
    simp only [cOp_is, cDo_is, cCond_is, cSeq_is, cBlock_is, cNorm_is, cRet_is, cExit_is, opX_ok, doX_ok, condX_true, condX_false, seqX_norm, seqX_exit, seqX_ret, blockX_norm, blockX_ret, blockX_exit, oMove_is, kV_is, slot_set, Nat.reduceLT, Nat.reduceEqDiff, if_true, if_false, reduceIte, oCmp_is, cmpR_is, s42, s41, c1, marked_is, oFieldAddr_is', s10, fieldAR_is, oLoad1_is, loadR_is, Nat.zero_add, lw, oAdd_is, s9, ad, oRem_is, s0, rm, q1, q2, q3, ai]
    exact ⟨_, rfl, ⟨by simp only [slot_set, Nat.reduceLT, Nat.reduceEqDiff, if_true, if_false, reduceIte, s0], by simp only [slot_set, Nat.reduceLT, Nat.reduceEqDiff, if_true, if_false, reduceIte], by simp only [slot_set, Nat.reduceLT, Nat.reduceEqDiff, if_true, if_false, reduceIte], by simp only [slot_set, Nat.reduceLT, Nat.reduceEqDiff, if_true, if_false, reduceIte, s9], by simp only [slot_set, Nat.reduceLT, Nat.reduceEqDiff, if_true, if_false, reduceIte, s10], by simp only [slot_set, Nat.reduceLT, Nat.reduceEqDiff, if_true, if_false, reduceIte], by simp only [slot_set, Nat.reduceLT, Nat.reduceEqDiff, if_true, if_false, reduceIte]⟩, by simp only [slot_set, Nat.reduceLT, Nat.reduceEqDiff, if_true, if_false, reduceIte, s41], by simp only [slot_set, Nat.reduceLT, Nat.reduceEqDiff, if_true, if_false, reduceIte]⟩
  obtain ⟨e2, r1, r2, r3, r4⟩ := hrun
  exact ⟨e2, m3, w2, r1, x4, R4, o4, r2, r3, r4⟩
theorem fb_loop {F : CallF} {hO h : Hp} (WO : hO.Wf) (x : hO.Ext h) {c N n g : Nat} (hc : hO.next ≤ c) (hN : 0 < N) (hN2 : N ≤ 255) (hg : g ≤ 1000) (hn : n ≤ 255) (R : h.Row c 0 [.int .i64 1, .slice none 0 0])
    {e : Env} (s0 : slotG 0 e = .int .i64 (N : Int)) (s9 : slotG 9 e = .int .i64 (g : Int)) (s10 : slotG 10 e = .pointer (some ⟨c, 0, none⟩)) (s41 : slotG 41 e = .int .i64 (n : Int)) (s42 : slotG 42 e = .int .i64 0) :
    ∃ e2 g2 w, cLoop fbB F e h = .exit 2 e2 g2 ∧ hO.Ext g2 ∧ g2.Row c 0 [.int .i64 1, w] ∧ g2.Own hO.next 3 w (ints .i64 (nodesL N n g)) ∧ keepF e e2 := by
  refine loop_run (I := fun i e' h' => ∃ w, hO.Ext h' ∧ h'.Row c 0 [.int .i64 1, w] ∧ h'.Own hO.next 3 w (ints .i64 (nodesL N i g)) ∧ keepF e e' ∧ i ≤ n ∧ slotG 41 e' = .int .i64 (n : Int) ∧ slotG 42 e' = .int .i64 (i : Int))
    (Q := fun y => ∃ e2 g2 w, y = .exit 2 e2 g2 ∧ hO.Ext g2 ∧ g2.Row c 0 [.int .i64 1, w] ∧ g2.Own hO.next 3 w (ints .i64 (nodesL N n g)) ∧ keepF e e2) n (by omega)
    (fun i e' h' ⟨w, ex, R', o, ⟨k0, k1, k8, k9, k10, k36, k37⟩, hi, t41, t42⟩ => ?_) ⟨_, x, R, .inl ⟨rfl, rfl⟩, ⟨rfl, rfl, rfl, rfl, rfl, rfl, rfl⟩, Nat.zero_le _, s41, s42⟩
  by_cases hlt : i < n
  · left
    obtain ⟨e2, g2, w2, r1, r2, r3, r4, ⟨m0, m1, m8, m9, m10, m36, m37⟩, r6, r7⟩ := fb_round (F := F) WO ex hc hN hN2 hg hlt hn R' o (k0.trans s0) (k9.trans s9) (k10.trans s10) t41 t42
    exact ⟨hlt, e2, g2, r1, w2, r2, r3, r4, ⟨m0.trans k0, m1.trans k1, m8.trans k8, m9.trans k9, m10.trans k10, m36.trans k36, m37.trans k37⟩, hlt, r6, r7⟩
  · right
    have c1 : iLt (i : Int) (n : Int) = false := by rw [iLt_is]; simp; omega
    have hrun : ∃ e2, fbB F e' h' = .exit 2 e2 h' ∧ keepF e' e2 := by
      unfold fbB keepF
      simp only [cOp_is, cDo_is, cCond_is, cSeq_is, cBlock_is, cNorm_is, cRet_is, cExit_is, opX_ok, doX_ok, condX_true, condX_false, seqX_norm, seqX_exit, seqX_ret, blockX_norm, blockX_ret, blockX_exit, oMove_is, kV_is, slot_set, Nat.reduceLT, Nat.reduceEqDiff, if_true, if_false, reduceIte, oCmp_is, cmpR_is, t42, t41, c1]
      exact ⟨_, rfl, by simp only [slot_set, Nat.reduceLT, Nat.reduceEqDiff, if_true, if_false, reduceIte], by simp only [slot_set, Nat.reduceLT, Nat.reduceEqDiff, if_true, if_false, reduceIte], by simp only [slot_set, Nat.reduceLT, Nat.reduceEqDiff, if_true, if_false, reduceIte], by simp only [slot_set, Nat.reduceLT, Nat.reduceEqDiff, if_true, if_false, reduceIte], by simp only [slot_set, Nat.reduceLT, Nat.reduceEqDiff, if_true, if_false, reduceIte], by simp only [slot_set, Nat.reduceLT, Nat.reduceEqDiff, if_true, if_false, reduceIte], by simp only [slot_set, Nat.reduceLT, Nat.reduceEqDiff, if_true, if_false, reduceIte]⟩
    obtain ⟨e2, r1, ⟨m0, m1, m8, m9, m10, m36, m37⟩⟩ := hrun
    rw [r1]
    have : i = n := by omega
    subst this
    exact ⟨rfl, e2, h', w, rfl, ex, R', o, ⟨m0.trans k0, m1.trans k1, m8.trans k8, m9.trans k9, m10.trans k10, m36.trans k36, m37.trans k37⟩⟩
/-- a group's placement is made -/
theorem fa_round {F : CallF} {h h' : Hp} (W : h.Wf) (ex : h.Ext h') {N n G g : Nat} {vo : Value} {ws : List Pw} (hN : 0 < N) (hN2 : N ≤ 255) (hn : n ≤ 255) (hG : G ≤ 1000) (hg : g < G) (U : h'.Own2 h.next vo (flatW ws) g) (hlen : ws.length = g) (D : h'.Nds h.next ws)
    {e : Env} (s0 : slotG 0 e = .int .i64 (N : Int)) (s1 : slotG 1 e = .int .i64 (n : Int)) (s8 : slotG 8 e = vo) (s36 : slotG 36 e = .int .i64 (G : Int)) (s37 : slotG 37 e = .int .i64 (g : Int)) :
    ∃ e2 g2 vo2 w, faB F e h' = .norm e2 g2 ∧ h.Ext g2 ∧ g2.Own2 h.next vo2 (flatW (ws ++ [(1, w, nodesL N n g)])) (g + 1) ∧ g2.Nds h.next (ws ++ [(1, w, nodesL N n g)]) ∧ slotG 0 e2 = .int .i64 (N : Int) ∧ slotG 1 e2 = .int .i64 (n : Int) ∧ slotG 8 e2 = vo2 ∧ slotG 36 e2 = .int .i64 (G : Int) ∧ slotG 37 e2 = .int .i64 ((g + 1 : Nat) : Int) := by
  have Wh := ex.wf
  -- the cell
  have y1 := (Hp.Ext.refl Wh).push (.cells zt37 2 0)
  have Rc : (h'.push (.cells zt37 2 0)).Row h'.next 0 [.int .i64 0, .slice none 0 0] := Hp.Row.alloc Wh zt37_is rfl
  have al := fun (e : Env) => oAlloc_is (F := F) (e := e) (n := 2) (t := zt37) Wh
  generalize h'.push (.cells zt37 2 0) = h1 at y1 Rc al
  have ho : 0 + [Value.int .i64 1, .slice none 0 0].length ≤ [Value.int .i64 0, .slice none 0 0].length := by simp
  have st := Rc.storeR (n := 2) (off := 0) y1.wf Wh.big (v := .agg ⟨[.int .i64 1, .slice none 0 0]⟩) rfl ho rfl
  rw [cells_agg] at st
  have y2 := Rc.wr_ext y1 (Nat.le_refl _) (off := 0) (vs := [.int .i64 1, .slice none 0 0]) ho
  have R2 := Rc.wr_self y1.wf (off := 0) (vs := [.int .i64 1, .slice none 0 0]) ho
  generalize h1.wr h'.next 0 [.int .i64 1, .slice none 0 0] = h2 at st y2 R2
  have R2 : h2.Row h'.next 0 [.int .i64 1, .slice none 0 0] := R2
  have hb : ∃ e1, faB F e h' = seqX (blockX 1 (fbS F e1 h2)) (cOp (slotT 60) (oAdd .i64 (topOf .i64) (slotG 37) (kV (.int .i64 1))) (cOp (slotT 37) (oMove (slotG 60)) cNorm)) F ∧ slotG 0 e1 = .int .i64 (N : Int) ∧ slotG 1 e1 = .int .i64 (n : Int) ∧ slotG 8 e1 = vo ∧ slotG 9 e1 = .int .i64 (g : Int) ∧ slotG 10 e1 = .pointer (some ⟨h'.next, 0, none⟩) ∧ slotG 36 e1 = .int .i64 (G : Int) ∧ slotG 37 e1 = .int .i64 (g : Int) ∧ slotG 41 e1 = .int .i64 (n : Int) ∧ slotG 42 e1 = .int .i64 0 := by
    have c1 : iLt (g : Int) (G : Int) = true := by rw [iLt_is]; simp; omega
    have kn : known (.int .i64 1) = true := rfl
    unfold faB
    simp only [cOp_is, cDo_is, cCond_is, cSeq_is, cBlock_is, opX_ok, doX_ok, condX_true, oMove_is, kV_is, slot_set, Nat.reduceLT, Nat.reduceEqDiff, if_true, if_false, reduceIte, oCmp_is, cmpR_is, s37, s36, c1, oBuild_is, zero37, fillL_cons, fillL_nil, kn, cells_int, List.length_cons, List.length_nil, Nat.zero_add, Nat.reduceAdd, Nat.reduceLeDiff, over_p0, al, oStore_is, st, s1]
    exact ⟨_, rfl, by simp only [slot_set, Nat.reduceLT, Nat.reduceEqDiff, if_true, if_false, reduceIte]; exact s0, by simp only [slot_set, Nat.reduceLT, Nat.reduceEqDiff, if_true, if_false, reduceIte, s1], by simp only [slot_set, Nat.reduceLT, Nat.reduceEqDiff, if_true, if_false, reduceIte]; exact s8, by simp only [slot_set, Nat.reduceLT, Nat.reduceEqDiff, if_true, if_false, reduceIte], by simp only [slot_set, Nat.reduceLT, Nat.reduceEqDiff, if_true, if_false, reduceIte], by simp only [slot_set, Nat.reduceLT, Nat.reduceEqDiff, if_true, if_false, reduceIte, s36], by simp only [slot_set, Nat.reduceLT, Nat.reduceEqDiff, if_true, if_false, reduceIte, s37], by simp only [slot_set, Nat.reduceLT, Nat.reduceEqDiff, if_true, if_false, reduceIte], by simp only [slot_set, Nat.reduceLT, Nat.reduceEqDiff, if_true, if_false, reduceIte]⟩
  obtain ⟨e1, r, p0, p1, p8, p9, p10, p36, p37, p41, p42⟩ := hb
  obtain ⟨e2, g2, w, q1, q2, q3, q4, ⟨k0, k1, k8, k9, k10, k36, k37⟩⟩ := fb_loop (F := F) Wh y2 (Nat.le_refl _) hN hN2 (by omega) hn R2 p0 p9 p10 p41 p42
  have x2 := ex.trans q2
  have U2 := U.ext Wh q2
  have D2 := D.ext Wh q2
  obtain ⟨w1, w2⟩ := q4.vals.cells1
  have ld : loadN 2 ⟨h'.next, 0, none⟩ g2 = .ok (.agg ⟨[.int .i64 1, w]⟩) g2 := q3.loadN (by simp)
  have ts : ∀ e : Env, slotG 57 e = .agg ⟨[.int .i64 1, w]⟩ → oBuildSlice 1 (repL ty37.zero 1) [(0, 2, slotG 57)] F e g2 = .ok (.slice (some ⟨g2.next, 0, none⟩) 1 1) (g2.pushRow 0 [.int .i64 1, w]) := fun e he => two_slice x2.wf he
  obtain ⟨g3, vo2, a1, a2, a3, a4, a5⟩ := own2_one x2 (Nat.le_refl _) x2.next U2 (p := .int .i64 1) (q := w) (by show (bif oneCell w then true else false) = true; rw [w2]; rfl) (by omega)
  have kp : ∀ {u : Value} {zs : List Int} {k : Nat}, g2.Own k 3 u (ints .i64 zs) → g3.Own k 3 u (ints .i64 zs) := fun {u zs k} o => by
    rcases o with h1 | ⟨b, h1, h2, h3⟩
    · exact .inl h1
    · exact .inr ⟨b, h1, (a5 _ _ _ (U2.other h2 (by omega)) h2).1, h3⟩
  have ad : addR .i64 (.int .i64 (g : Int)) (.int .i64 1) g3 = .ok (.int .i64 ((g + 1 : Nat) : Int)) g3 := by
    have : (g : Int) + 1 = ((g + 1 : Nat) : Int) := by omega
    rw [addR_is, this, wrap_nat (by omega)]
  have t0 := k0.trans p0
  have t1 := k1.trans p1
  have t8 := k8.trans p8
  have t10 := k10.trans p10
  have t36 := k36.trans p36
  have t37 := k37.trans p37
  have hrun : ∃ e3, faB F e h' = .norm e3 g3 ∧ slotG 0 e3 = .int .i64 (N : Int) ∧ slotG 1 e3 = .int .i64 (n : Int) ∧ slotG 8 e3 = vo2 ∧ slotG 36 e3 = .int .i64 (G : Int) ∧ slotG 37 e3 = .int .i64 ((g + 1 : Nat) : Int) := by
    rw [r, fbS_is]
    simp only [cSeq_is, cBlock_is, q1, blockX_exit, seqX_norm]
    unfold fbE
    simp only [cOp_is, cDo_is, cCond_is, cSeq_is, cBlock_is, cNorm_is, cRet_is, cExit_is, opX_ok, doX_ok, condX_true, condX_false, seqX_norm, seqX_exit, seqX_ret, blockX_norm, blockX_ret, blockX_exit, oMove_is, kV_is, slot_set, Nat.reduceLT, Nat.reduceEqDiff, if_true, if_false, reduceIte, oLoadN_is, t10, loadsR_is, ld, ts, oAppend_is, t8, a1, oAdd_is, t37, ad]
    exact ⟨_, rfl, by simp only [slot_set, Nat.reduceLT, Nat.reduceEqDiff, if_true, if_false, reduceIte]; exact t0, by simp only [slot_set, Nat.reduceLT, Nat.reduceEqDiff, if_true, if_false, reduceIte]; exact t1, by simp only [slot_set, Nat.reduceLT, Nat.reduceEqDiff, if_true, if_false, reduceIte], by simp only [slot_set, Nat.reduceLT, Nat.reduceEqDiff, if_true, if_false, reduceIte]; exact t36, by simp only [slot_set, Nat.reduceLT, Nat.reduceEqDiff, if_true, if_false, reduceIte]⟩
  obtain ⟨e3, z1, z2, z3, z4, z5, z6⟩ := hrun
  refine ⟨e3, g3, vo2, w, z1, a2, ?_, fun y hy => ?_, z2, z3, z4, z5, z6⟩
  · rw [flatW_app]; exact a3
  · rcases List.mem_append.1 hy with hy | hy
    · exact kp (D2 y hy)
    · rw [List.mem_singleton] at hy
      subst hy
      exact kp (q4.le ex.next)
theorem first_is {m : Nat} {h : Hp} (W : h.Wf) {N n G : Nat} (hN : 0 < N) (hN2 : N ≤ 255) (hn0 : 0 < n) (hn : n ≤ N) (hG0 : 0 < G) (hG : G ≤ 1000) :
    ∃ h' v ws, call bodies (m + 1) 7 [.int .i64 (N : Int), .int .i64 (n : Int), .int .i64 (G : Int)] h = .ok (.tuple ⟨[v, .int .i64 0]⟩) h' ∧ h.Ext h' ∧ h'.Pls h.next v ws ∧ h'.Nds h.next ws ∧ ws.length = G ∧ ∀ i x, ws[i]? = some x → x.1 = 1 ∧ x.2.2 = nodesL N n i := by
  have c1 : iLt (N : Int) 1 = false := by rw [iLt_is]; simp; omega
  have c2 : iGt (N : Int) 256 = false := by rw [iGt_is]; simp; omega
  have c3 : iLt (n : Int) 1 = false := by rw [iLt_is]; simp; omega
  have c4 : iGt (n : Int) (N : Int) = false := by rw [iGt_is]; simp; omega
  have c5 : iLt (G : Int) 1 = false := by rw [iLt_is]; simp; omega
  have c6 : iGt (G : Int) 1000 = false := by rw [iGt_is]; simp; omega
  have mn := minR_is (h := h) hN2
  have pre : ∃ e1, d7h (call bodies m) (setArgs e0 0 [.int .i64 (N : Int), .int .i64 (n : Int), .int .i64 (G : Int)]) h = faS (call bodies m) e1 h ∧ slotG 0 e1 = .int .i64 (N : Int) ∧ slotG 1 e1 = .int .i64 (n : Int) ∧ slotG 8 e1 = .slice none 0 0 ∧ slotG 36 e1 = .int .i64 (G : Int) ∧ slotG 37 e1 = .int .i64 0 := by
    unfold d7h
    simp only [setArgs_cons, setArgs_nil, Nat.succ_eq_add_one, Nat.zero_add, Nat.reduceAdd, cOp_is, cCond_is, opX_ok, condX_false, oMove_is, kV_is, slot_set, Nat.reduceLT, Nat.reduceEqDiff, if_true, if_false, reduceIte, cG_is, guardX_tt, guardX_tf, guardX_ft, guardX_ff, guardX_none, skipC_is, oPick_is, pickR_true, pickR_false, oCmp_is, cmpR_is, c1, c2, c3, oMin_is, mn, c4, c5, c6]
    exact ⟨_, rfl, by simp only [slot_set, Nat.reduceLT, Nat.reduceEqDiff, if_true, if_false, reduceIte], by simp only [slot_set, Nat.reduceLT, Nat.reduceEqDiff, if_true, if_false, reduceIte], by simp only [slot_set, Nat.reduceLT, Nat.reduceEqDiff, if_true, if_false, reduceIte], by simp only [slot_set, Nat.reduceLT, Nat.reduceEqDiff, if_true, if_false, reduceIte], by simp only [slot_set, Nat.reduceLT, Nat.reduceEqDiff, if_true, if_false, reduceIte]⟩
  obtain ⟨e1, p, p0, p1, p8, p36, p37⟩ := pre
  have L : ∃ e2 g2 vo ws, cLoop faB (call bodies m) e1 h = .exit 0 e2 g2 ∧ h.Ext g2 ∧ g2.Own2 h.next vo (flatW ws) G ∧ ws.length = G ∧ g2.Nds h.next ws ∧ (∀ i x, ws[i]? = some x → x.1 = 1 ∧ x.2.2 = nodesL N n i) ∧ slotG 8 e2 = vo := by
    refine loop_run (I := fun g e' h' => ∃ vo ws, h.Ext h' ∧ h'.Own2 h.next vo (flatW ws) g ∧ ws.length = g ∧ h'.Nds h.next ws ∧ (∀ i x, ws[i]? = some x → x.1 = 1 ∧ x.2.2 = nodesL N n i) ∧ g ≤ G ∧ slotG 0 e' = .int .i64 (N : Int) ∧ slotG 1 e' = .int .i64 (n : Int) ∧ slotG 8 e' = vo ∧ slotG 36 e' = .int .i64 (G : Int) ∧ slotG 37 e' = .int .i64 (g : Int))
      (Q := fun y => ∃ e2 g2 vo ws, y = .exit 0 e2 g2 ∧ h.Ext g2 ∧ g2.Own2 h.next vo (flatW ws) G ∧ ws.length = G ∧ g2.Nds h.next ws ∧ (∀ i x, ws[i]? = some x → x.1 = 1 ∧ x.2.2 = nodesL N n i) ∧ slotG 8 e2 = vo) G (by omega)
      (fun g e' h' ⟨vo, ws, ex, U, hlen, D, hw, hg, t0, t1, t8, t36, t37⟩ => ?_) ⟨_, [], .refl W, .inl ⟨rfl, rfl, rfl⟩, rfl, (fun y hy => by cases hy), (fun i x hx => by cases hx), Nat.zero_le _, p0, p1, p8, p36, p37⟩
    by_cases hlt : g < G
    · left
      obtain ⟨e2, g2, vo2, w, r1, r2, r3, r4, r5, r6, r7, r8, r9⟩ := fa_round (F := call bodies m) W ex hN hN2 (by omega) hG hlt U hlen D t0 t1 t8 t36 t37
      refine ⟨hlt, e2, g2, r1, vo2, _, r2, r3, by rw [List.length_append, List.length_singleton, hlen], r4, fun i x hx => ?_, hlt, r5, r6, r7, r8, r9⟩
      rcases Nat.lt_or_ge i ws.length with hi | hi
      · rw [List.getElem?_append_left hi] at hx
        exact hw i x hx
      · rw [List.getElem?_append_right hi] at hx
        cases hj : i - ws.length with
        | zero =>
          rw [hj] at hx
          cases hx
          have : i = g := by omega
          subst this
          exact ⟨rfl, rfl⟩
        | succ j => rw [hj] at hx; cases hx
    · right
      have d1 : iLt (g : Int) (G : Int) = false := by rw [iLt_is]; simp; omega
      have hrun : ∃ e2, faB (call bodies m) e' h' = .exit 0 e2 h' ∧ slotG 8 e2 = vo := by
        unfold faB
        simp only [cOp_is, cDo_is, cCond_is, cSeq_is, cBlock_is, cNorm_is, cRet_is, cExit_is, opX_ok, doX_ok, condX_true, condX_false, seqX_norm, seqX_exit, seqX_ret, blockX_norm, blockX_ret, blockX_exit, oMove_is, kV_is, slot_set, Nat.reduceLT, Nat.reduceEqDiff, if_true, if_false, reduceIte, oCmp_is, cmpR_is, t37, t36, d1]
        exact ⟨_, rfl, by simp only [slot_set, Nat.reduceLT, Nat.reduceEqDiff, if_true, if_false, reduceIte]; exact t8⟩
      obtain ⟨e2, r1, r2⟩ := hrun
      rw [r1]
      have : g = G := by omega
      subst this
      exact ⟨rfl, e2, h', vo, ws, rfl, ex, U, hlen, D, hw, r2⟩
  obtain ⟨e2, g2, vo, ws, q1, q2, q3, q4, q5, q6, q7⟩ := L
  refine ⟨g2, vo, ws, ?_, q2, Hp.Own2.pls (by rw [q4]; exact q3), q5, q4, q6⟩
  rw [call7 rfl, d7_is, p, faS_is]
  simp only [cSeq_is, cBlock_is, q1, blockX_exit, seqX_norm]
  unfold faE
  simp only [cOp_is, cDo_is, cCond_is, cSeq_is, cBlock_is, cNorm_is, cRet_is, cExit_is, opX_ok, doX_ok, condX_true, condX_false, seqX_norm, seqX_exit, seqX_ret, blockX_norm, blockX_ret, blockX_exit, oMove_is, kV_is, slot_set, Nat.reduceLT, Nat.reduceEqDiff, if_true, if_false, reduceIte, q7, leave_ret, finish_2]
end Go.Proofs.Ytkafejncffinmaa
set_option linter.unusedVariables false
set_option linter.unusedSimpArgs false
namespace Go.Proofs.Ytkafejncffinmaa
open Go
set_option maxRecDepth 100000
theorem finish_2c {e : Env} {h : Hp} {g g' : O} {n : Nat} {v : Value} (hv : loadsR n (g e) h = .ok v h) : finish [.cN g n, .t g'] e h = .ok (.tuple ⟨[v, g' e]⟩) h := by
  have h1 : result1 e h (.cN g n) = .ok v h := hv
  show (match result1 e h (.cN g n) with | .ok v _ => forceV v fun v => (forceV (g' e) fun y => finish2 h [v, y]) | .no => .no) = _
  rw [h1]
  simp only [forceV_is]; rfl

/-! ### Of -/
theorem of_is {n : Nat} {h : Hp} (W : h.Wf) {k k' : Nat} {v : Value} {ws : List Pw} (d : h.Pls k v ws) (D : h.Nds k' ws) (hp : 0 < ws.length) (hl : ws.length ≤ 1000) {s : Nat} (hs : s ≤ 1099511627776) {x : Pw} (hx : ws[s % ws.length]? = some x) (hz : 0 < x.2.2.length) (hz2 : x.2.2.length ≤ 255) :
    ∃ h' w, call bodies (n + 3) 10 [v, .int .i64 (s : Int)] h = .ok (.tuple ⟨[plV x.1 w, .bool true]⟩) h' ∧ h.Ext h' ∧ h'.Vals w (ints .i64 x.2.2) := by
  obtain ⟨b0, hv, R0⟩ : ∃ b0, v = .slice (some ⟨b0, 0, none⟩) ws.length ws.length ∧ h.Row b0 38 (flatW ws) := by
    rcases d with ⟨_, rfl⟩ | ⟨b, h1, h2, _⟩
    · cases hp
    · exact ⟨b, h1, h2⟩
  have y1 := (Hp.Ext.refl W).push (.cells zt37 2 0)
  have Rc : (h.push (.cells zt37 2 0)).Row h.next 0 [.int .i64 0, .slice none 0 0] := Hp.Row.alloc W zt37_is rfl
  have al := fun (e : Env) => oAlloc_is (F := call bodies (n + 2)) (e := e) (n := 2) (t := zt37) W
  generalize h.push (.cells zt37 2 0) = h1 at y1 Rc al
  have hm : s % ws.length < ws.length := Nat.mod_lt _ hp
  have ci : idxSR 2 v (.int .i64 ((s % ws.length : Nat) : Int)) h1 = .ok (.pointer (some ⟨b0, (s % ws.length) * 2, none⟩)) h1 := by
    have := idxSR_is (h := h1) (es := 2) (b := b0) (off := 0) (c := ws.length) (k := .i64) hm
    rw [Nat.zero_add] at this; rw [hv]; exact this
  have ld : loadN 2 ⟨b0, (s % ws.length) * 2, none⟩ h1 = .ok (plV x.1 x.2.1) h1 := by
    have := (R0.ext W y1).loadN (off := (s % ws.length) * 2) (n := 2) (by rw [flatW_len]; omega)
    rw [flatW_at ws _ _ hx] at this
    exact this
  have rm : remR .i64 (.int .i64 (s : Int)) (.int .i64 (ws.length : Int)) h1 = .ok (.int .i64 ((s % ws.length : Nat) : Int)) h1 := by rw [remR_is (by omega)]; rfl
  obtain ⟨h2, w, k1, y2, o2, n2, f2⟩ := own_is (n := n) (h0 := h) y1 (k := h.next) y1.next (ep := x.1) ((D x (List.mem_of_getElem? hx)).ext W y1).vals hz (by omega)
  have Rc2 := (f2 _ _ _ Rc).1
  obtain ⟨w1, w2⟩ := o2.vals.cells1
  have ho : 0 + (cellsOf (plV x.1 w)).length ≤ [Value.int .i64 0, .slice none 0 0].length := by simp [plV, cells_agg]
  have st := Rc2.storeR (n := 2) (off := 0) y2.wf W.big (v := plV x.1 w) rfl ho (by show (bif oneCell w then true else false) = true; rw [w2]; rfl)
  have y3 := Rc2.wr_ext y2 (Nat.le_refl _) (off := 0) (vs := cellsOf (plV x.1 w)) ho
  have R3 := Rc2.wr_self y2.wf (off := 0) (vs := cellsOf (plV x.1 w)) ho
  have o3 : (h2.wr h.next 0 (cellsOf (plV x.1 w))).Own h.next 3 w (ints .i64 x.2.2) := o2.keep fun b el L hb r => Rc2.wr_other y2.wf (off := 0) (vs := cellsOf (plV x.1 w)) ho r (fun hx => o2.other Rc2 (by omega) (hx ▸ hb))
  generalize h2.wr h.next 0 (cellsOf (plV x.1 w)) = h3 at st y3 R3 o3
  have R3 : h3.Row h.next 0 [.int .i64 x.1, w] := R3
  have lr : loadN 2 ⟨h.next, 0, none⟩ h3 = .ok (plV x.1 w) h3 := R3.loadN (by simp)
  have c1 : iEq (ws.length : Int) 0 = false := by
    rw [iEq_is, beq_eq_false_iff_ne]; omega
  have c2 : iLt (s : Int) 0 = false := by rw [iLt_is]; simp
  have vl : ∀ g : Hp, lenSR v g = .ok (.int .i64 (ws.length : Int)) g := fun g => d.len
  have hrun : ∃ e2, d10 (call bodies (n + 2)) (setArgs e0 0 [v, .int .i64 (s : Int)]) h = .ret e2 h3 ∧ slotG 4 e2 = .pointer (some ⟨h.next, 0, none⟩) ∧ slotG 5 e2 = .bool true := by
    unfold d10
    simp only [setArgs_cons, setArgs_nil, Nat.succ_eq_add_one, Nat.zero_add, Nat.reduceAdd, cOp_is, cDo_is, cCond_is, cSeq_is, cBlock_is, cNorm_is, cRet_is, cExit_is, opX_ok, doX_ok, condX_true, condX_false, seqX_norm, seqX_exit, seqX_ret, blockX_norm, blockX_ret, blockX_exit, oMove_is, kV_is, slot_set, Nat.reduceLT, Nat.reduceEqDiff, if_true, if_false, reduceIte, cG_is, guardX_tt, guardX_tf, guardX_ft, guardX_ff, guardX_none, skipC_is, oPick_is, pickR_true, pickR_false, al, oLenS_is, vl, oCmp_is, cmpR_is, c1, c2, oRem_is, rm, oIdx_is, ci, oLoadN_is, loadsR_is, ld, oCall_is, vals_cons, vals_nil, k1, oStore_is, st]
    exact ⟨_, rfl, by simp only [slot_set, Nat.reduceLT, Nat.reduceEqDiff, if_true, if_false, reduceIte], by simp only [slot_set, Nat.reduceLT, Nat.reduceEqDiff, if_true, if_false, reduceIte]⟩
  obtain ⟨e2, r1, r2, r3⟩ := hrun
  refine ⟨h3, w, ?_, y3, o3.vals⟩
  rw [call10 rfl, r1, leave_ret, finish_2c (v := plV x.1 w) (by rw [r2]; exact lr), r3]

/-! ### Over -/
theorem over_is {n : Nat} {h : Hp} (W : h.Wf) {f t : Int} {u : Value} {zs : List Int} (V : h.Vals u (ints .i64 zs)) (hl : zs.length < 900000) : ∃ h', call bodies (n + 3) 13 [mvV f t u] h = .ok (.bool (rightB f t zs && decide (zs.length = 0))) h' ∧ h.Ext h' := by
  have R := Hp.Row.new W 0 [.int .i64 f, .int .i64 t, u]
  have x1 := (Hp.Ext.refl W).pushRow 0 [.int .i64 f, .int .i64 t, u]
  have hbx : ∀ e : Env, slotG 0 e = mvV f t u → oBox (slotG 0) (call bodies (n + 2)) e h = .ok (.pointer (some ⟨h.next, 0, none⟩)) (h.pushRow 0 [.int .i64 f, .int .i64 t, u]) := fun e he => by rw [oBox_is, he, boxR_is W]; rfl
  generalize h.pushRow 0 [.int .i64 f, .int .i64 t, u] = h1 at R x1 hbx
  have l1 : loadN 3 ⟨h.next, 0, none⟩ h1 = .ok (mvV f t u) h1 := R.loadN (by simp)
  have k1 := right_is (n := n) x1.wf (V.ext W x1) hl (f := f) (t := t)
  have y2 := right_ext x1.wf (f := f) (t := t) (u := u)
  have x2 := x1.trans y2
  have R2 := R.ext x1.wf y2
  generalize h1.pushRow 0 [.int .i64 f, .int .i64 t, u] = h2 at k1 y2 x2 R2
  have l2 : load1 ⟨h.next, 2, none⟩ h2 = .ok u h2 := R2.load1 (off := 2) (by simp)
  have V2 := V.ext W x2
  have c1 : iEq (zs.length : Int) 0 = decide (zs.length = 0) := by rw [iEq_is, Bool.eq_iff_iff, beq_iff_eq, decide_eq_true_eq]; omega
  refine ⟨h2, ?_, x2⟩
  rw [call13 rfl]
  unfold d13
  generalize decide (zs.length = 0) = b2 at c1 ⊢
  generalize rightB f t zs = b1 at k1 ⊢
  cases b1 <;>
  · simp only [setArgs_cons, setArgs_nil, Nat.succ_eq_add_one, Nat.zero_add, Nat.reduceAdd, cOp_is, cDo_is, cCond_is, cSeq_is, cBlock_is, cNorm_is, cRet_is, cExit_is, opX_ok, doX_ok, condX_true, condX_false, seqX_norm, seqX_exit, seqX_ret, blockX_norm, blockX_ret, blockX_exit, oMove_is, kV_is, slot_set, Nat.reduceLT, Nat.reduceEqDiff, if_true, if_false, reduceIte, cG_is, guardX_tt, guardX_tf, guardX_ft, guardX_ff, guardX_none, skipC_is, oPick_is, pickR_true, pickR_false, hbx, oLoadN_is, loadsR_is, l1, oCall_is, vals_cons, vals_nil, k1, oFieldAddr_is', fieldAR_is, oLoad1_is, loadR_is, l2, oLenS_is, V2.ilen, oCmp_is, cmpR_is, c1, leave_ret, finish_1, Bool.true_and, Bool.false_and]

/-! ### Delete -/
theorem sliceOf_lt {h : Hp} {b l hh m : Nat} (hlm : l < m) : sliceOf (some ⟨b, 0, none⟩) 1 l hh m h = .ok (.slice (some ⟨b, l, none⟩) (hh - l) (m - l)) h := by
  unfold sliceOf
  simp only [forceN_is]
  have e1 : Nat.beq m l = false := by
    cases e : Nat.beq m l
    · rfl
    · have := nat_beq.1 e; omega
  rw [e1]
  cases l with
  | zero => rfl
  | succ l =>
    have e2 : Nat.mul (l + 1) 1 = Nat.succ l := Nat.mul_one _
    simp only [e2]
    show R.ok (.slice (some ⟨b, Nat.add 0 (Nat.succ l), none⟩) _ _) h = _
    rw [Nat.add_eq, Nat.zero_add]; rfl
theorem sliceOf_eq {h : Hp} {b l : Nat} : sliceOf (some ⟨b, 0, none⟩) 1 l l l h = .ok (.slice (some ⟨b, 0, none⟩) 0 0) h := by
  unfold sliceOf
  simp only [forceN_is]
  rw [Nat.beq_refl]
  show R.ok (.slice (some ⟨b, 0, none⟩) (l - l) (l - l)) h = _
  rw [Nat.sub_self]
theorem cut3_is {F : CallF} {e : Env} {h : Hp} {x y z m : O} {el b N i j : Nat} (hx : x e = .slice (some ⟨b, 0, none⟩) N N) (hy : y e = .int .i64 (i : Int)) (hz : z e = .int .i64 (j : Int)) (hm : m e = .int .i64 (N : Int)) (hij : i ≤ j) (hj : j ≤ N) (hi : i < N) : oCut el 1 x (some y) (some z) (some m) F e h = .ok (.slice (some ⟨b, i, none⟩) (j - i) (N - i)) h := by
  show (match x e with | .slice a n c => bounds e n c (some y) (some z) (some m) (fun l hh m => cutF el 1 a true l hh m h) | _ => .no) = _
  rw [hx]
  show (match natV (m e) with | .ok M => (bif Nat.ble M N then (match natV (z e) with | .ok H => (bif Nat.ble H M then (match natV (y e) with | .ok L => (bif Nat.ble L H then cutF el 1 (some ⟨b, 0, none⟩) true L H M h else .no) | .no => .no) else .no) | .no => .no) else .no) | .no => .no) = _
  rw [hm, hz, hy, natV_cast, natV_cast, natV_cast]
  simp only
  rw [nat_ble.2 (Nat.le_refl N), nat_ble.2 hj, nat_ble.2 hij]
  exact sliceOf_lt hi
theorem fits_is {h : Hp} {b : Nat} {L : List Value} (r : h.Row b 4 L) : fitsE 3 (some ⟨b, 0, none⟩) h = true := by
  obtain ⟨cc, hc, hl⟩ := r.rowOf
  unfold fitsE
  simp only [hc]
  rfl
theorem cutF_is {h : Hp} {b l hh m : Nat} {L : List Value} (r : h.Row b 4 L) : cutF 3 1 (some ⟨b, 0, none⟩) false l hh m h = sliceOf (some ⟨b, 0, none⟩) 1 l hh m h := by
  unfold cutF
  cases l with
  | zero => rfl
  | succ l =>
    show (bif fitsE 3 (some ⟨b, 0, none⟩) h then _ else _) = _
    rw [fits_is r]; rfl
theorem cutLo_is {F : CallF} {e : Env} {h : Hp} {x y : O} {b N C l : Nat} {L : List Value} (r : h.Row b 4 L) (hx : x e = .slice (some ⟨b, 0, none⟩) N C) (hy : y e = .int .i64 (l : Int)) (hl : l ≤ N) : oCut 3 1 x (some y) none none F e h = sliceOf (some ⟨b, 0, none⟩) 1 l N C h := by
  show (match x e with | .slice a n c => bounds e n c (some y) none none (fun l hh m => cutF 3 1 a false l hh m h) | _ => .no) = _
  rw [hx]
  show (match natV (y e) with | .ok L => (bif Nat.ble L N then cutF 3 1 (some ⟨b, 0, none⟩) false L N C h else .no) | .no => .no) = _
  rw [hy, natV_cast]
  simp only
  rw [nat_ble.2 hl]
  exact cutF_is r
theorem cutLH_is {F : CallF} {e : Env} {h : Hp} {x y z : O} {b N C l hh : Nat} {L : List Value} (r : h.Row b 4 L) (hx : x e = .slice (some ⟨b, 0, none⟩) N C) (hy : y e = .int .i64 (l : Int)) (hz : z e = .int .i64 (hh : Int)) (hl : l ≤ hh) (hC : hh ≤ C) : oCut 3 1 x (some y) (some z) none F e h = sliceOf (some ⟨b, 0, none⟩) 1 l hh C h := by
  show (match x e with | .slice a n c => bounds e n c (some y) (some z) none (fun l hh m => cutF 3 1 a false l hh m h) | _ => .no) = _
  rw [hx]
  show (match natV (z e) with | .ok H => (bif Nat.ble H C then (match natV (y e) with | .ok L => (bif Nat.ble L H then cutF 3 1 (some ⟨b, 0, none⟩) false L H C h else .no) | .no => .no) else .no) | .no => .no) = _
  rw [hz, hy, natV_cast, natV_cast]
  simp only
  rw [nat_ble.2 hC, nat_ble.2 hl]
  exact cutF_is r
/-- an append for which there is room -/
theorem append_room {h : Hp} {b i C : Nat} {L ys : List Value} {u : Value} (W : h.Wf) (h256 : 256 ≤ b) (r : h.Row b 4 L) (y : h.Vals u ys) (hC : i + ys.length ≤ C) (hL : i + ys.length ≤ L.length) (ha : allOne ys = true) : appR 1 8 3 (.slice (some ⟨b, 0, none⟩) i C) u h = .ok (.slice (some ⟨b, 0, none⟩) (i + ys.length) C) (h.wr b i ys) := by
  unfold appR appendF
  simp only [y.lenV, y.src rfl, forceN_is, Nat.add_eq]
  rw [nat_ble.2 hC]
  have e2 : addOff ⟨b, 0, none⟩ (Nat.mul i 1) = ⟨b, i, none⟩ := by
    rw [show Nat.mul i 1 = i from Nat.mul_one i]
    cases i with
    | zero => rfl
    | succ n => show (⟨b, Nat.add 0 (Nat.succ n), none⟩ : Addr) = _; rw [Nat.add_eq, Nat.zero_add]
  simp only [e2]
  rw [r.store W h256 hL ha]
noncomputable def clearR (zero : List Value) (v : Value) (h : Hp) : R := match v with
  | .slice none _ _ => okNone h
  | .slice (some a) n _ => match n with
    | 0 => okNone h
    | Nat.succ k => storeL a (repL zero (Nat.succ k)) h okNone
  | _ => .no
theorem oClear_is {F : CallF} {e : Env} {h : Hp} {z : List Value} {x : O} : oClear z x F e h = clearR z (x e) h := rfl
theorem delete_is {n : Nat} {h0 h : Hp} (x0 : h0.Ext h) {b i : Nat} {zs : List Int} (r : h.Row b 4 (ints .i64 zs)) (hb : h0.next ≤ b) (hb2 : 256 ≤ b) (hi : i < zs.length) (hl : zs.length < 900000) :
    ∃ h' L', call bodies (n + 1) 34 [.slice (some ⟨b, 0, none⟩) zs.length zs.length, .int .i64 (i : Int), .int .i64 ((i + 1 : Nat) : Int)] h = .ok (.slice (some ⟨b, 0, none⟩) (zs.length - 1) zs.length) h' ∧ h0.Ext h' ∧ h'.Row b 4 L' ∧ L'.length = zs.length ∧ L'.take (zs.length - 1) = ints .i64 (zs.take i ++ zs.drop (i + 1)) ∧ ∀ b' el L, b' ≠ b → h.Row b' el L → h'.Row b' el L := by
  have W := x0.wf
  have Wm := W.marked
  have rm : h.marked.Row b 4 (ints .i64 zs) := r.same rfl
  have rq : h.marked.quiet.Row b 4 (ints .i64 zs) := r.same rfl
  -- what is behind it
  obtain ⟨v25, hv25, Y⟩ : ∃ v25, sliceOf (some ⟨b, 0, none⟩) 1 (i + 1) zs.length zs.length h.marked = .ok v25 h.marked ∧ h.marked.quiet.Vals v25 (ints .i64 (zs.drop (i + 1))) := by
    rcases Nat.lt_or_ge (i + 1) zs.length with h1 | h1
    · refine ⟨_, sliceOf_lt h1, .inr ⟨b, i + 1, zs.length - (i + 1), 4, ints .i64 zs, ?_, rq, ?_, ?_⟩⟩
      · rw [ints_len, List.length_drop]
      · rw [ints_len, ints_len, List.length_drop]; omega
      · have e : ints .i64 (zs.drop (i + 1)) = (ints .i64 zs).drop (i + 1) := List.map_drop ..
        rw [e, List.take_of_length_le (Nat.le_refl _)]
    · have e : zs.length = i + 1 := by omega
      rw [e]
      refine ⟨_, sliceOf_eq, .inr ⟨b, 0, 0, 4, ints .i64 zs, ?_, rq, ?_, ?_⟩⟩
      · rw [List.drop_of_length_le (by omega)]; rfl
      · rw [List.drop_of_length_le (by omega)]; simp [ints]
      · rw [List.drop_of_length_le (by omega)]; rfl
  have hyl : (ints .i64 (zs.drop (i + 1))).length = zs.length - (i + 1) := by rw [ints_len, List.length_drop]
  have ap := append_room (C := zs.length) Wm.quiet hb2 rq Y (i := i) (by rw [hyl]; omega) (by rw [hyl, ints_len]; omega) (allOne_ints _ _)
  have hsum : i + (ints .i64 (zs.drop (i + 1))).length = zs.length - 1 := by rw [hyl]; omega
  rw [hsum] at ap
  have ho : i + (ints .i64 (zs.drop (i + 1))).length ≤ (ints .i64 zs).length := by rw [hyl, ints_len]; omega
  have x1 := rq.wr_ext x0.marked.quiet hb (off := i) (vs := ints .i64 (zs.drop (i + 1))) ho
  have r1 := rq.wr_self Wm.quiet (off := i) (vs := ints .i64 (zs.drop (i + 1))) ho
  have f1 : ∀ b' el L, b' ≠ b → h.Row b' el L → (h.marked.quiet.wr b i (ints .i64 (zs.drop (i + 1)))).Row b' el L := fun b' el L hne q => rq.wr_other Wm.quiet (off := i) (vs := ints .i64 (zs.drop (i + 1))) ho (q.same rfl) hne
  have q1 : ∀ (F : CallF) (e : Env), slotG 22 e = .slice (some ⟨b, 0, none⟩) i zs.length → slotG 25 e = v25 → oQuiet .free (oAppend 1 8 3 (slotG 22) (slotG 25)) F e h.marked = .ok (.slice (some ⟨b, 0, none⟩) (zs.length - 1) zs.length) (h.marked.back (h.marked.quiet.wr b i (ints .i64 (zs.drop (i + 1))))) := fun F e h1 h2 => quiet_free (by rw [oAppend_is, h1, h2]; exact ap)
  have x2 : h0.Ext (h.marked.back (h.marked.quiet.wr b i (ints .i64 (zs.drop (i + 1))))) := x0.marked.back2 x1
  have r2 : (h.marked.back (h.marked.quiet.wr b i (ints .i64 (zs.drop (i + 1))))).Row b 4 (over (ints .i64 zs) i (ints .i64 (zs.drop (i + 1)))) := r1.same rfl
  have f2 : ∀ b' el L, b' ≠ b → h.Row b' el L → (h.marked.back (h.marked.quiet.wr b i (ints .i64 (zs.drop (i + 1))))).Row b' el L := fun b' el L hne q => (f1 b' el L hne q).same rfl
  generalize h.marked.back (h.marked.quiet.wr b i (ints .i64 (zs.drop (i + 1)))) = m at q1 x2 r2 f2
  -- the last place is cleared
  have hol : (over (ints .i64 zs) i (ints .i64 (zs.drop (i + 1)))).length = zs.length := by rw [over_length ho, ints_len]
  have ho2 : (zs.length - 1) + [Value.int .i64 0].length ≤ (over (ints .i64 zs) i (ints .i64 (zs.drop (i + 1)))).length := by rw [hol]; simp; omega
  have x3 := r2.wr_ext x2 hb (off := zs.length - 1) (vs := [.int .i64 0]) ho2
  have r3 := r2.wr_self x2.wf (off := zs.length - 1) (vs := [.int .i64 0]) ho2
  have f3 : ∀ b' el L, b' ≠ b → h.Row b' el L → (m.wr b (zs.length - 1) [.int .i64 0]).Row b' el L := fun b' el L hne q => r2.wr_other x2.wf (off := zs.length - 1) (vs := [.int .i64 0]) ho2 (f2 b' el L hne q) hne
  have cl : clearR ty3.zero (.slice (some ⟨b, zs.length - 1, none⟩) 1 1) m = .ok noRes (m.wr b (zs.length - 1) [.int .i64 0]) := by
    have hz : repL ty3.zero 1 = [.int .i64 0] := zero3
    show storeL ⟨b, zs.length - 1, none⟩ (repL ty3.zero 1) m okNone = _
    rw [hz, r2.store x2.wf hb2 ho2 rfl]; rfl
  have s31 : sliceOf (some ⟨b, 0, none⟩) 1 (zs.length - 1) zs.length zs.length m = .ok (.slice (some ⟨b, zs.length - 1, none⟩) 1 1) m := by
    have := sliceOf_lt (h := m) (b := b) (hh := zs.length) (show zs.length - 1 < zs.length by omega)
    rw [show zs.length - (zs.length - 1) = 1 by omega] at this
    exact this
  refine ⟨m.wr b (zs.length - 1) [.int .i64 0], _, ?_, x3, r3, ?_, ?_, f3⟩
  · have k1 : ∀ (F : CallF) (e : Env), slotG 0 e = .slice (some ⟨b, 0, none⟩) zs.length zs.length → slotG 1 e = .int .i64 (i : Int) → slotG 2 e = .int .i64 ((i + 1 : Nat) : Int) → slotG 12 e = .int .i64 (zs.length : Int) → oCut 3 1 (slotG 0) (some (slotG 1)) (some (slotG 2)) (some (slotG 12)) F e h = .ok (.slice (some ⟨b, i, none⟩) 1 (zs.length - i)) h := fun F e q0 q1 q2 q3 => by
      have := cut3_is (F := F) (el := 3) (h := h) q0 q1 q2 q3 (Nat.le_succ i) hi hi
      rw [show i + 1 - i = 1 by omega] at this
      exact this
    have k2 : ∀ (F : CallF) (e : Env), slotG 0 e = .slice (some ⟨b, 0, none⟩) zs.length zs.length → slotG 1 e = .int .i64 (i : Int) → oCut 3 1 (slotG 0) none (some (slotG 1)) none F e h.marked = .ok (.slice (some ⟨b, 0, none⟩) i zs.length) h.marked := fun F e q0 q1 => cutE_is q0 q1 hi
    have k3 : ∀ (F : CallF) (e : Env), slotG 0 e = .slice (some ⟨b, 0, none⟩) zs.length zs.length → slotG 2 e = .int .i64 ((i + 1 : Nat) : Int) → oCut 3 1 (slotG 0) (some (slotG 2)) none none F e h.marked = .ok v25 h.marked := fun F e q0 q2 => (cutLo_is rm q0 q2 hi).trans hv25
    have k4 : ∀ (F : CallF) (e : Env), slotG 0 e = .slice (some ⟨b, 0, none⟩) (zs.length - 1) zs.length → slotG 29 e = .int .i64 ((zs.length - 1 : Nat) : Int) → slotG 7 e = .int .i64 (zs.length : Int) → oCut 3 1 (slotG 0) (some (slotG 29)) (some (slotG 7)) none F e m = .ok (.slice (some ⟨b, zs.length - 1, none⟩) 1 1) m := fun F e q0 q29 q7 => (cutLH_is r2 q0 q29 q7 (by omega) (Nat.le_refl _)).trans s31
    have ln : ∀ (a : Option Addr) (N C : Nat) (g : Hp), lenSR (.slice a N C) g = .ok (.int .i64 (N : Int)) g := fun _ _ _ _ => rfl
    have c1 : iEq (i : Int) ((i + 1 : Nat) : Int) = false := by rw [iEq_is, beq_eq_false_iff_ne]; omega
    rw [call34 rfl]
    unfold d34
    simp only [setArgs_cons, setArgs_nil, Nat.succ_eq_add_one, Nat.zero_add, Nat.reduceAdd, cOp_is, cDo_is, cCond_is, cSeq_is, cBlock_is, cNorm_is, cRet_is, cExit_is, opX_ok, doX_ok, condX_true, condX_false, seqX_norm, seqX_exit, seqX_ret, blockX_norm, blockX_ret, blockX_exit, oMove_is, kV_is, slot_set, Nat.reduceLT, Nat.reduceEqDiff, if_true, if_false, reduceIte, oLenS_is, ln, k1, oCmp_is, cmpR_is, c1, marked_is, k2, k3, q1, k4, oClear_is, cl, leave_ret, finish_1]
  · rw [over_length ho2, hol]
  · have hml : i ≤ zs.length := by omega
    unfold over
    have e1 : ((List.take i (ints .i64 zs) ++ ints .i64 (zs.drop (i + 1)) ++ List.drop (i + (ints .i64 (zs.drop (i + 1))).length) (ints .i64 zs)).take (zs.length - 1)) = List.take i (ints .i64 zs) ++ ints .i64 (zs.drop (i + 1)) := by
      rw [List.take_left' (by rw [List.length_append, List.length_take, hyl, ints_len]; omega)]
    rw [e1, List.append_assoc, List.take_left' (by rw [List.length_append, List.length_take, hyl, ints_len]; omega)]
    unfold ints
    rw [List.map_append, List.map_take, List.map_drop]

/-! ### Mended -/
/-- a slice of numbers that begins a row of numbers -/
def Hp.Sl4 (h : Hp) (w : Value) (zs : List Int) : Prop := (w = .slice none 0 0 ∧ zs = []) ∨ ∃ b c L, w = .slice (some ⟨b, 0, none⟩) zs.length c ∧ h.Row b 4 L ∧ zs.length ≤ L.length ∧ L.take zs.length = ints .i64 zs
theorem Hp.Sl4.vals {h : Hp} {w : Value} {zs : List Int} (s : h.Sl4 w zs) : h.Vals w (ints .i64 zs) := by
  rcases s with ⟨h1, h2⟩ | ⟨b, c, L, h1, h2, h3, h4⟩
  · exact .inl ⟨h1, by rw [h2]; rfl⟩
  · exact .inr ⟨b, 0, c, 4, L, by rw [ints_len]; exact h1, h2, by rw [ints_len]; omega, by rw [ints_len, List.drop_zero]; exact h4⟩
theorem Hp.Sl4.keep {h h' : Hp} {w : Value} {zs : List Int} (s : h.Sl4 w zs) (hk : ∀ b L, h.Row b 4 L → h'.Row b 4 L) : h'.Sl4 w zs := by
  rcases s with h1 | ⟨b, c, L, h1, h2, h3⟩
  · exact .inl h1
  · exact .inr ⟨b, c, L, h1, hk b L h2, h3⟩
theorem Hp.Sl4.ext {h h' : Hp} {w : Value} {zs : List Int} (s : h.Sl4 w zs) (W : h.Wf) (x : h.Ext h') : h'.Sl4 w zs := s.keep fun _ _ r => r.ext W x
theorem Hp.Own.sl4 {h : Hp} {k : Nat} {w : Value} {zs : List Int} (o : h.Own k 3 w (ints .i64 zs)) : h.Sl4 w zs := by
  rcases o with ⟨h1, h2⟩ | ⟨b, h1, h2, _⟩
  · refine .inl ⟨h1, ?_⟩
    cases zs with
    | nil => rfl
    | cons z l => cases h2
  · rw [ints_len] at h1
    exact .inr ⟨b, zs.length, _, h1, h2, by rw [ints_len]; omega, by rw [← ints_len (k := .i64), List.take_length]⟩
noncomputable def mdB : C := (cOp (slotT 18) (oLoadN 3 (slotG 2))
(cDo (oStore 3 (slotG 4) (slotG 18))
(cOp (slotT 5) (oMove (kV (.int .i64 167)))
cRet)))
noncomputable def mdO : C := (cOp (slotT 19) (oFieldAddr 2 (slotG 2))
(cOp (slotT 20) (oLoad1 (slotG 19))
(cOp (slotT 21) (oCall 35 [(slotG 20)])
(cOp (slotT 24) (oAdd .i64 (topOf .i64) (slotG 6) (kV (.int .i64 1)))
(cOp (slotT 25) (oCall 34 [(slotG 21), (slotG 6), (slotG 24)])
(cOp (slotT 26) (oFieldAddr 2 (slotG 2))
(cDo (oStore 1 (slotG 26) (slotG 25))
(cOp (slotT 27) (oLoadN 3 (slotG 2))
(cDo (oStore 3 (slotG 4) (slotG 27))
(cOp (slotT 5) (oMove (kV (.int .i64 0)))
cRet))))))))))
noncomputable def d12h : C := (cOp (slotT 2) (oBox (slotG 0))
(cOp (slotT 4) (oAlloc 3 zt31)
(cOp (slotT 5) (oMove (kV (.int .i64 0)))
(cOp (slotT 7) (oFieldAddr 2 (slotG 2))
(cOp (slotT 8) (oLoad1 (slotG 7))
(cOp (slotT 10) (oCall 33 [(slotG 8), (slotG 1)])
(cOp (slotT 6) (oMove (slotG 10))
(cOp (slotT 11) (oLoadN 3 (slotG 2))
(cOp (slotT 12) (oCall 9 [(slotG 11)])
(cOp (slotT 13) (oNot (slotG 12))
(cG (slotG 13) false (slotT 15) (oMove (slotG 6))
(cG (slotG 13) false (slotT 16) (oCmp iLt .i64 (slotG 15) (kV (.int .i64 0)))
(cOp (slotT 17) (oPick (slotG 13) (kV (.bool true)) (slotG 16))
(cCond (slotG 17)
mdB
mdO))))))))))))))
theorem d12_is : d12 = d12h := rfl
theorem mended_pre {n : Nat} {h : Hp} (W : h.Wf) {f t x : Int} {u : Value} {zs : List Int} (V : h.Vals u (ints .i64 zs)) (hl : zs.length < 900000) (hr : rightB f t zs = true) :
    ∃ e g, d12h (call bodies (n + 2)) (setArgs e0 0 [mvV f t u, .int .i64 x]) h = (if x ∈ zs then mdO else mdB) (call bodies (n + 2)) e g ∧ h.Ext g ∧ g.Row h.next 0 [.int .i64 f, .int .i64 t, u] ∧ g.Row (h.next + 1) 0 [.int .i64 0, .int .i64 0, .slice none 0 0] ∧
      slotG 2 e = .pointer (some ⟨h.next, 0, none⟩) ∧ slotG 4 e = .pointer (some ⟨h.next + 1, 0, none⟩) ∧ slotG 6 e = .int .i64 (idxZ x 0 zs) := by
  have R := Hp.Row.new W 0 [.int .i64 f, .int .i64 t, u]
  have x1 := (Hp.Ext.refl W).pushRow 0 [.int .i64 f, .int .i64 t, u]
  have n1 : (h.pushRow 0 [.int .i64 f, .int .i64 t, u]).next = h.next + 1 := rfl
  have hbx : ∀ e : Env, slotG 0 e = mvV f t u → oBox (slotG 0) (call bodies (n + 2)) e h = .ok (.pointer (some ⟨h.next, 0, none⟩)) (h.pushRow 0 [.int .i64 f, .int .i64 t, u]) := fun e he => by rw [oBox_is, he, boxR_is W]; rfl
  generalize h.pushRow 0 [.int .i64 f, .int .i64 t, u] = h1 at R x1 hbx n1
  have y2 := (Hp.Ext.refl x1.wf).push (.cells zt31 3 0)
  have x2 := x1.trans y2
  have S : (h1.push (.cells zt31 3 0)).Row h1.next 0 [.int .i64 0, .int .i64 0, .slice none 0 0] := Hp.Row.alloc x1.wf zt31_is rfl
  have al := fun (e : Env) => oAlloc_is (F := call bodies (n + 2)) (e := e) (n := 3) (t := zt31) x1.wf
  have R2 := R.ext x1.wf y2
  rw [n1] at S al
  generalize h1.push (.cells zt31 3 0) = h2 at y2 x2 S al R2
  have l2 : load1 ⟨h.next, 2, none⟩ h2 = .ok u h2 := R2.load1 (off := 2) (by simp)
  have l3 : loadN 3 ⟨h.next, 0, none⟩ h2 = .ok (mvV f t u) h2 := R2.loadN (by simp)
  have k1 := index_is (n := n + 1) (x := x) (V.ext W x2) hl
  have k2 := right_is (n := n) x2.wf (V.ext W x2) hl (f := f) (t := t)
  rw [hr] at k2
  have y3 := right_ext x2.wf (f := f) (t := t) (u := u)
  have x3 := x2.trans y3
  have R3 := R2.ext x2.wf y3
  have S3 := S.ext x2.wf y3
  generalize h2.pushRow 0 [.int .i64 f, .int .i64 t, u] = h3 at k2 y3 x3 R3 S3
  by_cases hx : x ∈ zs
  · have c1 : iLt (idxZ x 0 zs) 0 = false := by
      rw [iLt_is, decide_eq_false]
      have := (idxZ_ge x zs).2 hx
      omega
    rw [if_pos hx]
    unfold d12h
    simp only [setArgs_cons, setArgs_nil, Nat.succ_eq_add_one, Nat.zero_add, Nat.reduceAdd, cOp_is, cCond_is, opX_ok, condX_false, oMove_is, kV_is, slot_set, Nat.reduceLT, Nat.reduceEqDiff, if_true, if_false, reduceIte, cG_is, guardX_tt, guardX_tf, guardX_ft, guardX_ff, guardX_none, skipC_is, oPick_is, pickR_true, pickR_false, hbx, al, oFieldAddr_is', fieldAR_is, oLoad1_is, loadR_is, l2, oCall_is, vals_cons, vals_nil, k1, oLoadN_is, loadsR_is, l3, k2, oNot_is, notR_is, Bool.not_true, oCmp_is, cmpR_is, c1]
    exact ⟨_, _, rfl, x3, R3, S3, by simp only [slot_set, Nat.reduceLT, Nat.reduceEqDiff, if_true, if_false, reduceIte], by simp only [slot_set, Nat.reduceLT, Nat.reduceEqDiff, if_true, if_false, reduceIte], by simp only [slot_set, Nat.reduceLT, Nat.reduceEqDiff, if_true, if_false, reduceIte]⟩
  · have c1 : iLt (idxZ x 0 zs) 0 = true := by rw [idxZ_no hx]; rfl
    rw [if_neg hx]
    unfold d12h
    simp only [setArgs_cons, setArgs_nil, Nat.succ_eq_add_one, Nat.zero_add, Nat.reduceAdd, cOp_is, cCond_is, opX_ok, condX_true, oMove_is, kV_is, slot_set, Nat.reduceLT, Nat.reduceEqDiff, if_true, if_false, reduceIte, cG_is, guardX_tt, guardX_tf, guardX_ft, guardX_ff, guardX_none, skipC_is, oPick_is, pickR_true, pickR_false, hbx, al, oFieldAddr_is', fieldAR_is, oLoad1_is, loadR_is, l2, oCall_is, vals_cons, vals_nil, k1, oLoadN_is, loadsR_is, l3, k2, oNot_is, notR_is, Bool.not_true, oCmp_is, cmpR_is, c1]
    exact ⟨_, _, rfl, x3, R3, S3, by simp only [slot_set, Nat.reduceLT, Nat.reduceEqDiff, if_true, if_false, reduceIte], by simp only [slot_set, Nat.reduceLT, Nat.reduceEqDiff, if_true, if_false, reduceIte], by simp only [slot_set, Nat.reduceLT, Nat.reduceEqDiff, if_true, if_false, reduceIte]⟩
theorem mended_no {n : Nat} {h : Hp} (W : h.Wf) {f t x : Int} {u : Value} {zs : List Int} (V : h.Vals u (ints .i64 zs)) (hl : zs.length < 900000) (hr : rightB f t zs = true) (hx : x ∉ zs) :
    ∃ h', call bodies (n + 3) 12 [mvV f t u, .int .i64 x] h = .ok (.tuple ⟨[mvV f t u, .int .i64 167]⟩) h' ∧ h.Ext h' := by
  obtain ⟨e, g, p1, xg, R, S, s2, s4, s6⟩ := mended_pre (n := n) W (x := x) V hl hr
  rw [if_neg hx] at p1
  obtain ⟨u1, u2⟩ := V.cells1
  have l3 : loadN 3 ⟨h.next, 0, none⟩ g = .ok (mvV f t u) g := R.loadN (by simp)
  have big := W.big
  have ho : 0 + (cellsOf (mvV f t u)).length ≤ [Value.int .i64 0, .int .i64 0, .slice none 0 0].length := by simp [mvV, cells_agg]
  have st := S.storeR (n := 3) (off := 0) xg.wf (by omega) (v := mvV f t u) rfl ho (by show (bif oneCell u then true else false) = true; rw [u2]; rfl)
  have x2 := S.wr_ext xg (Nat.le_succ _) (off := 0) (vs := cellsOf (mvV f t u)) ho
  have S2 := S.wr_self xg.wf (off := 0) (vs := cellsOf (mvV f t u)) ho
  generalize g.wr (h.next + 1) 0 (cellsOf (mvV f t u)) = g2 at st x2 S2
  have lr : loadN 3 ⟨h.next + 1, 0, none⟩ g2 = .ok (mvV f t u) g2 := S2.loadN (by simp [over, mvV, cells_agg])
  have hrun : ∃ e2, mdB (call bodies (n + 2)) e g = .ret e2 g2 ∧ slotG 4 e2 = .pointer (some ⟨h.next + 1, 0, none⟩) ∧ slotG 5 e2 = .int .i64 167 := by
    unfold mdB
    simp only [cOp_is, cDo_is, cCond_is, cSeq_is, cBlock_is, cNorm_is, cRet_is, cExit_is, opX_ok, doX_ok, condX_true, condX_false, seqX_norm, seqX_exit, seqX_ret, blockX_norm, blockX_ret, blockX_exit, oMove_is, kV_is, slot_set, Nat.reduceLT, Nat.reduceEqDiff, if_true, if_false, reduceIte, oLoadN_is, s2, loadsR_is, l3, oStore_is, s4, st]
    exact ⟨_, rfl, by simp only [slot_set, Nat.reduceLT, Nat.reduceEqDiff, if_true, if_false, reduceIte, s4], by simp only [slot_set, Nat.reduceLT, Nat.reduceEqDiff, if_true, if_false, reduceIte]⟩
  obtain ⟨e2, r1, r2, r3⟩ := hrun
  refine ⟨g2, ?_, x2⟩
  rw [call12 rfl, d12_is, p1, r1, leave_ret, finish_2c (v := mvV f t u) (by rw [r2]; exact lr), r3]
theorem mended_ok {n : Nat} {h : Hp} (W : h.Wf) {f t x : Int} {u : Value} {zs : List Int} (V : h.Vals u (ints .i64 zs)) (hl : zs.length < 900000) (hr : rightB f t zs = true) (hx : x ∈ zs) :
    ∃ h' w k, k < zs.length ∧ zs.getD k 0 = x ∧ call bodies (n + 3) 12 [mvV f t u, .int .i64 x] h = .ok (.tuple ⟨[mvV f t w, .int .i64 0]⟩) h' ∧ h.Ext h' ∧ h'.Sl4 w (zs.take k ++ zs.drop (k + 1)) := by
  obtain ⟨e, g, p1, xg, R, S, s2, s4, s6⟩ := mended_pre (n := n) W (x := x) V hl hr
  rw [if_pos hx] at p1
  obtain ⟨k, hk, hkz, hkx⟩ := idxZ_at hx
  rw [hkz] at s6
  have big := W.big
  have l2 : load1 ⟨h.next, 2, none⟩ g = .ok u g := R.load1 (off := 2) (by simp)
  obtain ⟨g2, v2, c1, x2, o2, n2, f2⟩ := clone_is (n := n + 1) (h0 := h) xg (k := h.next) xg.next (V.ext W xg) (by omega) hl
  obtain ⟨b, hv, Rb, hb, hb2⟩ : ∃ b, v2 = .slice (some ⟨b, 0, none⟩) zs.length zs.length ∧ g2.Row b 4 (ints .i64 zs) ∧ h.next ≤ b ∧ 256 ≤ b := by
    rcases o2 with ⟨_, h2⟩ | ⟨b, h1, h2, h3, h4⟩
    · have := congrArg List.length h2
      rw [ints_len, List.length_nil] at this; omega
    · rw [ints_len] at h1; exact ⟨b, h1, h2, h3, h4⟩
  have R2 := (f2 _ _ _ R).1
  have S2 := (f2 _ _ _ S).1
  have ad : addR .i64 (.int .i64 (k : Int)) (.int .i64 1) g2 = .ok (.int .i64 ((k + 1 : Nat) : Int)) g2 := by
    have : (k : Int) + 1 = ((k + 1 : Nat) : Int) := by omega
    rw [addR_is, this, wrap_nat (by omega)]
  obtain ⟨g3, L', d1, x3, Rb3, hL', hLt, f3⟩ := delete_is (n := n + 1) x2 Rb hb hb2 hk hl
  have R3 := f3 _ _ _ (kind_ne R2 Rb (by omega)) R2
  have S3 := f3 _ _ _ (kind_ne S2 Rb (by omega)) S2
  have st1 := R3.storeR (n := 1) (off := 2) x3.wf big (v := .slice (some ⟨b, 0, none⟩) (zs.length - 1) zs.length) rfl (by simp [cellsOf]) rfl
  have x4 := R3.wr_ext x3 (Nat.le_refl _) (off := 2) (vs := cellsOf (.slice (some ⟨b, 0, none⟩) (zs.length - 1) zs.length)) (by simp [cellsOf])
  have R4 := R3.wr_self x3.wf (off := 2) (vs := cellsOf (.slice (some ⟨b, 0, none⟩) (zs.length - 1) zs.length)) (by simp [cellsOf])
  have S4 := R3.wr_other x3.wf (off := 2) (vs := cellsOf (.slice (some ⟨b, 0, none⟩) (zs.length - 1) zs.length)) (by simp [cellsOf]) S3 (by omega)
  have Rb4 := R3.wr_other x3.wf (off := 2) (vs := cellsOf (.slice (some ⟨b, 0, none⟩) (zs.length - 1) zs.length)) (by simp [cellsOf]) Rb3 (kind_ne Rb3 R3 (by omega))
  generalize g3.wr h.next 2 (cellsOf (.slice (some ⟨b, 0, none⟩) (zs.length - 1) zs.length)) = g4 at st1 x4 R4 S4 Rb4
  have R4 : g4.Row h.next 0 [.int .i64 f, .int .i64 t, .slice (some ⟨b, 0, none⟩) (zs.length - 1) zs.length] := R4
  have l4 : loadN 3 ⟨h.next, 0, none⟩ g4 = .ok (mvV f t (.slice (some ⟨b, 0, none⟩) (zs.length - 1) zs.length)) g4 := R4.loadN (by simp)
  have ho : 0 + (cellsOf (mvV f t (.slice (some ⟨b, 0, none⟩) (zs.length - 1) zs.length))).length ≤ [Value.int .i64 0, .int .i64 0, .slice none 0 0].length := by simp [mvV, cells_agg]
  have st2 := S4.storeR (n := 3) (off := 0) x4.wf (by omega) (v := mvV f t (.slice (some ⟨b, 0, none⟩) (zs.length - 1) zs.length)) rfl ho rfl
  have x5 := S4.wr_ext x4 (Nat.le_succ _) (off := 0) (vs := cellsOf (mvV f t (.slice (some ⟨b, 0, none⟩) (zs.length - 1) zs.length))) ho
  have S5 := S4.wr_self x4.wf (off := 0) (vs := cellsOf (mvV f t (.slice (some ⟨b, 0, none⟩) (zs.length - 1) zs.length))) ho
  have Rb5 := S4.wr_other x4.wf (off := 0) (vs := cellsOf (mvV f t (.slice (some ⟨b, 0, none⟩) (zs.length - 1) zs.length))) ho Rb4 (kind_ne Rb4 S4 (by omega))
  generalize g4.wr (h.next + 1) 0 (cellsOf (mvV f t (.slice (some ⟨b, 0, none⟩) (zs.length - 1) zs.length))) = g5 at st2 x5 S5 Rb5
  have lr : loadN 3 ⟨h.next + 1, 0, none⟩ g5 = .ok (mvV f t (.slice (some ⟨b, 0, none⟩) (zs.length - 1) zs.length)) g5 := S5.loadN (by simp [over, mvV, cells_agg])
  have hrun : ∃ e2, mdO (call bodies (n + 2)) e g = .ret e2 g5 ∧ slotG 4 e2 = .pointer (some ⟨h.next + 1, 0, none⟩) ∧ slotG 5 e2 = .int .i64 0 := by
    rw [hv] at c1
    unfold mdO
    simp only [cOp_is, cDo_is, cCond_is, cSeq_is, cBlock_is, cNorm_is, cRet_is, cExit_is, opX_ok, doX_ok, condX_true, condX_false, seqX_norm, seqX_exit, seqX_ret, blockX_norm, blockX_ret, blockX_exit, oMove_is, kV_is, slot_set, Nat.reduceLT, Nat.reduceEqDiff, if_true, if_false, reduceIte, oFieldAddr_is', s2, fieldAR_is, oLoad1_is, loadR_is, Nat.zero_add, l2, oCall_is, vals_cons, vals_nil, c1, oAdd_is, s6, ad, d1, oStore_is, st1, oLoadN_is, loadsR_is, l4, s4, st2]
    exact ⟨_, rfl, by simp only [slot_set, Nat.reduceLT, Nat.reduceEqDiff, if_true, if_false, reduceIte, s4], by simp only [slot_set, Nat.reduceLT, Nat.reduceEqDiff, if_true, if_false, reduceIte]⟩
  obtain ⟨e2, r1, r2, r3⟩ := hrun
  have hll : (zs.take k ++ zs.drop (k + 1)).length = zs.length - 1 := by rw [List.length_append, List.length_take, List.length_drop]; omega
  refine ⟨g5, _, k, hk, hkx, ?_, x5, .inr ⟨b, zs.length, L', by rw [hll], Rb5, by rw [hll, hL']; omega, by rw [hll]; exact hLt⟩⟩
  rw [call12 rfl, d12_is, p1, r1, leave_ret, finish_2c (v := mvV f t (.slice (some ⟨b, 0, none⟩) (zs.length - 1) zs.length)) (by rw [r2]; exact lr), r3]
end Go.Proofs.Ytkafejncffinmaa
set_option linter.unusedVariables false
set_option linter.unusedSimpArgs false
namespace Go.Proofs.Ytkafejncffinmaa
open Go
theorem rising_iff : ∀ (zs : List Int) (p : Int), risingL p zs = true ↔ (∀ z ∈ zs, 0 ≤ z ∧ z ≤ 1099511627776 ∧ p < z) ∧ zs.Pairwise (· < ·)
  | [], p => ⟨fun _ => ⟨(fun z h => by cases h), .nil⟩, fun _ => rfl⟩
  | n :: l, p => by
    have e : risingL p (n :: l) = (decide (0 ≤ n ∧ n ≤ 1099511627776 ∧ p < n) && risingL n l) := rfl
    rw [e, Bool.and_eq_true, decide_eq_true_eq, rising_iff l n]
    constructor
    · rintro ⟨h1, h2, h3⟩
      refine ⟨fun z hz => ?_, List.pairwise_cons.2 ⟨fun z hz => (h2 z hz).2.2, h3⟩⟩
      rcases List.mem_cons.1 hz with rfl | hz
      · exact h1
      · have := h2 z hz; omega
    · rintro ⟨h1, h2⟩
      obtain ⟨h3, h4⟩ := List.pairwise_cons.1 h2
      exact ⟨h1 n List.mem_cons_self, fun z hz => by have := h1 z (List.mem_cons_of_mem _ hz); have := h3 z hz; omega, h4⟩
theorem rising_sub {p : Int} {zs ys : List Int} (h : risingL p zs = true) (hs : ys.Sublist zs) : risingL p ys = true := by
  obtain ⟨h1, h2⟩ := (rising_iff zs p).1 h
  exact (rising_iff ys p).2 ⟨fun z hz => h1 z (hs.subset hz), h2.sublist hs⟩
theorem cut_sub (zs : List Int) {k : Nat} (hk : k < zs.length) : (zs.take k ++ zs.drop (k + 1)).Sublist zs := by
  have e : zs = zs.take k ++ zs.getD k 0 :: zs.drop (k + 1) := by rw [← drop_at hk, List.take_append_drop]
  conv => rhs; rw [e]
  exact List.Sublist.append_left (List.sublist_cons_self _ _) _
theorem cut_not {p : Int} {zs : List Int} (h : risingL p zs = true) {k : Nat} (hk : k < zs.length) : zs.getD k 0 ∉ zs.take k ++ zs.drop (k + 1) := by
  obtain ⟨_, h2⟩ := (rising_iff zs p).1 h
  have e : zs = zs.take k ++ zs.getD k 0 :: zs.drop (k + 1) := by rw [← drop_at hk, List.take_append_drop]
  rw [e] at h2
  obtain ⟨_, h3, h4⟩ := List.pairwise_append.1 h2
  obtain ⟨h5, _⟩ := List.pairwise_cons.1 h3
  intro hm
  rcases List.mem_append.1 hm with hm | hm
  · have := h4 _ hm _ List.mem_cons_self
    omega
  · have := h5 _ hm
    omega
theorem cut_len {zs : List Int} {k : Nat} (hk : k < zs.length) : (zs.take k ++ zs.drop (k + 1)).length = zs.length - 1 := by
  rw [List.length_append, List.length_take, List.length_drop]; omega
theorem right_cut {f t : Int} {zs : List Int} (h : rightB f t zs = true) {k : Nat} (hk : k < zs.length) : rightB f t (zs.take k ++ zs.drop (k + 1)) = true := by
  obtain ⟨h1, h2, h3, h4, h5, h6, h7⟩ := right_parts h
  unfold rightB
  rw [rising_sub h7 (cut_sub zs hk), cut_len hk, decide_eq_true (by omega)]; rfl
/-- the flags that are set -/
def flagL : Nat → List Bool → List Int
  | _, [] => []
  | i, b :: l => if b = true then (i : Int) :: flagL (i + 1) l else flagL (i + 1) l
theorem flag_mem : ∀ (l : List Bool) (i : Nat) (z : Int), z ∈ flagL i l → (i : Int) ≤ z ∧ z < ((i + l.length : Nat) : Int)
  | [], i, z, h => by cases h
  | b :: l, i, z, h => by
    have h : z ∈ (if b = true then (i : Int) :: flagL (i + 1) l else flagL (i + 1) l) := h
    have ih : z ∈ flagL (i + 1) l → (i : Int) ≤ z ∧ z < ((i + (l.length + 1) : Nat) : Int) := fun hz => by
      have := flag_mem l (i + 1) z hz
      omega
    by_cases hb : b = true
    · rw [if_pos hb] at h
      rcases List.mem_cons.1 h with rfl | h
      · exact ⟨by omega, by show _ < ((i + (l.length + 1) : Nat) : Int); omega⟩
      · exact ih h
    · rw [if_neg hb] at h; exact ih h
theorem flag_up : ∀ (l : List Bool) (i : Nat), (flagL i l).Pairwise (· < ·)
  | [], i => .nil
  | b :: l, i => by
    show (if b = true then (i : Int) :: flagL (i + 1) l else flagL (i + 1) l).Pairwise (· < ·)
    by_cases hb : b = true
    · rw [if_pos hb]
      exact List.pairwise_cons.2 ⟨fun z hz => by have := (flag_mem l (i + 1) z hz).1; omega, flag_up l (i + 1)⟩
    · rw [if_neg hb]; exact flag_up l (i + 1)
theorem flag_len : ∀ (l : List Bool) (i : Nat), (flagL i l).length ≤ l.length
  | [], i => Nat.le_refl _
  | b :: l, i => by
    show (if b = true then (i : Int) :: flagL (i + 1) l else flagL (i + 1) l).length ≤ l.length + 1
    have := flag_len l (i + 1)
    by_cases hb : b = true
    · rw [if_pos hb, List.length_cons]; omega
    · rw [if_neg hb]; omega
theorem flag_rising {l : List Bool} (hl : l.length ≤ 60) : risingL (-1) (flagL 0 l) = true :=
  (rising_iff _ _).2 ⟨fun z hz => by have := flag_mem l 0 z hz; omega, flag_up l 0⟩
theorem nodes_mem {N n g : Nat} {z : Int} (hN : 0 < N) (h : z ∈ nodesL N n g) : 0 ≤ z ∧ z < N := by
  unfold nodesL at h
  obtain ⟨i, _, rfl⟩ := List.mem_map.1 h
  have := Nat.mod_lt (g + i) hN
  omega
theorem mod_inj {N g i j : Nat} (hi : i < j) (hj : j < N) (h : (g + i) % N = (g + j) % N) : False := by
  have h1 := Nat.div_add_mod (g + i) N
  have h2 := Nat.div_add_mod (g + j) N
  rw [h] at h1
  have h3 : N * ((g + j) / N) = N * ((g + i) / N) + (j - i) := by omega
  have h4 : (g + i) / N ≤ (g + j) / N := Nat.div_le_div_right (by omega)
  obtain ⟨d, hd⟩ := Nat.exists_eq_add_of_le h4
  rw [hd, Nat.mul_add] at h3
  have h5 : N * d = j - i := by omega
  cases d with
  | zero => rw [Nat.mul_zero] at h5; omega
  | succ d => rw [Nat.mul_succ] at h5; omega
theorem nodes_nodup {N g : Nat} : ∀ n, n ≤ N → (nodesL N n g).Nodup
  | 0, _ => .nil
  | n + 1, h => by
    rw [nodesL_succ]
    refine List.pairwise_append.2 ⟨nodes_nodup n (by omega), List.pairwise_singleton _ _, fun a ha b hb => ?_⟩
    rw [List.mem_singleton] at hb
    subst hb
    unfold nodesL at ha
    obtain ⟨i, hi, rfl⟩ := List.mem_map.1 ha
    have hi := List.mem_range.1 hi
    intro hx
    exact mod_inj (N := N) (g := g) (i := i) (j := n) hi (by omega) (by omega)
theorem okPl_first {N n g : Nat} (hN : 0 < N) (hN2 : N ≤ 20) (hn0 : 0 < n) (hn : n ≤ N) : okPl 1 (nodesL N n g) := by
  refine ⟨by omega, by omega, by rw [nodesL_len]; omega, by rw [nodesL_len]; omega, fun z hz => ?_, nodes_nodup n hn⟩
  have := nodes_mem hN hz
  omega
theorem left_mem {gs all : List Int} {N : Nat} {z : Int} : z ∈ leftL gs N all ↔ z ∈ all ∧ ((z.toNat % N : Nat) : Int) ∈ gs := by
  unfold leftL
  rw [List.mem_filter, decide_eq_true_eq]
theorem right_left {gs all : List Int} {N : Nat} {a : Int} (h0 : 0 ≤ a) (h1 : a < 25) (hr : risingL (-1) all = true) (hl : all.length ≤ 60) : rightB a 30 (leftL gs N all) = true := by
  have hs : (leftL gs N all).Sublist all := List.filter_sublist
  have := hs.length_le
  unfold rightB
  rw [rising_sub hr hs, decide_eq_true (by omega)]; rfl
end Go.Proofs.Ytkafejncffinmaa
set_option linter.unusedVariables false
set_option linter.unusedSimpArgs false
namespace Go.Proofs.Ytkafejncffinmaa
open Go
set_option maxRecDepth 100000

/-! ### flags -/
noncomputable def loB : C := (cOp (slotT 57) (oLenS (slotG 2))
(cOp (slotT 58) (oCmp iLt .i64 (slotG 13) (slotG 57))
(cG (slotG 58) true (slotT 60) (oMove (slotG 13))
(cG (slotG 58) true (slotT 61) (oCmp iLt .i64 (slotG 60) (kV (.int .i64 60)))
(cOp (slotT 62) (oPick (slotG 58) (slotG 61) (kV (.bool false)))
(cCond (slotG 62)
(cSeq (cBlock 1 (cOp (slotT 67) (oIdx 1 (slotG 2) (slotG 13))
(cOp (slotT 68) (oLoad1 (slotG 67))
(cCond (slotG 68)
(cOp (slotT 71) (oBuildSlice 1 (repL ty3.zero 1) [(0, 1, (slotG 13))])
(cOp (slotT 72) (oAppend 1 8 3 (slotG 12) (slotG 71))
(cOp (slotT 12) (oMove (slotG 72))
cNorm)))
cNorm))))
(cOp (slotT 64) (oAdd .i64 (topOf .i64) (slotG 13) (kV (.int .i64 1)))
(cOp (slotT 13) (oMove (slotG 64))
cNorm)))
(cExit 0)))))))
def keepL (e e2 : Env) : Prop := slotG 1 e2 = slotG 1 e ∧ slotG 2 e2 = slotG 2 e ∧ slotG 3 e2 = slotG 3 e ∧ slotG 10 e2 = slotG 10 e
theorem keepL.trans {a b c : Env} : keepL a b → keepL b c → keepL a c := fun ⟨p, q, r, s⟩ ⟨p', q', r', s'⟩ => ⟨p'.trans p, q'.trans q, r'.trans r, s'.trans s⟩
theorem lo_loop {F : CallF} {hA h : Hp} (WA : hA.Wf) (x : hA.Ext h) {u : Value} {bs : List Bool} (V : hA.Vals u (bs.map Value.bool)) {e : Env} (s2 : slotG 2 e = u) (s12 : slotG 12 e = .slice none 0 0) (s13 : slotG 13 e = .int .i64 0) :
    ∃ e2 g w, cLoop loB F e h = .exit 0 e2 g ∧ hA.Ext g ∧ g.Own hA.next 3 w (ints .i64 (flagL 0 (bs.take 60))) ∧ slotG 12 e2 = w ∧ keepL e e2 := by
  have Vl : ∀ h' : Hp, hA.Ext h' → lenSR u h' = .ok (.int .i64 (bs.length : Int)) h' := fun h' y => by have := (V.ext WA y).len; rwa [List.length_map] at this
  refine loop_run (I := fun i e' h' => ∃ w ys, hA.Ext h' ∧ h'.Own hA.next 3 w (ints .i64 ys) ∧ ys ++ flagL i ((bs.take 60).drop i) = flagL 0 (bs.take 60) ∧ ys.length ≤ i ∧ i ≤ 60 ∧ slotG 2 e' = u ∧ slotG 12 e' = w ∧ slotG 13 e' = .int .i64 (i : Int) ∧ keepL e e')
    (Q := fun y => ∃ e2 g w, y = .exit 0 e2 g ∧ hA.Ext g ∧ g.Own hA.next 3 w (ints .i64 (flagL 0 (bs.take 60))) ∧ slotG 12 e2 = w ∧ keepL e e2) 60 (by omega)
    (fun i e' h' ⟨w, ys, ex, o, hy, hyl, hi, t2, t12, t13, kp⟩ => ?_) ⟨_, [], x, .inl ⟨rfl, rfl⟩, rfl, Nat.le_refl _, Nat.zero_le _, s2, s12, s13, rfl, rfl, rfl, rfl⟩
  have vl := Vl h' ex
  by_cases hlt : i < bs.length
  · have c1 : iLt (i : Int) (bs.length : Int) = true := by rw [iLt_is]; simp; omega
    by_cases h60 : i < 60
    · left
      have c2 : iLt (i : Int) 60 = true := by rw [iLt_is]; simp; omega
      obtain ⟨a, g1, g2⟩ := (V.ext WA ex).at (i := i) (by rw [List.length_map]; exact hlt)
      have hb : (bs.map Value.bool).getD i noRes = .bool bs[i] := by
        rw [List.getD_eq_getElem?_getD, List.getElem?_map, List.getElem?_eq_getElem hlt]; rfl
      have hd : (bs.take 60).drop i = bs[i] :: (bs.take 60).drop (i + 1) := by
        have h1 : i < (bs.take 60).length := by rw [List.length_take]; omega
        rw [List.drop_eq_getElem_cons h1, List.getElem_take]
      rw [hb] at g2
      rw [hd] at hy
      generalize bs[i] = b at g2 hy
      have hy : ys ++ (if b = true then (i : Int) :: flagL (i + 1) ((bs.take 60).drop (i + 1)) else flagL (i + 1) ((bs.take 60).drop (i + 1))) = flagL 0 (bs.take 60) := hy
      cases b with
      | true =>
        rw [if_pos rfl] at hy
        have os : ∀ e : Env, slotG 13 e = .int .i64 (i : Int) → oBuildSlice 1 (repL ty3.zero 1) [(0, 1, slotG 13)] F e h' = .ok (.slice (some ⟨h'.next, 0, none⟩) 1 1) (h'.pushRow 0 [.int .i64 (i : Int)]) := fun e he => by rw [zero3]; exact one_slice ex.wf he rfl rfl
        obtain ⟨h2, w2, a1, a2, a3, a4, a5⟩ := own_one (eb := 8) (n := (i : Int)) (kd := .i64) ex (Nat.le_refl _) ex.next o (by rw [ints_len]; omega)
        have a3 : h2.Own hA.next 3 w2 (ints .i64 (ys ++ [(i : Int)])) := by unfold ints; rw [List.map_append]; exact a3
        have ad : addR .i64 (.int .i64 (i : Int)) (.int .i64 1) h2 = .ok (.int .i64 ((i + 1 : Nat) : Int)) h2 := by
          have : (i : Int) + 1 = ((i + 1 : Nat) : Int) := by omega
          rw [addR_is, this, wrap_nat (by omega)]
        have hrun : ∃ e2, loB F e' h' = .norm e2 h2 ∧ slotG 2 e2 = u ∧ slotG 12 e2 = w2 ∧ slotG 13 e2 = .int .i64 ((i + 1 : Nat) : Int) ∧ keepL e' e2 := by
          unfold loB keepL
          simp only [cOp_is, cDo_is, cCond_is, cSeq_is, cBlock_is, cNorm_is, cRet_is, cExit_is, opX_ok, doX_ok, condX_true, condX_false, seqX_norm, seqX_exit, seqX_ret, blockX_norm, blockX_ret, blockX_exit, oMove_is, kV_is, slot_set, Nat.reduceLT, Nat.reduceEqDiff, if_true, if_false, reduceIte, cG_is, guardX_tt, guardX_tf, guardX_ft, guardX_ff, guardX_none, skipC_is, oPick_is, pickR_true, pickR_false, oLenS_is, t2, vl, oCmp_is, cmpR_is, t13, c1, c2, oIdx_is, g1, oLoad1_is, g2, os, oAppend_is, t12, a1, oAdd_is, ad]
          exact ⟨_, rfl, by simp only [slot_set, Nat.reduceLT, Nat.reduceEqDiff, if_true, if_false, reduceIte]; exact t2, by simp only [slot_set, Nat.reduceLT, Nat.reduceEqDiff, if_true, if_false, reduceIte], by simp only [slot_set, Nat.reduceLT, Nat.reduceEqDiff, if_true, if_false, reduceIte], by simp only [slot_set, Nat.reduceLT, Nat.reduceEqDiff, if_true, if_false, reduceIte], by simp only [slot_set, Nat.reduceLT, Nat.reduceEqDiff, if_true, if_false, reduceIte, t2], by simp only [slot_set, Nat.reduceLT, Nat.reduceEqDiff, if_true, if_false, reduceIte], by simp only [slot_set, Nat.reduceLT, Nat.reduceEqDiff, if_true, if_false, reduceIte]⟩
        obtain ⟨e2, r1, r2, r3, r4, r5⟩ := hrun
        exact ⟨h60, e2, h2, r1, w2, ys ++ [(i : Int)], a2, a3, by rw [← hy]; simp, by rw [List.length_append, List.length_singleton]; omega, h60, r2, r3, r4, kp.trans r5⟩
      | false =>
        rw [if_neg (by decide)] at hy
        have ad : addR .i64 (.int .i64 (i : Int)) (.int .i64 1) h' = .ok (.int .i64 ((i + 1 : Nat) : Int)) h' := by
          have : (i : Int) + 1 = ((i + 1 : Nat) : Int) := by omega
          rw [addR_is, this, wrap_nat (by omega)]
        have hrun : ∃ e2, loB F e' h' = .norm e2 h' ∧ slotG 2 e2 = u ∧ slotG 12 e2 = w ∧ slotG 13 e2 = .int .i64 ((i + 1 : Nat) : Int) ∧ keepL e' e2 := by
          unfold loB keepL
          simp only [cOp_is, cDo_is, cCond_is, cSeq_is, cBlock_is, cNorm_is, cRet_is, cExit_is, opX_ok, doX_ok, condX_true, condX_false, seqX_norm, seqX_exit, seqX_ret, blockX_norm, blockX_ret, blockX_exit, oMove_is, kV_is, slot_set, Nat.reduceLT, Nat.reduceEqDiff, if_true, if_false, reduceIte, cG_is, guardX_tt, guardX_tf, guardX_ft, guardX_ff, guardX_none, skipC_is, oPick_is, pickR_true, pickR_false, oLenS_is, t2, vl, oCmp_is, cmpR_is, t13, c1, c2, oIdx_is, g1, oLoad1_is, g2, oAdd_is, ad]
          exact ⟨_, rfl, by simp only [slot_set, Nat.reduceLT, Nat.reduceEqDiff, if_true, if_false, reduceIte]; exact t2, by simp only [slot_set, Nat.reduceLT, Nat.reduceEqDiff, if_true, if_false, reduceIte]; exact t12, by simp only [slot_set, Nat.reduceLT, Nat.reduceEqDiff, if_true, if_false, reduceIte], by simp only [slot_set, Nat.reduceLT, Nat.reduceEqDiff, if_true, if_false, reduceIte], by simp only [slot_set, Nat.reduceLT, Nat.reduceEqDiff, if_true, if_false, reduceIte, t2], by simp only [slot_set, Nat.reduceLT, Nat.reduceEqDiff, if_true, if_false, reduceIte], by simp only [slot_set, Nat.reduceLT, Nat.reduceEqDiff, if_true, if_false, reduceIte]⟩
        obtain ⟨e2, r1, r2, r3, r4, r5⟩ := hrun
        exact ⟨h60, e2, h', r1, w, ys, ex, o, hy, by omega, h60, r2, r3, r4, kp.trans r5⟩
    · right
      have c2 : iLt (i : Int) 60 = false := by rw [iLt_is]; simp; omega
      have hrun : ∃ e2, loB F e' h' = .exit 0 e2 h' ∧ slotG 12 e2 = w ∧ keepL e' e2 := by
        unfold loB keepL
        simp only [cOp_is, cDo_is, cCond_is, cSeq_is, cBlock_is, cNorm_is, cRet_is, cExit_is, opX_ok, doX_ok, condX_true, condX_false, seqX_norm, seqX_exit, seqX_ret, blockX_norm, blockX_ret, blockX_exit, oMove_is, kV_is, slot_set, Nat.reduceLT, Nat.reduceEqDiff, if_true, if_false, reduceIte, cG_is, guardX_tt, guardX_tf, guardX_ft, guardX_ff, guardX_none, skipC_is, oPick_is, pickR_true, pickR_false, oLenS_is, t2, vl, oCmp_is, cmpR_is, t13, c1, c2]
        exact ⟨_, rfl, by simp only [slot_set, Nat.reduceLT, Nat.reduceEqDiff, if_true, if_false, reduceIte]; exact t12, by simp only [slot_set, Nat.reduceLT, Nat.reduceEqDiff, if_true, if_false, reduceIte], by simp only [slot_set, Nat.reduceLT, Nat.reduceEqDiff, if_true, if_false, reduceIte, t2], by simp only [slot_set, Nat.reduceLT, Nat.reduceEqDiff, if_true, if_false, reduceIte], by simp only [slot_set, Nat.reduceLT, Nat.reduceEqDiff, if_true, if_false, reduceIte]⟩
      obtain ⟨e2, r1, r2, r3⟩ := hrun
      rw [r1]
      rw [List.drop_of_length_le (by rw [List.length_take]; omega)] at hy
      have hy : ys ++ [] = flagL 0 (bs.take 60) := hy
      rw [List.append_nil] at hy
      rw [hy] at o
      exact ⟨rfl, e2, h', w, rfl, ex, o, r2, kp.trans r3⟩
  · right
    have c1 : iLt (i : Int) (bs.length : Int) = false := by rw [iLt_is]; simp; omega
    have hrun : ∃ e2, loB F e' h' = .exit 0 e2 h' ∧ slotG 12 e2 = w ∧ keepL e' e2 := by
      unfold loB keepL
      simp only [cOp_is, cDo_is, cCond_is, cSeq_is, cBlock_is, cNorm_is, cRet_is, cExit_is, opX_ok, doX_ok, condX_true, condX_false, seqX_norm, seqX_exit, seqX_ret, blockX_norm, blockX_ret, blockX_exit, oMove_is, kV_is, slot_set, Nat.reduceLT, Nat.reduceEqDiff, if_true, if_false, reduceIte, cG_is, guardX_tt, guardX_tf, guardX_ft, guardX_ff, guardX_none, skipC_is, oPick_is, pickR_true, pickR_false, oLenS_is, t2, vl, oCmp_is, cmpR_is, t13, c1]
      exact ⟨_, rfl, by simp only [slot_set, Nat.reduceLT, Nat.reduceEqDiff, if_true, if_false, reduceIte]; exact t12, by simp only [slot_set, Nat.reduceLT, Nat.reduceEqDiff, if_true, if_false, reduceIte], by simp only [slot_set, Nat.reduceLT, Nat.reduceEqDiff, if_true, if_false, reduceIte, t2], by simp only [slot_set, Nat.reduceLT, Nat.reduceEqDiff, if_true, if_false, reduceIte], by simp only [slot_set, Nat.reduceLT, Nat.reduceEqDiff, if_true, if_false, reduceIte]⟩
    obtain ⟨e2, r1, r2, r3⟩ := hrun
    rw [r1]
    rw [List.drop_of_length_le (by rw [List.length_take]; omega)] at hy
    have hy : ys ++ [] = flagL 0 (bs.take 60) := hy
    rw [List.append_nil] at hy
    rw [hy] at o
    exact ⟨rfl, e2, h', w, rfl, ex, o, r2, kp.trans r3⟩

/-! ### what is left, as a map -/
def keep7 (e e2 : Env) : Prop := slotG 3 e2 = slotG 3 e ∧ slotG 10 e2 = slotG 10 e ∧ slotG 12 e2 = slotG 12 e ∧ slotG 14 e2 = slotG 14 e ∧ slotG 16 e2 = slotG 16 e ∧ slotG 18 e2 = slotG 18 e
theorem keep7.trans {a b c : Env} : keep7 a b → keep7 b c → keep7 a c := fun ⟨p, q, r, s, t, u⟩ ⟨p', q', r', s', t', u'⟩ => ⟨p'.trans p, q'.trans q, r'.trans r, s'.trans s, t'.trans t, u'.trans u⟩
noncomputable def mpB : C := (cOp (slotT 103) (oCmp iLt .i64 (slotG 102) (slotG 101))
(cCond (slotG 103)
(cSeq (cBlock 3 (cOp (slotT 104) (oIdx 1 (slotG 100) (slotG 102))
(cOp (slotT 105) (oLoad1 (slotG 104))
(cOp (slotT 20) (oMove (slotG 105))
(cDo (oUpdate ⟨false, [.i .i64]⟩ (slotG 18) (slotG 20) (kV (.int .i64 1)))
cNorm)))))
(cOp (slotT 108) (oAdd .i64 (topOf .i64) (slotG 102) (kV (.int .i64 1)))
(cOp (slotT 102) (oMove (slotG 108))
cNorm)))
(cExit 2)))
theorem mp_loop {F : CallF} {hA h : Hp} (WA : hA.Wf) (x : hA.Ext h) {r : Nat} {w : Value} {zs : List Int} (V : hA.Vals w (ints .i64 zs)) (hr : hA.next ≤ r) (M : h.MapZ r []) (hz : ∀ z ∈ zs, 0 ≤ z ∧ z ≤ 1099511627776) (hn : zs.Nodup) (hl : zs.length ≤ 1000) {e : Env}
    (s18 : slotG 18 e = .map (some r)) (s100 : slotG 100 e = w) (s101 : slotG 101 e = .int .i64 (zs.length : Int)) (s102 : slotG 102 e = .int .i64 0) :
    ∃ e2 g, cLoop mpB F e h = .exit 2 e2 g ∧ hA.Ext g ∧ g.MapZ r zs ∧ keep7 e e2 := by
  have hbig : 256 ≤ r := Nat.le_trans WA.big hr
  refine loop_run (I := fun i e' h' => hA.Ext h' ∧ h'.MapZ r (zs.take i) ∧ i ≤ zs.length ∧ slotG 18 e' = .map (some r) ∧ slotG 100 e' = w ∧ slotG 101 e' = .int .i64 (zs.length : Int) ∧ slotG 102 e' = .int .i64 (i : Int) ∧ keep7 e e')
    (Q := fun y => ∃ e2 g, y = .exit 2 e2 g ∧ hA.Ext g ∧ g.MapZ r zs ∧ keep7 e e2) zs.length (by omega)
    (fun i e' h' ⟨ex, m, hi, t18, t100, t101, t102, kp⟩ => ?_) ⟨x, M, Nat.zero_le _, s18, s100, s101, s102, rfl, rfl, rfl, rfl, rfl, rfl⟩
  by_cases hlt : i < zs.length
  · left
    obtain ⟨a, g1, g2⟩ := (V.ext WA ex).int hlt
    have hzm : zs.getD i 0 ∈ zs := by rw [List.getD_eq_getElem?_getD, List.getElem?_eq_getElem hlt]; exact List.getElem_mem hlt
    have hnb := not_before hn hlt
    have hst := take_step zs i hlt
    obtain ⟨z0, z1⟩ := hz _ hzm
    generalize zs.getD i 0 = z at g2 hzm hnb hst z0 z1
    obtain ⟨c, rfl⟩ := Int.eq_ofNat_of_zero_le z0
    have okt : okZ (zs.take i) := fun y hy => by have := hz y (List.mem_of_mem_take hy); omega
    obtain ⟨h2, u1, u2, u3, u4, u5⟩ := m.put ex hr hbig okt (n := c) (by omega) hnb
    rw [← hst] at u3
    have c1 : iLt (i : Int) (zs.length : Int) = true := by rw [iLt_is]; simp; omega
    have a3 : addR .i64 (.int .i64 (i : Int)) (.int .i64 1) h2 = .ok (.int .i64 ((i + 1 : Nat) : Int)) h2 := by
      have : (i : Int) + 1 = ((i + 1 : Nat) : Int) := by omega
      rw [addR_is, this, wrap_nat (by omega)]
    have hrun : ∃ e2, mpB F e' h' = .norm e2 h2 ∧ slotG 18 e2 = .map (some r) ∧ slotG 100 e2 = w ∧ slotG 101 e2 = .int .i64 (zs.length : Int) ∧ slotG 102 e2 = .int .i64 ((i + 1 : Nat) : Int) ∧ keep7 e' e2 := by
      unfold mpB keep7
      simp only [cOp_is, cDo_is, cCond_is, cSeq_is, cBlock_is, cNorm_is, cRet_is, cExit_is, opX_ok, doX_ok, condX_true, condX_false, seqX_norm, seqX_exit, seqX_ret, blockX_norm, blockX_ret, blockX_exit, oMove_is, kV_is, slot_set, Nat.reduceLT, Nat.reduceEqDiff, if_true, if_false, reduceIte, oCmp_is, cmpR_is, t102, t101, c1, oIdx_is, t100, g1, oLoad1_is, g2, oUpdate_is, t18, u1, oAdd_is, a3]
      exact ⟨_, rfl, by simp only [slot_set, Nat.reduceLT, Nat.reduceEqDiff, if_true, if_false, reduceIte]; exact t18, by simp only [slot_set, Nat.reduceLT, Nat.reduceEqDiff, if_true, if_false, reduceIte]; exact t100, by simp only [slot_set, Nat.reduceLT, Nat.reduceEqDiff, if_true, if_false, reduceIte]; exact t101, by simp only [slot_set, Nat.reduceLT, Nat.reduceEqDiff, if_true, if_false, reduceIte], by simp only [slot_set, Nat.reduceLT, Nat.reduceEqDiff, if_true, if_false, reduceIte], by simp only [slot_set, Nat.reduceLT, Nat.reduceEqDiff, if_true, if_false, reduceIte], by simp only [slot_set, Nat.reduceLT, Nat.reduceEqDiff, if_true, if_false, reduceIte], by simp only [slot_set, Nat.reduceLT, Nat.reduceEqDiff, if_true, if_false, reduceIte], by simp only [slot_set, Nat.reduceLT, Nat.reduceEqDiff, if_true, if_false, reduceIte], by simp only [slot_set, Nat.reduceLT, Nat.reduceEqDiff, if_true, if_false, reduceIte, t18]⟩
    obtain ⟨e2, r1, r2, r3, r4, r5, r6⟩ := hrun
    exact ⟨hlt, e2, h2, r1, u2, u3, hlt, r2, r3, r4, r5, kp.trans r6⟩
  · right
    have c1 : iLt (i : Int) (zs.length : Int) = false := by rw [iLt_is]; simp; omega
    have hrun : ∃ e2, mpB F e' h' = .exit 2 e2 h' ∧ keep7 e' e2 := by
      unfold mpB keep7
      simp only [cOp_is, cDo_is, cCond_is, cSeq_is, cBlock_is, cNorm_is, cRet_is, cExit_is, opX_ok, doX_ok, condX_true, condX_false, seqX_norm, seqX_exit, seqX_ret, blockX_norm, blockX_ret, blockX_exit, oMove_is, kV_is, slot_set, Nat.reduceLT, Nat.reduceEqDiff, if_true, if_false, reduceIte, oCmp_is, cmpR_is, t102, t101, c1]
      exact ⟨_, rfl, by simp only [slot_set, Nat.reduceLT, Nat.reduceEqDiff, if_true, if_false, reduceIte], by simp only [slot_set, Nat.reduceLT, Nat.reduceEqDiff, if_true, if_false, reduceIte], by simp only [slot_set, Nat.reduceLT, Nat.reduceEqDiff, if_true, if_false, reduceIte], by simp only [slot_set, Nat.reduceLT, Nat.reduceEqDiff, if_true, if_false, reduceIte], by simp only [slot_set, Nat.reduceLT, Nat.reduceEqDiff, if_true, if_false, reduceIte], by simp only [slot_set, Nat.reduceLT, Nat.reduceEqDiff, if_true, if_false, reduceIte]⟩
    obtain ⟨e2, r1, r2⟩ := hrun
    rw [r1]
    rw [List.take_of_length_le (by omega)] at m
    exact ⟨rfl, e2, h', rfl, ex, m, kp.trans r2⟩

/-! ### each stripe is held against its placement -/
theorem ty4k : ty4.k = .bool := by kernel_rfl
noncomputable def eqBR (neg : Bool) (a b : Value) (h : Hp) : R := match eqV .bool a b with
  | some r => okB (neg != r) h
  | none => .no
theorem oEq_is {F : CallF} {e : Env} {h : Hp} {x y : O} {neg : Bool} : oEq ty4.k neg x y F e h = eqBR neg (x e) (y e) h := by rw [ty4k]; rfl
theorem eqBR_is {h : Hp} {neg c d : Bool} : eqBR neg (.bool c) (.bool d) h = .ok (.bool (neg != (c == d))) h := okB_is
theorem oldX_map {F : CallF} {e : Env} {h : Hp} {r : Nat} {k : C} (hr : r < h.mark) : oldX (.map (some r)) k F e h = k F e h := by
  show (bif Nat.blt r h.mark then k F e h else .no) = _
  rw [nat_blt.2 hr]; rfl
noncomputable def ckB : C := (cOp (slotT 112) (oCmp iLt .i64 (slotG 111) (slotG 110))
(cCond (slotG 112)
(cSeq (cBlock 5 (cOp (slotT 113) (oIdx 1 (slotG 109) (slotG 111))
(cOp (slotT 114) (oLoad1 (slotG 113))
(cOp (slotT 22) (oMove (slotG 114))
(cOp (slotT 118) (oCall 10 [(slotG 10), (slotG 22)])
(cOp (slotT 119) (oExtract 0 (slotG 118))
(cOp (slotT 120) (oExtract 1 (slotG 118))
(cOp (slotT 23) (oAlloc 2 zt37)
(cDo (oStore 2 (slotG 23) (slotG 119))
(cOp (slotT 24) (oMove (slotG 120))
(cMark (cOp (slotT 122) (oNot (slotG 24))
(cG (slotG 122) false (slotT 124) (oMove (slotG 18))
(cG (slotG 122) false (slotT 125) (oMove (slotG 22))
(cOld (slotG 124) (cChk (slotG 124) []
(cG (slotG 122) false (slotT 126) (oLookup ⟨false, [.i .i64]⟩ (.int .i64 0) false (slotG 124) (slotG 125))
(cG (slotG 122) false (slotT 127) (oCmp iEq .i64 (slotG 126) (kV (.int .i64 1)))
(cG (slotG 122) false (slotT 128) (oLoadN 2 (slotG 23))
(cG (slotG 122) false (slotT 129) (oMove (slotG 14))
(cG (slotG 122) false (slotT 130) (oQuiet .weak (oCall 11 [(slotG 128), (slotG 129)]))
(cG (slotG 122) false (slotT 131) (oCmp iGe .i64 (slotG 130) (kV (.int .i64 0)))
(cG (slotG 122) false (slotT 132) (oEq ty4.k true (slotG 127) (slotG 131))
(cOp (slotT 133) (oPick (slotG 122) (kV (.bool true)) (slotG 132))
(cCond (slotG 133)
(cOp (slotT 8) (oMove (kV (.bool false)))
cRet)
cNorm)))))))))))))))))))))))))
(cOp (slotT 134) (oAdd .i64 (topOf .i64) (slotG 111) (kV (.int .i64 1)))
(cOp (slotT 111) (oMove (slotG 134))
cNorm)))
(cExit 4)))
theorem ck_round {n : Nat} {hC h' : Hp} (WC : hC.Wf) (ex : hC.Ext h') {k k' r i z : Nat} {v wa : Value} {ws : List Pw} {x : Pw} {zs all : List Int} {a : Int} (d : hC.Pls k v ws) (D : hC.Nds k' ws) (hp : 0 < ws.length) (hl : ws.length ≤ 1000) (M : hC.MapZ r zs) (hz : okZ zs) (V : hC.Vals wa (ints .i64 all)) (hlt : i < all.length) (hal : all.length ≤ 60) (hai : all.getD i 0 = (z : Int)) (hz60 : z ≤ 1000)
    (hx : ws[z % ws.length]? = some x) (hx1 : 0 < x.2.2.length) (hx2 : x.2.2.length ≤ 255) (hsame : (z : Int) ∈ zs ↔ a ∈ x.2.2) {e : Env}
    (s10 : slotG 10 e = v) (s14 : slotG 14 e = .int .i64 a) (s18 : slotG 18 e = .map (some r)) (s109 : slotG 109 e = wa) (s110 : slotG 110 e = .int .i64 (all.length : Int)) (s111 : slotG 111 e = .int .i64 (i : Int)) :
    ∃ e2 g, ckB (call bodies (n + 3)) e h' = .norm e2 g ∧ hC.Ext g ∧ slotG 109 e2 = wa ∧ slotG 110 e2 = .int .i64 (all.length : Int) ∧ slotG 111 e2 = .int .i64 ((i + 1 : Nat) : Int) ∧ keep7 e e2 := by
  have W := ex.wf
  obtain ⟨q, g1, g2⟩ := (V.ext WC ex).int hlt
  rw [hai] at g2
  obtain ⟨h1, w, k1, y1, V1⟩ := of_is (n := n) W (d.ext WC ex) (D.ext WC ex) hp hl (s := z) (by omega) hx hx1 hx2
  have x1 := ex.trans y1
  obtain ⟨w1, w2⟩ := V1.cells1
  -- its cell
  have y2 := (Hp.Ext.refl x1.wf).push (.cells zt37 2 0)
  have x2 := x1.trans y2
  have Rc : (h1.push (.cells zt37 2 0)).Row h1.next 0 [.int .i64 0, .slice none 0 0] := Hp.Row.alloc x1.wf zt37_is rfl
  have al := fun (e : Env) => oAlloc_is (F := call bodies (n + 3)) (e := e) (n := 2) (t := zt37) x1.wf
  have n2 : (h1.push (.cells zt37 2 0)).next = h1.next + 1 := rfl
  generalize h1.push (.cells zt37 2 0) = h2 at y2 x2 Rc al n2
  have ho : 0 + (cellsOf (plV x.1 w)).length ≤ [Value.int .i64 0, .slice none 0 0].length := by simp [plV, cells_agg]
  have st := Rc.storeR (n := 2) (off := 0) x2.wf x1.wf.big (v := plV x.1 w) rfl ho (by show (bif oneCell w then true else false) = true; rw [w2]; rfl)
  have y3 := Rc.wr_ext y2 (Nat.le_refl _) (off := 0) (vs := cellsOf (plV x.1 w)) ho
  have R3 := Rc.wr_self x2.wf (off := 0) (vs := cellsOf (plV x.1 w)) ho
  generalize h2.wr h1.next 0 (cellsOf (plV x.1 w)) = h3 at st y3 R3
  have R3 : h3.Row h1.next 0 [.int .i64 x.1, w] := R3
  have x3 := x1.trans y3
  have V3 := V1.ext x1.wf y3
  have M3 := M.ext WC x3
  have hrlt := M3.lt x3.wf
  -- the region
  have Mm : h3.marked.MapZ r zs := M3.same rfl
  have lk := Mm.look hz (n := z) (by omega)
  have ld : loadN 2 ⟨h1.next, 0, none⟩ h3.marked = .ok (plV x.1 w) h3.marked := (R3.same (h' := h3.marked) rfl).loadN (by simp)
  have Wq := x3.wf.marked.quiet
  have pi := pindex_is (n := n + 1) (x := a) Wq (ep := x.1) (V3.same (h' := h3.marked.quiet) rfl) (by omega)
  have yq := pl_ext Wq (ep := x.1) (w := w)
  have q1 : ∀ e : Env, slotG 128 e = plV x.1 w → slotG 129 e = .int .i64 a → oQuiet .weak (oCall 11 [slotG 128, slotG 129]) (call bodies (n + 3)) e h3.marked = .ok (.int .i64 (idxZ a 0 x.2.2)) (h3.marked.back (h3.marked.quiet.pushRow 0 [.int .i64 x.1, w])) := fun e h1 h2 => quiet_is (by simp only [oCall_is, vals_cons, vals_nil, h1, h2]; exact pi) yq (Nat.le_refl _)
  have x4 : hC.Ext (h3.marked.back (h3.marked.quiet.pushRow 0 [.int .i64 x.1, w])) := x3.marked.trans yq.back
  generalize h3.marked.back (h3.marked.quiet.pushRow 0 [.int .i64 x.1, w]) = h4 at q1 x4
  have c1 : iLt (i : Int) (all.length : Int) = true := by rw [iLt_is]; simp; omega
  have c2 : iEq (if (z : Int) ∈ zs then 1 else 0) 1 = decide (a ∈ x.2.2) := by
    by_cases hm : (z : Int) ∈ zs
    · rw [if_pos hm, decide_eq_true (hsame.1 hm)]; rfl
    · rw [if_neg hm, decide_eq_false (fun h => hm (hsame.2 h))]; rfl
  have c3 : (true != (decide (a ∈ x.2.2) == decide (a ∈ x.2.2))) = false := by simp
  have hold : r < h3.marked.mark := hrlt
  have ad : addR .i64 (.int .i64 (i : Int)) (.int .i64 1) h4 = .ok (.int .i64 ((i + 1 : Nat) : Int)) h4 := by
    have : (i : Int) + 1 = ((i + 1 : Nat) : Int) := by omega
    rw [addR_is, this, wrap_nat (by omega)]
  have hrun : ∃ e2, ckB (call bodies (n + 3)) e h' = .norm e2 h4 ∧ slotG 109 e2 = wa ∧ slotG 110 e2 = .int .i64 (all.length : Int) ∧ slotG 111 e2 = .int .i64 ((i + 1 : Nat) : Int) ∧ keep7 e e2 := by
    unfold ckB keep7
    simp only [cOp_is, cDo_is, cCond_is, cSeq_is, cBlock_is, cNorm_is, cRet_is, cExit_is, opX_ok, doX_ok, condX_true, condX_false, seqX_norm, seqX_exit, seqX_ret, blockX_norm, blockX_ret, blockX_exit, oMove_is, kV_is, slot_set, Nat.reduceLT, Nat.reduceEqDiff, if_true, if_false, reduceIte, cG_is, guardX_tt, guardX_tf, guardX_ft, guardX_ff, guardX_none, skipC_is, oPick_is, pickR_true, pickR_false, oCmp_is, cmpR_is, s111, s110, c1, oIdx_is, s109, g1, oLoad1_is, g2, oCall_is, vals_cons, vals_nil, s10, k1, oExtract_is, extractR_0, extractR_1, al, oStore_is, st, marked_is, oNot_is, notR_is, Bool.not_true, s18, s14, cOld_is, oldX_map hold, cChk_nil, oLookup_is, lk, c2, oLoadN_is, loadsR_is, ld, q1, iGe_idx, oEq_is, eqBR_is, c3, oAdd_is, ad]
    exact ⟨_, rfl, by simp only [slot_set, Nat.reduceLT, Nat.reduceEqDiff, if_true, if_false, reduceIte]; exact s109, by simp only [slot_set, Nat.reduceLT, Nat.reduceEqDiff, if_true, if_false, reduceIte]; exact s110, by simp only [slot_set, Nat.reduceLT, Nat.reduceEqDiff, if_true, if_false, reduceIte], by simp only [slot_set, Nat.reduceLT, Nat.reduceEqDiff, if_true, if_false, reduceIte], by simp only [slot_set, Nat.reduceLT, Nat.reduceEqDiff, if_true, if_false, reduceIte, s10], by simp only [slot_set, Nat.reduceLT, Nat.reduceEqDiff, if_true, if_false, reduceIte], by simp only [slot_set, Nat.reduceLT, Nat.reduceEqDiff, if_true, if_false, reduceIte, s14], by simp only [slot_set, Nat.reduceLT, Nat.reduceEqDiff, if_true, if_false, reduceIte], by simp only [slot_set, Nat.reduceLT, Nat.reduceEqDiff, if_true, if_false, reduceIte, s18]⟩
  obtain ⟨e2, r⟩ := hrun
  exact ⟨e2, h4, r.1, x4, r.2⟩
theorem ck_loop {n : Nat} {hC : Hp} (WC : hC.Wf) {k k' r : Nat} {v wa : Value} {ws : List Pw} {zs all : List Int} {a : Int} (d : hC.Pls k v ws) (D : hC.Nds k' ws) (hp : 0 < ws.length) (hl : ws.length ≤ 1000) (M : hC.MapZ r zs) (hz : okZ zs) (V : hC.Vals wa (ints .i64 all)) (hal : all.length ≤ 60) (h60 : ∀ y ∈ all, 0 ≤ y ∧ y ≤ 1000)
    (hok : ∀ x ∈ ws, 0 < x.2.2.length ∧ x.2.2.length ≤ 255) (hsame : ∀ (z : Nat) (x : Pw), (z : Int) ∈ all → ws[z % ws.length]? = some x → ((z : Int) ∈ zs ↔ a ∈ x.2.2)) {e : Env}
    (s10 : slotG 10 e = v) (s14 : slotG 14 e = .int .i64 a) (s18 : slotG 18 e = .map (some r)) (s109 : slotG 109 e = wa) (s110 : slotG 110 e = .int .i64 (all.length : Int)) (s111 : slotG 111 e = .int .i64 0) :
    ∃ e2 g, cLoop ckB (call bodies (n + 3)) e hC = .exit 4 e2 g ∧ hC.Ext g ∧ keep7 e e2 := by
  refine loop_run (I := fun i e' h' => hC.Ext h' ∧ i ≤ all.length ∧ slotG 109 e' = wa ∧ slotG 110 e' = .int .i64 (all.length : Int) ∧ slotG 111 e' = .int .i64 (i : Int) ∧ keep7 e e')
    (Q := fun y => ∃ e2 g, y = .exit 4 e2 g ∧ hC.Ext g ∧ keep7 e e2) all.length (by omega)
    (fun i e' h' ⟨ex, hi, t109, t110, t111, kp⟩ => ?_) ⟨.refl WC, Nat.zero_le _, s109, s110, s111, rfl, rfl, rfl, rfl, rfl, rfl⟩
  by_cases hlt : i < all.length
  · left
    have hzm : all.getD i 0 ∈ all := by rw [List.getD_eq_getElem?_getD, List.getElem?_eq_getElem hlt]; exact List.getElem_mem hlt
    obtain ⟨z0, z1⟩ := h60 _ hzm
    obtain ⟨z, hz'⟩ := Int.eq_ofNat_of_zero_le z0
    rw [hz'] at hzm z1
    have hm : z % ws.length < ws.length := Nat.mod_lt _ hp
    have hx : ws[z % ws.length]? = some ws[z % ws.length] := List.getElem?_eq_getElem hm
    have hxm : ws[z % ws.length] ∈ ws := List.getElem_mem hm
    obtain ⟨e2, g, r1, r2, r3, r4, r5, r6⟩ := ck_round (n := n) WC ex d D hp hl M hz V hlt hal hz' (by omega) hx (hok _ hxm).1 (hok _ hxm).2 (hsame z _ hzm hx) (kp.2.1.trans s10) (kp.2.2.2.1.trans s14) (kp.2.2.2.2.2.trans s18) t109 t110 t111
    exact ⟨hlt, e2, g, r1, r2, hlt, r3, r4, r5, kp.trans r6⟩
  · right
    have c1 : iLt (i : Int) (all.length : Int) = false := by rw [iLt_is]; simp; omega
    have hrun : ∃ e2, ckB (call bodies (n + 3)) e' h' = .exit 4 e2 h' ∧ keep7 e' e2 := by
      unfold ckB keep7
      simp only [cOp_is, cDo_is, cCond_is, cSeq_is, cBlock_is, cNorm_is, cRet_is, cExit_is, opX_ok, doX_ok, condX_true, condX_false, seqX_norm, seqX_exit, seqX_ret, blockX_norm, blockX_ret, blockX_exit, oMove_is, kV_is, slot_set, Nat.reduceLT, Nat.reduceEqDiff, if_true, if_false, reduceIte, oCmp_is, cmpR_is, t111, t110, c1]
      exact ⟨_, rfl, by simp only [slot_set, Nat.reduceLT, Nat.reduceEqDiff, if_true, if_false, reduceIte], by simp only [slot_set, Nat.reduceLT, Nat.reduceEqDiff, if_true, if_false, reduceIte], by simp only [slot_set, Nat.reduceLT, Nat.reduceEqDiff, if_true, if_false, reduceIte], by simp only [slot_set, Nat.reduceLT, Nat.reduceEqDiff, if_true, if_false, reduceIte], by simp only [slot_set, Nat.reduceLT, Nat.reduceEqDiff, if_true, if_false, reduceIte], by simp only [slot_set, Nat.reduceLT, Nat.reduceEqDiff, if_true, if_false, reduceIte]⟩
    obtain ⟨e2, r1, r2⟩ := hrun
    rw [r1]
    exact ⟨rfl, e2, h', rfl, ex, kp.trans r2⟩
end Go.Proofs.Ytkafejncffinmaa
set_option linter.unusedVariables false
set_option linter.unusedSimpArgs false
namespace Go.Proofs.Ytkafejncffinmaa
open Go
set_option maxRecDepth 100000
/-- three cells for a move -/
theorem cell3 {h g : Hp} (x : h.Ext g) {a b c : Value} (h1 : allOne [a, b, c] = true) : ∃ g', (∀ (F : CallF) (e : Env), oAlloc 3 zt31 F e g = .ok (.pointer (some ⟨g.next, 0, none⟩)) (g.push (.cells zt31 3 0))) ∧
    storeR 3 (.pointer (some ⟨g.next, 0, none⟩)) (.agg ⟨[a, b, c]⟩) (g.push (.cells zt31 3 0)) = .ok noRes g' ∧ h.Ext g' ∧ g.Ext g' ∧ g'.Row g.next 0 [a, b, c] ∧ g'.next = g.next + 1 := by
  have x2 := x.push (.cells zt31 3 0)
  have y2 := (Hp.Ext.refl x.wf).push (.cells zt31 3 0)
  have R2 : (g.push (.cells zt31 3 0)).Row g.next 0 [.int .i64 0, .int .i64 0, .slice none 0 0] := Hp.Row.alloc x.wf zt31_is rfl
  have n2 : (g.push (.cells zt31 3 0)).next = g.next + 1 := rfl
  have f2 := fun (F : CallF) (e : Env) => oAlloc_is (F := F) (e := e) (n := 3) (t := zt31) x.wf
  generalize g.push (.cells zt31 3 0) = g2 at x2 y2 R2 f2 n2
  have st := R2.storeR (n := 3) (off := 0) x2.wf x.wf.big (v := .agg ⟨[a, b, c]⟩) rfl (by simp [cells_agg]) h1
  exact ⟨_, f2, st, R2.wr_ext x2 x.next (by simp [cells_agg]), R2.wr_ext y2 (Nat.le_refl _) (by simp [cells_agg]), R2.wr_self x2.wf (by simp [cells_agg]), (R2.wr_next (by simp [cells_agg])).trans n2⟩
theorem one3 {a b w : Value} (ha : oneCell a = true) (hb : oneCell b = true) (hw : oneCell w = true) : allOne [a, b, w] = true := by
  show (bif oneCell a then (bif oneCell b then (bif oneCell w then true else false) else false) else false) = true
  rw [ha, hb, hw]; rfl
def keepR (e e2 : Env) : Prop := slotG 3 e2 = slotG 3 e ∧ slotG 16 e2 = slotG 16 e ∧ slotG 25 e2 = slotG 25 e
noncomputable def rmA : C := (cMark (cOp (slotT 151) (oIdx 1 (slotG 3) (slotG 25))
(cOp (slotT 152) (oLoad1 (slotG 151))
(cOp (slotT 153) (oConv .i64 (slotG 152))
(cOp (slotT 154) (oFieldAddr 2 (slotG 16))
(cOp (slotT 155) (oLoad1 (slotG 154))
(cOp (slotT 156) (oLenS (slotG 155))
(cOp (slotT 157) (oRem .i64 (slotG 153) (slotG 156))
(cOp (slotT 26) (oMove (slotG 157))
cNorm)))))))))
noncomputable def rmT : C := (cOp (slotT 158) (oFieldAddr 2 (slotG 16))
(cOp (slotT 159) (oLoad1 (slotG 158))
(cOp (slotT 161) (oIdx 1 (slotG 159) (slotG 26))
(cOp (slotT 162) (oLoad1 (slotG 161))
(cOp (slotT 27) (oMove (slotG 162))
(cOp (slotT 164) (oLoadN 3 (slotG 16))
(cOp (slotT 166) (oCall 12 [(slotG 164), (slotG 27)])
(cOp (slotT 167) (oExtract 0 (slotG 166))
(cOp (slotT 168) (oExtract 1 (slotG 166))
(cOp (slotT 28) (oAlloc 3 zt31)
(cDo (oStore 3 (slotG 28) (slotG 167))
(cOp (slotT 29) (oMove (slotG 168))
(cOp (slotT 170) (oLoadN 3 (slotG 28))
(cOp (slotT 172) (oCall 12 [(slotG 170), (slotG 27)])
(cOp (slotT 173) (oExtract 0 (slotG 172))
(cOp (slotT 174) (oExtract 1 (slotG 172))
(cOp (slotT 30) (oAlloc 3 zt31)
(cDo (oStore 3 (slotG 30) (slotG 173))
(cOp (slotT 31) (oMove (slotG 174))
(cOp (slotT 176) (oCmp iNe .i64 (slotG 29) (kV (.int .i64 0)))
(cG (slotG 176) false (slotT 178) (oMove (slotG 31))
(cG (slotG 176) false (slotT 179) (oCmp iNe .i64 (slotG 178) (kV (.int .i64 167)))
(cOp (slotT 180) (oPick (slotG 176) (kV (.bool true)) (slotG 179))
(cG (slotG 180) false (slotT 182) (oFieldAddr 2 (slotG 28))
(cG (slotG 180) false (slotT 183) (oLoad1 (slotG 182))
(cG (slotG 180) false (slotT 184) (oLenS (slotG 183))
(cG (slotG 180) false (slotT 185) (oFieldAddr 2 (slotG 16))
(cG (slotG 180) false (slotT 186) (oLoad1 (slotG 185))
(cG (slotG 180) false (slotT 187) (oLenS (slotG 186))
(cG (slotG 180) false (slotT 188) (oAri Int.sub .i64 (slotG 187) (kV (.int .i64 1)))
(cG (slotG 180) false (slotT 189) (oCmp iNe .i64 (slotG 184) (slotG 188))
(cOp (slotT 190) (oPick (slotG 180) (kV (.bool true)) (slotG 189))
(cG (slotG 190) false (slotT 192) (oLoadN 3 (slotG 28))
(cG (slotG 190) false (slotT 193) (oCall 9 [(slotG 192)])
(cG (slotG 190) false (slotT 194) (oNot (slotG 193))
(cOp (slotT 195) (oPick (slotG 190) (kV (.bool true)) (slotG 194))
(cG (slotG 195) false (slotT 197) (oLoadN 3 (slotG 16))
(cG (slotG 195) false (slotT 198) (oCall 13 [(slotG 197)])
(cOp (slotT 199) (oPick (slotG 195) (kV (.bool true)) (slotG 198))
(cCond (slotG 199)
(cOp (slotT 8) (oMove (kV (.bool false)))
cRet)
(cOp (slotT 200) (oLoadN 3 (slotG 28))
(cDo (oStore 3 (slotG 16) (slotG 200))
cNorm))))))))))))))))))))))))))))))))))))))))))
noncomputable def rmP : C := (cSeq (cCond (slotG 148)
(cMark (cOp (slotT 151) (oIdx 1 (slotG 3) (slotG 25))
(cOp (slotT 152) (oLoad1 (slotG 151))
(cOp (slotT 153) (oConv .i64 (slotG 152))
(cOp (slotT 154) (oFieldAddr 2 (slotG 16))
(cOp (slotT 155) (oLoad1 (slotG 154))
(cOp (slotT 156) (oLenS (slotG 155))
(cOp (slotT 157) (oRem .i64 (slotG 153) (slotG 156))
(cOp (slotT 26) (oMove (slotG 157))
cNorm)))))))))
cNorm)
(cOp (slotT 158) (oFieldAddr 2 (slotG 16))
(cOp (slotT 159) (oLoad1 (slotG 158))
(cOp (slotT 161) (oIdx 1 (slotG 159) (slotG 26))
(cOp (slotT 162) (oLoad1 (slotG 161))
(cOp (slotT 27) (oMove (slotG 162))
(cOp (slotT 164) (oLoadN 3 (slotG 16))
(cOp (slotT 166) (oCall 12 [(slotG 164), (slotG 27)])
(cOp (slotT 167) (oExtract 0 (slotG 166))
(cOp (slotT 168) (oExtract 1 (slotG 166))
(cOp (slotT 28) (oAlloc 3 zt31)
(cDo (oStore 3 (slotG 28) (slotG 167))
(cOp (slotT 29) (oMove (slotG 168))
(cOp (slotT 170) (oLoadN 3 (slotG 28))
(cOp (slotT 172) (oCall 12 [(slotG 170), (slotG 27)])
(cOp (slotT 173) (oExtract 0 (slotG 172))
(cOp (slotT 174) (oExtract 1 (slotG 172))
(cOp (slotT 30) (oAlloc 3 zt31)
(cDo (oStore 3 (slotG 30) (slotG 173))
(cOp (slotT 31) (oMove (slotG 174))
(cOp (slotT 176) (oCmp iNe .i64 (slotG 29) (kV (.int .i64 0)))
(cG (slotG 176) false (slotT 178) (oMove (slotG 31))
(cG (slotG 176) false (slotT 179) (oCmp iNe .i64 (slotG 178) (kV (.int .i64 167)))
(cOp (slotT 180) (oPick (slotG 176) (kV (.bool true)) (slotG 179))
(cG (slotG 180) false (slotT 182) (oFieldAddr 2 (slotG 28))
(cG (slotG 180) false (slotT 183) (oLoad1 (slotG 182))
(cG (slotG 180) false (slotT 184) (oLenS (slotG 183))
(cG (slotG 180) false (slotT 185) (oFieldAddr 2 (slotG 16))
(cG (slotG 180) false (slotT 186) (oLoad1 (slotG 185))
(cG (slotG 180) false (slotT 187) (oLenS (slotG 186))
(cG (slotG 180) false (slotT 188) (oAri Int.sub .i64 (slotG 187) (kV (.int .i64 1)))
(cG (slotG 180) false (slotT 189) (oCmp iNe .i64 (slotG 184) (slotG 188))
(cOp (slotT 190) (oPick (slotG 180) (kV (.bool true)) (slotG 189))
(cG (slotG 190) false (slotT 192) (oLoadN 3 (slotG 28))
(cG (slotG 190) false (slotT 193) (oCall 9 [(slotG 192)])
(cG (slotG 190) false (slotT 194) (oNot (slotG 193))
(cOp (slotT 195) (oPick (slotG 190) (kV (.bool true)) (slotG 194))
(cG (slotG 195) false (slotT 197) (oLoadN 3 (slotG 16))
(cG (slotG 195) false (slotT 198) (oCall 13 [(slotG 197)])
(cOp (slotT 199) (oPick (slotG 195) (kV (.bool true)) (slotG 198))
(cCond (slotG 199)
(cOp (slotT 8) (oMove (kV (.bool false)))
cRet)
(cOp (slotT 200) (oLoadN 3 (slotG 28))
(cDo (oStore 3 (slotG 16) (slotG 200))
cNorm)))))))))))))))))))))))))))))))))))))))))))
theorem rmP_is : rmP = cSeq (cCond (slotG 148) rmA cNorm) rmT := rfl
noncomputable def rmB : C := (cOp (slotT 136) (oCmp iLt .i64 (slotG 25) (kV (.int .i64 60)))
(cG (slotG 136) true (slotT 138) (oFieldAddr 2 (slotG 16))
(cG (slotG 136) true (slotT 139) (oLoad1 (slotG 138))
(cG (slotG 136) true (slotT 140) (oLenS (slotG 139))
(cG (slotG 136) true (slotT 141) (oCmp iGt .i64 (slotG 140) (kV (.int .i64 0)))
(cOp (slotT 142) (oPick (slotG 136) (slotG 141) (kV (.bool false)))
(cCond (slotG 142)
(cSeq (cBlock 7 (cOp (slotT 26) (oMove (kV (.int .i64 0)))
(cOp (slotT 147) (oLenS (slotG 3))
(cOp (slotT 148) (oCmp iLt .i64 (slotG 25) (slotG 147))
rmP))))
(cOp (slotT 144) (oAdd .i64 (topOf .i64) (slotG 25) (kV (.int .i64 1)))
(cOp (slotT 25) (oMove (slotG 144))
cNorm)))
(cExit 6))))))))
theorem rmA_is {F : CallF} {g : Hp} {o w a b : Value} {os : List Nat} {zs : List Int} {c k : Nat} (O : g.Vals o (os.map bv)) (hk : k < os.length) (R : g.Row c 0 [a, b, w]) (V : g.Vals w (ints .i64 zs)) (hz : 0 < zs.length) (hb : ∀ x ∈ os, x < 256) {e : Env} (s3 : slotG 3 e = o) (s16 : slotG 16 e = .pointer (some ⟨c, 0, none⟩)) (s25 : slotG 25 e = .int .i64 (k : Int)) :
    ∃ e2 j, rmA F e g = .norm e2 g.marked ∧ j < zs.length ∧ slotG 26 e2 = .int .i64 ((j : Nat) : Int) ∧ keepR e e2 := by
  have Om : g.marked.Vals o (os.map bv) := O.same rfl
  have Rm : g.marked.Row c 0 [a, b, w] := R.same rfl
  have Vm : g.marked.Vals w (ints .i64 zs) := V.same rfl
  obtain ⟨q, g1, g2⟩ := Om.at (i := k) (by rw [List.length_map]; exact hk)
  have he : (os.map bv).getD k noRes = .int .u8 ((os.getD k 0 : Nat) : Int) := by
    rw [List.getD_eq_getElem?_getD, List.getElem?_map, List.getD_eq_getElem?_getD, List.getElem?_eq_getElem hk]; rfl
  rw [he] at g2
  have hx : os.getD k 0 < 256 := hb _ (by rw [List.getD_eq_getElem?_getD, List.getElem?_eq_getElem hk]; exact List.getElem_mem hk)
  generalize os.getD k 0 = x at g2 hx
  have cv : convR .i64 (.int .u8 (x : Int)) g.marked = .ok (.int .i64 (x : Int)) g.marked := by rw [convR_is, wrap_nat (by omega)]
  have lw : load1 ⟨c, 2, none⟩ g.marked = .ok w g.marked := Rm.load1 (off := 2) (by simp)
  have rm : remR .i64 (.int .i64 (x : Int)) (.int .i64 (zs.length : Int)) g.marked = .ok (.int .i64 ((x % zs.length : Nat) : Int)) g.marked := by rw [remR_is (by omega)]; rfl
  have hrun : ∃ e2, rmA F e g = .norm e2 g.marked ∧ slotG 26 e2 = .int .i64 ((x % zs.length : Nat) : Int) ∧ keepR e e2 := by
    unfold rmA keepR
    simp only [cOp_is, cDo_is, cCond_is, cSeq_is, cBlock_is, cNorm_is, cRet_is, cExit_is, opX_ok, doX_ok, condX_true, condX_false, seqX_norm, seqX_exit, seqX_ret, blockX_norm, blockX_ret, blockX_exit, oMove_is, kV_is, slot_set, Nat.reduceLT, Nat.reduceEqDiff, if_true, if_false, reduceIte, marked_is, oIdx_is, s3, s25, g1, oLoad1_is, g2, oConv_is, cv, oFieldAddr_is', s16, fieldAR_is, loadR_is, Nat.zero_add, lw, oLenS_is, Vm.ilen, oRem_is, rm]
    exact ⟨_, rfl, by simp only [slot_set, Nat.reduceLT, Nat.reduceEqDiff, if_true, if_false, reduceIte], by simp only [slot_set, Nat.reduceLT, Nat.reduceEqDiff, if_true, if_false, reduceIte, s3], by simp only [slot_set, Nat.reduceLT, Nat.reduceEqDiff, if_true, if_false, reduceIte, s16], by simp only [slot_set, Nat.reduceLT, Nat.reduceEqDiff, if_true, if_false, reduceIte, s25]⟩
  obtain ⟨e2, r1, r2, r3⟩ := hrun
  exact ⟨e2, _, r1, Nat.mod_lt _ hz, r2, r3⟩
theorem rmT_is {n : Nat} {h g : Hp} (W : h.Wf) (xg : h.Ext g) {w : Value} {a : Int} {zs : List Int} {c j : Nat} (hc : h.next ≤ c) (R : g.Row c 0 [.int .i64 a, .int .i64 30, w]) (S : g.Sl4 w zs) (hr : rightB a 30 zs = true) (hj : j < zs.length) (hl : zs.length ≤ 60) {e : Env} (s16 : slotG 16 e = .pointer (some ⟨c, 0, none⟩)) (s26 : slotG 26 e = .int .i64 (j : Int)) :
    ∃ e2 g2 w2 ys, rmT (call bodies (n + 3)) e g = .norm e2 g2 ∧ h.Ext g2 ∧ g2.Row c 0 [.int .i64 a, .int .i64 30, w2] ∧ g2.Sl4 w2 ys ∧ rightB a 30 ys = true ∧ ys.length + 1 = zs.length ∧ keepR e e2 := by
  have Wg := xg.wf
  have V := S.vals
  have big : 256 ≤ c := Nat.le_trans W.big hc
  have lw : load1 ⟨c, 2, none⟩ g = .ok w g := R.load1 (off := 2) (by simp)
  have lm : loadN 3 ⟨c, 0, none⟩ g = .ok (mvV a 30 w) g := R.loadN (by simp)
  obtain ⟨q, g1, g2⟩ := V.int hj
  have hxm : zs.getD j 0 ∈ zs := by rw [List.getD_eq_getElem?_getD, List.getElem?_eq_getElem hj]; exact List.getElem_mem hj
  generalize zs.getD j 0 = x at g2 hxm
  -- it is mended
  obtain ⟨h1, w', k, hk, hkx, m1, y1, S1⟩ := mended_ok (n := n) Wg V (by omega) hr hxm
  have x1 := xg.trans y1
  have hr' := right_cut hr hk
  have hno := cut_not (right_parts hr).2.2.2.2.2.2 hk
  have hlen := cut_len (zs := zs) hk
  rw [hkx] at hno
  generalize zs.take k ++ zs.drop (k + 1) = ys at S1 hr' hno hlen
  obtain ⟨w1, w2⟩ := S1.vals.cells1
  obtain ⟨h2, al2, st2, x2, y2, R2, n2⟩ := cell3 x1 (a := .int .i64 a) (b := .int .i64 30) (c := w') (one3 rfl rfl w2)
  have lm2 : loadN 3 ⟨h1.next, 0, none⟩ h2 = .ok (mvV a 30 w') h2 := R2.loadN (by simp)
  -- and once more
  obtain ⟨h3, m2, y3⟩ := mended_no (n := n) x2.wf (f := a) (t := 30) (S1.ext x1.wf y2).vals (by omega) hr' hno
  have x3 := x2.trans y3
  obtain ⟨h4, al4, st4, x4, y4, R4, n4⟩ := cell3 x3 (a := .int .i64 a) (b := .int .i64 30) (c := w') (one3 rfl rfl w2)
  -- what holds now
  have z4 : h1.Ext h4 := (y2.trans y3).trans y4
  have zg : g.Ext h4 := y1.trans z4
  have Rc4 := R.ext Wg zg
  have R24 := R2.ext x2.wf (y3.trans y4)
  have S4 := S.ext Wg zg
  have T4 := S1.ext x1.wf z4
  have lw4 : load1 ⟨h1.next, 2, none⟩ h4 = .ok w' h4 := R24.load1 (off := 2) (by simp)
  have lc4 : load1 ⟨c, 2, none⟩ h4 = .ok w h4 := Rc4.load1 (off := 2) (by simp)
  have lm4 : loadN 3 ⟨h1.next, 0, none⟩ h4 = .ok (mvV a 30 w') h4 := R24.loadN (by simp)
  have sb : ariR Int.sub .i64 (.int .i64 (zs.length : Int)) (.int .i64 1) h4 = .ok (.int .i64 (ys.length : Int)) h4 := by
    have : Int.sub (zs.length : Int) 1 = (ys.length : Int) := by show (zs.length : Int) - 1 = _; omega
    rw [ariR_is, this, wrap_nat (by omega)]
  have k5 := right_is (n := n + 1) x4.wf (f := a) (t := 30) T4.vals (by omega)
  rw [hr'] at k5
  have y5 := right_ext x4.wf (f := a) (t := 30) (u := w')
  have x5 := x4.trans y5
  have Rc5 := Rc4.ext x4.wf y5
  have R25 := R24.ext x4.wf y5
  have S5 := S4.ext x4.wf y5
  have T5 := T4.ext x4.wf y5
  generalize h4.pushRow 0 [.int .i64 a, .int .i64 30, w'] = h5 at k5 y5 x5 Rc5 R25 S5 T5
  have lm5 : loadN 3 ⟨c, 0, none⟩ h5 = .ok (mvV a 30 w) h5 := Rc5.loadN (by simp)
  obtain ⟨h6, k6, y6⟩ := over_is (n := n) x5.wf (f := a) (t := 30) S5.vals (by omega)
  rw [hr, decide_eq_false (by omega : ¬ zs.length = 0)] at k6
  have k6 : call bodies (n + 3) 13 [mvV a 30 w] h5 = .ok (.bool false) h6 := k6
  have x6 := x5.trans y6
  have Rc6 := Rc5.ext x5.wf y6
  have R26 := R25.ext x5.wf y6
  have T6 := T5.ext x5.wf y6
  have lm6 : loadN 3 ⟨h1.next, 0, none⟩ h6 = .ok (mvV a 30 w') h6 := R26.loadN (by simp)
  have ho : 0 + (cellsOf (mvV a 30 w')).length ≤ [Value.int .i64 a, .int .i64 30, w].length := by simp [mvV, cells_agg]
  have st6 := Rc6.storeR (n := 3) (off := 0) x6.wf big (v := mvV a 30 w') rfl ho (by show (bif oneCell w' then true else false) = true; rw [w2]; rfl)
  have x7 := Rc6.wr_ext x6 hc (off := 0) (vs := cellsOf (mvV a 30 w')) ho
  have Rc7 := Rc6.wr_self x6.wf (off := 0) (vs := cellsOf (mvV a 30 w')) ho
  have T7 : (h6.wr c 0 (cellsOf (mvV a 30 w'))).Sl4 w' ys := T6.keep fun b L r => Rc6.wr_other x6.wf (off := 0) (vs := cellsOf (mvV a 30 w')) ho r (kind_ne r Rc6 (by omega))
  generalize h6.wr c 0 (cellsOf (mvV a 30 w')) = h7 at st6 x7 Rc7 T7
  have i0 : iNe 0 0 = false := rfl
  have i1 : iNe 167 167 = false := rfl
  have i2 : iNe (ys.length : Int) (ys.length : Int) = false := by rw [iNe_is]; simp
  have hrun : ∃ e2, rmT (call bodies (n + 3)) e g = .norm e2 h7 ∧ keepR e e2 := by
    unfold rmT keepR
    unfold mvV at m1 m2
    have m1' : call bodies (n + 3) 12 [mvV a 30 w, .int .i64 x] g = .ok (.tuple ⟨[.agg ⟨[.int .i64 a, .int .i64 30, w']⟩, .int .i64 0]⟩) h1 := m1
    have m2' : call bodies (n + 3) 12 [mvV a 30 w', .int .i64 x] h2 = .ok (.tuple ⟨[.agg ⟨[.int .i64 a, .int .i64 30, w']⟩, .int .i64 167]⟩) h3 := m2
    simp only [cOp_is, cDo_is, cCond_is, cSeq_is, cBlock_is, cNorm_is, cRet_is, cExit_is, opX_ok, doX_ok, condX_true, condX_false, seqX_norm, seqX_exit, seqX_ret, blockX_norm, blockX_ret, blockX_exit, oMove_is, kV_is, slot_set, Nat.reduceLT, Nat.reduceEqDiff, if_true, if_false, reduceIte, cG_is, guardX_tt, guardX_tf, guardX_ft, guardX_ff, guardX_none, skipC_is, oPick_is, pickR_true, pickR_false, oFieldAddr_is', s16, fieldAR_is, oLoad1_is, loadR_is, Nat.zero_add, lw, oIdx_is, s26, g1, g2, oLoadN_is, loadsR_is, lm, oCall_is, vals_cons, vals_nil, m1', oExtract_is, extractR_0, extractR_1, al2, oStore_is, st2, lm2, m2', al4, st4, oCmp_is, cmpR_is, i0, i1, lw4, oLenS_is, T4.vals.ilen, lc4, S4.vals.ilen, oAri_is, sb, i2, lm4, k5, oNot_is, notR_is, Bool.not_true, lm5, k6, lm6, st6]
    exact ⟨_, rfl, by simp only [slot_set, Nat.reduceLT, Nat.reduceEqDiff, if_true, if_false, reduceIte], by simp only [slot_set, Nat.reduceLT, Nat.reduceEqDiff, if_true, if_false, reduceIte, s16], by simp only [slot_set, Nat.reduceLT, Nat.reduceEqDiff, if_true, if_false, reduceIte]⟩
  obtain ⟨e2, r1, r2⟩ := hrun
  exact ⟨e2, h7, w', ys, r1, x7, Rc7, T7, hr', by omega, r2⟩
theorem rm_loop {n : Nat} {h g : Hp} (W : h.Wf) (xg : h.Ext g) {w o : Value} {a : Int} {os : List Nat} {zs : List Int} {c : Nat} (hc : h.next ≤ c) (O : h.Vals o (os.map bv)) (hb : ∀ x ∈ os, x < 256) (R : g.Row c 0 [.int .i64 a, .int .i64 30, w]) (S : g.Sl4 w zs) (hr : rightB a 30 zs = true) (hl : zs.length ≤ 60) {e : Env}
    (s3 : slotG 3 e = o) (s16 : slotG 16 e = .pointer (some ⟨c, 0, none⟩)) (s25 : slotG 25 e = .int .i64 0) :
    ∃ e2 g2 w2, cLoop rmB (call bodies (n + 3)) e g = .exit 6 e2 g2 ∧ h.Ext g2 ∧ g2.Row c 0 [.int .i64 a, .int .i64 30, w2] ∧ g2.Sl4 w2 [] ∧ rightB a 30 [] = true ∧ slotG 16 e2 = .pointer (some ⟨c, 0, none⟩) := by
  refine loop_run (I := fun k e' h' => ∃ w ys, h.Ext h' ∧ h'.Row c 0 [.int .i64 a, .int .i64 30, w] ∧ h'.Sl4 w ys ∧ rightB a 30 ys = true ∧ ys.length + k ≤ 60 ∧ slotG 3 e' = o ∧ slotG 16 e' = .pointer (some ⟨c, 0, none⟩) ∧ slotG 25 e' = .int .i64 (k : Int))
    (Q := fun y => ∃ e2 g2 w2, y = .exit 6 e2 g2 ∧ h.Ext g2 ∧ g2.Row c 0 [.int .i64 a, .int .i64 30, w2] ∧ g2.Sl4 w2 [] ∧ rightB a 30 [] = true ∧ slotG 16 e2 = .pointer (some ⟨c, 0, none⟩)) 60 (by omega)
    (fun k e' h' ⟨w, ys, ex, R', S', hr', hyk, t3, t16, t25⟩ => ?_) ⟨w, zs, xg, R, S, hr, hl, s3, s16, s25⟩
  have lw : load1 ⟨c, 2, none⟩ h' = .ok w h' := R'.load1 (off := 2) (by simp)
  have vl := S'.vals.ilen
  by_cases h60 : k < 60
  · have c1 : iLt (k : Int) 60 = true := by rw [iLt_is]; simp; omega
    by_cases hy : 0 < ys.length
    · left
      have c2 : iGt (ys.length : Int) 0 = true := by rw [iGt_is]; simp; omega
      have Ol : lenSR o h' = .ok (.int .i64 (os.length : Int)) h' := by have := (O.ext W ex).len; rwa [List.length_map] at this
      have pre : ∃ e2 b, rmB (call bodies (n + 3)) e' h' = seqX (blockX 7 (rmP (call bodies (n + 3)) e2 h')) (cOp (slotT 144) (oAdd .i64 (topOf .i64) (slotG 25) (kV (.int .i64 1))) (cOp (slotT 25) (oMove (slotG 144)) cNorm)) (call bodies (n + 3)) ∧ slotG 148 e2 = .bool b ∧ (b = true → k < os.length) ∧ slotG 26 e2 = .int .i64 0 ∧ slotG 3 e2 = o ∧ slotG 16 e2 = .pointer (some ⟨c, 0, none⟩) ∧ slotG 25 e2 = .int .i64 (k : Int) := by
        have c3 : iLt (k : Int) (os.length : Int) = decide (k < os.length) := by rw [iLt_is, decide_eq_decide]; omega
        unfold rmB
        simp only [cOp_is, cCond_is, cSeq_is, cBlock_is, opX_ok, condX_true, oMove_is, kV_is, slot_set, Nat.reduceLT, Nat.reduceEqDiff, if_true, if_false, reduceIte, cG_is, guardX_tt, guardX_tf, guardX_ft, guardX_ff, guardX_none, skipC_is, oPick_is, pickR_true, pickR_false, oCmp_is, cmpR_is, t25, c1, oFieldAddr_is', t16, fieldAR_is, oLoad1_is, loadR_is, Nat.zero_add, lw, oLenS_is, vl, c2, t3, Ol, c3]
        exact ⟨_, _, rfl, by simp only [slot_set, Nat.reduceLT, Nat.reduceEqDiff, if_true, if_false, reduceIte], fun hb => of_decide_eq_true hb, by simp only [slot_set, Nat.reduceLT, Nat.reduceEqDiff, if_true, if_false, reduceIte], by simp only [slot_set, Nat.reduceLT, Nat.reduceEqDiff, if_true, if_false, reduceIte]; exact t3, by simp only [slot_set, Nat.reduceLT, Nat.reduceEqDiff, if_true, if_false, reduceIte]; exact t16, by simp only [slot_set, Nat.reduceLT, Nat.reduceEqDiff, if_true, if_false, reduceIte]; exact t25⟩
      obtain ⟨e2, b, p, p148, pb, p26, p3, p16, p25⟩ := pre
      have key : ∃ e3 g3 j, seqX (condX (.bool b) rmA cNorm (call bodies (n + 3)) e2 h') rmT (call bodies (n + 3)) = rmT (call bodies (n + 3)) e3 g3 ∧ (g3 = h' ∨ g3 = h'.marked) ∧ j < ys.length ∧ slotG 26 e3 = .int .i64 ((j : Nat) : Int) ∧ keepR e2 e3 := by
        cases b with
        | true =>
          obtain ⟨e3, j, r1, r2, r3, r4⟩ := rmA_is (F := call bodies (n + 3)) (O.ext W ex) (pb rfl) R' S'.vals hy hb p3 p16 p25
          exact ⟨e3, h'.marked, j, by rw [condX_true, r1, seqX_norm], .inr rfl, r2, r3, r4⟩
        | false => exact ⟨e2, h', 0, by rw [condX_false, cNorm_is, seqX_norm], .inl rfl, hy, p26, rfl, rfl, rfl⟩
      obtain ⟨e3, g3, j, r1, r2, r3, r4, ⟨k3, k16, k25⟩⟩ := key
      have hbl : g3.bl = h'.bl := by rcases r2 with rfl | rfl <;> rfl
      have x3 : h.Ext g3 := by
        rcases r2 with rfl | rfl
        · exact ex
        · exact ex.marked
      obtain ⟨e4, g4, w4, zs4, q1, q2, q3, q4, q5, q6, ⟨m3, m16, m25⟩⟩ := rmT_is (n := n) W x3 hc (R'.same hbl) (S'.keep fun _ _ r => r.same hbl) hr' r3 (by omega) (k16.trans p16) r4
      have z25 : slotG 25 e4 = .int .i64 (k : Int) := (m25.trans k25).trans p25
      have ad : addR .i64 (.int .i64 (k : Int)) (.int .i64 1) g4 = .ok (.int .i64 ((k + 1 : Nat) : Int)) g4 := by
        have : (k : Int) + 1 = ((k + 1 : Nat) : Int) := by omega
        rw [addR_is, this, wrap_nat (by omega)]
      have hrun : ∃ e5, rmB (call bodies (n + 3)) e' h' = .norm e5 g4 ∧ slotG 3 e5 = o ∧ slotG 16 e5 = .pointer (some ⟨c, 0, none⟩) ∧ slotG 25 e5 = .int .i64 ((k + 1 : Nat) : Int) := by
        rw [p, rmP_is]
        simp only [cSeq_is, cCond_is, p148]
        rw [r1, q1]
        simp only [blockX_norm, seqX_norm, cOp_is, opX_ok, oAdd_is, z25, kV_is, ad, oMove_is, cNorm_is, slot_set, Nat.reduceLT, Nat.reduceEqDiff, if_true, if_false, reduceIte]
        exact ⟨_, rfl, by simp only [slot_set, Nat.reduceLT, Nat.reduceEqDiff, if_true, if_false, reduceIte]; exact (m3.trans k3).trans p3, by simp only [slot_set, Nat.reduceLT, Nat.reduceEqDiff, if_true, if_false, reduceIte]; exact (m16.trans k16).trans p16, by simp only [slot_set, Nat.reduceLT, Nat.reduceEqDiff, if_true, if_false, reduceIte]⟩
      obtain ⟨e5, v1, v2, v3, v4⟩ := hrun
      exact ⟨h60, e5, g4, v1, w4, zs4, q2, q3, q4, q5, by omega, v2, v3, v4⟩
    · right
      have c2 : iGt (ys.length : Int) 0 = false := by rw [iGt_is]; exact decide_eq_false (by omega)
      have hrun : ∃ e2, rmB (call bodies (n + 3)) e' h' = .exit 6 e2 h' ∧ slotG 16 e2 = .pointer (some ⟨c, 0, none⟩) := by
        unfold rmB
        simp only [cOp_is, cDo_is, cCond_is, cSeq_is, cBlock_is, cNorm_is, cRet_is, cExit_is, opX_ok, doX_ok, condX_true, condX_false, seqX_norm, seqX_exit, seqX_ret, blockX_norm, blockX_ret, blockX_exit, oMove_is, kV_is, slot_set, Nat.reduceLT, Nat.reduceEqDiff, if_true, if_false, reduceIte, cG_is, guardX_tt, guardX_tf, guardX_ft, guardX_ff, guardX_none, skipC_is, oPick_is, pickR_true, pickR_false, oCmp_is, cmpR_is, t25, c1, oFieldAddr_is', t16, fieldAR_is, oLoad1_is, loadR_is, Nat.zero_add, lw, oLenS_is, vl, c2]
        exact ⟨_, rfl, by simp only [slot_set, Nat.reduceLT, Nat.reduceEqDiff, if_true, if_false, reduceIte, t16]⟩
      obtain ⟨e2, r1, r2⟩ := hrun
      rw [r1]
      have : ys = [] := List.eq_nil_of_length_eq_zero (by omega)
      subst this
      exact ⟨rfl, e2, h', w, rfl, ex, R', S', hr', r2⟩
  · right
    have c1 : iLt (k : Int) 60 = false := by rw [iLt_is]; simp; omega
    have hrun : ∃ e2, rmB (call bodies (n + 3)) e' h' = .exit 6 e2 h' ∧ slotG 16 e2 = .pointer (some ⟨c, 0, none⟩) := by
      unfold rmB
      simp only [cOp_is, cDo_is, cCond_is, cSeq_is, cBlock_is, cNorm_is, cRet_is, cExit_is, opX_ok, doX_ok, condX_true, condX_false, seqX_norm, seqX_exit, seqX_ret, blockX_norm, blockX_ret, blockX_exit, oMove_is, kV_is, slot_set, Nat.reduceLT, Nat.reduceEqDiff, if_true, if_false, reduceIte, cG_is, guardX_tt, guardX_tf, guardX_ft, guardX_ff, guardX_none, skipC_is, oPick_is, pickR_true, pickR_false, oCmp_is, cmpR_is, t25, c1]
      exact ⟨_, rfl, by simp only [slot_set, Nat.reduceLT, Nat.reduceEqDiff, if_true, if_false, reduceIte]; exact t16⟩
    obtain ⟨e2, r1, r2⟩ := hrun
    rw [r1]
    have : ys = [] := List.eq_nil_of_length_eq_zero (by omega)
    subst this
    exact ⟨rfl, e2, h', w, rfl, ex, R', S', hr', r2⟩
end Go.Proofs.Ytkafejncffinmaa
set_option linter.unusedVariables false
set_option linter.unusedSimpArgs false
namespace Go.Proofs.Ytkafejncffinmaa
open Go
set_option maxRecDepth 100000
noncomputable def mlS0 : C := (cSeq (cBlock 0 (cLoop (cOp (slotT 57) (oLenS (slotG 2))
(cOp (slotT 58) (oCmp iLt .i64 (slotG 13) (slotG 57))
(cG (slotG 58) true (slotT 60) (oMove (slotG 13))
(cG (slotG 58) true (slotT 61) (oCmp iLt .i64 (slotG 60) (kV (.int .i64 60)))
(cOp (slotT 62) (oPick (slotG 58) (slotG 61) (kV (.bool false)))
(cCond (slotG 62)
(cSeq (cBlock 1 (cOp (slotT 67) (oIdx 1 (slotG 2) (slotG 13))
(cOp (slotT 68) (oLoad1 (slotG 67))
(cCond (slotG 68)
(cOp (slotT 71) (oBuildSlice 1 (repL ty3.zero 1) [(0, 1, (slotG 13))])
(cOp (slotT 72) (oAppend 1 8 3 (slotG 12) (slotG 71))
(cOp (slotT 12) (oMove (slotG 72))
cNorm)))
cNorm))))
(cOp (slotT 64) (oAdd .i64 (topOf .i64) (slotG 13) (kV (.int .i64 1)))
(cOp (slotT 13) (oMove (slotG 64))
cNorm)))
(cExit 0)))))))))
(cOp (slotT 74) (oRem .u8 (slotG 1) (kV (.int .u8 25)))
(cOp (slotT 75) (oConv .i64 (slotG 74))
(cOp (slotT 14) (oMove (slotG 75))
(cOp (slotT 80) (oCall 8 [(slotG 10), (slotG 14), (kV (.int .i64 30)), (slotG 12)])
(cOp (slotT 81) (oExtract 0 (slotG 80))
(cOp (slotT 82) (oExtract 1 (slotG 80))
(cOp (slotT 83) (oExtract 2 (slotG 80))
(cOp (slotT 16) (oAlloc 3 zt31)
(cOp (slotT 15) (oMove (slotG 81))
(cDo (oStore 3 (slotG 16) (slotG 82))
(cOp (slotT 17) (oMove (slotG 83))
(cOp (slotT 85) (oCmp iNe .i64 (slotG 17) (kV (.int .i64 0)))
(cG (slotG 85) false (slotT 87) (oMove (slotG 15))
(cG (slotG 85) false (slotT 88) (oLenS (slotG 87))
(cG (slotG 85) false (slotT 89) (oMove (slotG 10))
(cG (slotG 85) false (slotT 90) (oLenS (slotG 89))
(cG (slotG 85) false (slotT 91) (oCmp iNe .i64 (slotG 88) (slotG 90))
(cOp (slotT 92) (oPick (slotG 85) (kV (.bool true)) (slotG 91))
(cG (slotG 92) false (slotT 94) (oLoadN 3 (slotG 16))
(cG (slotG 92) false (slotT 95) (oCall 9 [(slotG 94)])
(cG (slotG 92) false (slotT 96) (oNot (slotG 95))
(cOp (slotT 97) (oPick (slotG 92) (kV (.bool true)) (slotG 96))
(cCond (slotG 97)
(cOp (slotT 8) (oMove (kV (.bool false)))
cRet)
(cOp (slotT 98) oMap
(cOp (slotT 18) (oMove (slotG 98))
(cOp (slotT 99) (oFieldAddr 2 (slotG 16))
(cOp (slotT 100) (oLoad1 (slotG 99))
(cOp (slotT 101) (oLenS (slotG 100))
(cOp (slotT 102) (oMove (kV (.int .i64 0)))
(cSeq (cBlock 2 (cLoop (cOp (slotT 103) (oCmp iLt .i64 (slotG 102) (slotG 101))
(cCond (slotG 103)
(cSeq (cBlock 3 (cOp (slotT 104) (oIdx 1 (slotG 100) (slotG 102))
(cOp (slotT 105) (oLoad1 (slotG 104))
(cOp (slotT 20) (oMove (slotG 105))
(cDo (oUpdate ⟨false, [.i .i64]⟩ (slotG 18) (slotG 20) (kV (.int .i64 1)))
cNorm)))))
(cOp (slotT 108) (oAdd .i64 (topOf .i64) (slotG 102) (kV (.int .i64 1)))
(cOp (slotT 102) (oMove (slotG 108))
cNorm)))
(cExit 2)))))
(cOp (slotT 109) (oMove (slotG 12))
(cOp (slotT 110) (oLenS (slotG 109))
(cOp (slotT 111) (oMove (kV (.int .i64 0)))
(cSeq (cBlock 4 (cLoop (cOp (slotT 112) (oCmp iLt .i64 (slotG 111) (slotG 110))
(cCond (slotG 112)
(cSeq (cBlock 5 (cOp (slotT 113) (oIdx 1 (slotG 109) (slotG 111))
(cOp (slotT 114) (oLoad1 (slotG 113))
(cOp (slotT 22) (oMove (slotG 114))
(cOp (slotT 118) (oCall 10 [(slotG 10), (slotG 22)])
(cOp (slotT 119) (oExtract 0 (slotG 118))
(cOp (slotT 120) (oExtract 1 (slotG 118))
(cOp (slotT 23) (oAlloc 2 zt37)
(cDo (oStore 2 (slotG 23) (slotG 119))
(cOp (slotT 24) (oMove (slotG 120))
(cMark (cOp (slotT 122) (oNot (slotG 24))
(cG (slotG 122) false (slotT 124) (oMove (slotG 18))
(cG (slotG 122) false (slotT 125) (oMove (slotG 22))
(cOld (slotG 124) (cChk (slotG 124) []
(cG (slotG 122) false (slotT 126) (oLookup ⟨false, [.i .i64]⟩ (.int .i64 0) false (slotG 124) (slotG 125))
(cG (slotG 122) false (slotT 127) (oCmp iEq .i64 (slotG 126) (kV (.int .i64 1)))
(cG (slotG 122) false (slotT 128) (oLoadN 2 (slotG 23))
(cG (slotG 122) false (slotT 129) (oMove (slotG 14))
(cG (slotG 122) false (slotT 130) (oQuiet .weak (oCall 11 [(slotG 128), (slotG 129)]))
(cG (slotG 122) false (slotT 131) (oCmp iGe .i64 (slotG 130) (kV (.int .i64 0)))
(cG (slotG 122) false (slotT 132) (oEq ty4.k true (slotG 127) (slotG 131))
(cOp (slotT 133) (oPick (slotG 122) (kV (.bool true)) (slotG 132))
(cCond (slotG 133)
(cOp (slotT 8) (oMove (kV (.bool false)))
cRet)
cNorm)))))))))))))))))))))))))
(cOp (slotT 134) (oAdd .i64 (topOf .i64) (slotG 111) (kV (.int .i64 1)))
(cOp (slotT 111) (oMove (slotG 134))
cNorm)))
(cExit 4)))))
(cOp (slotT 25) (oMove (kV (.int .i64 0)))
(cSeq (cBlock 6 (cLoop (cOp (slotT 136) (oCmp iLt .i64 (slotG 25) (kV (.int .i64 60)))
(cG (slotG 136) true (slotT 138) (oFieldAddr 2 (slotG 16))
(cG (slotG 136) true (slotT 139) (oLoad1 (slotG 138))
(cG (slotG 136) true (slotT 140) (oLenS (slotG 139))
(cG (slotG 136) true (slotT 141) (oCmp iGt .i64 (slotG 140) (kV (.int .i64 0)))
(cOp (slotT 142) (oPick (slotG 136) (slotG 141) (kV (.bool false)))
(cCond (slotG 142)
(cSeq (cBlock 7 (cOp (slotT 26) (oMove (kV (.int .i64 0)))
(cOp (slotT 147) (oLenS (slotG 3))
(cOp (slotT 148) (oCmp iLt .i64 (slotG 25) (slotG 147))
(cSeq (cCond (slotG 148)
(cMark (cOp (slotT 151) (oIdx 1 (slotG 3) (slotG 25))
(cOp (slotT 152) (oLoad1 (slotG 151))
(cOp (slotT 153) (oConv .i64 (slotG 152))
(cOp (slotT 154) (oFieldAddr 2 (slotG 16))
(cOp (slotT 155) (oLoad1 (slotG 154))
(cOp (slotT 156) (oLenS (slotG 155))
(cOp (slotT 157) (oRem .i64 (slotG 153) (slotG 156))
(cOp (slotT 26) (oMove (slotG 157))
cNorm)))))))))
cNorm)
(cOp (slotT 158) (oFieldAddr 2 (slotG 16))
(cOp (slotT 159) (oLoad1 (slotG 158))
(cOp (slotT 161) (oIdx 1 (slotG 159) (slotG 26))
(cOp (slotT 162) (oLoad1 (slotG 161))
(cOp (slotT 27) (oMove (slotG 162))
(cOp (slotT 164) (oLoadN 3 (slotG 16))
(cOp (slotT 166) (oCall 12 [(slotG 164), (slotG 27)])
(cOp (slotT 167) (oExtract 0 (slotG 166))
(cOp (slotT 168) (oExtract 1 (slotG 166))
(cOp (slotT 28) (oAlloc 3 zt31)
(cDo (oStore 3 (slotG 28) (slotG 167))
(cOp (slotT 29) (oMove (slotG 168))
(cOp (slotT 170) (oLoadN 3 (slotG 28))
(cOp (slotT 172) (oCall 12 [(slotG 170), (slotG 27)])
(cOp (slotT 173) (oExtract 0 (slotG 172))
(cOp (slotT 174) (oExtract 1 (slotG 172))
(cOp (slotT 30) (oAlloc 3 zt31)
(cDo (oStore 3 (slotG 30) (slotG 173))
(cOp (slotT 31) (oMove (slotG 174))
(cOp (slotT 176) (oCmp iNe .i64 (slotG 29) (kV (.int .i64 0)))
(cG (slotG 176) false (slotT 178) (oMove (slotG 31))
(cG (slotG 176) false (slotT 179) (oCmp iNe .i64 (slotG 178) (kV (.int .i64 167)))
(cOp (slotT 180) (oPick (slotG 176) (kV (.bool true)) (slotG 179))
(cG (slotG 180) false (slotT 182) (oFieldAddr 2 (slotG 28))
(cG (slotG 180) false (slotT 183) (oLoad1 (slotG 182))
(cG (slotG 180) false (slotT 184) (oLenS (slotG 183))
(cG (slotG 180) false (slotT 185) (oFieldAddr 2 (slotG 16))
(cG (slotG 180) false (slotT 186) (oLoad1 (slotG 185))
(cG (slotG 180) false (slotT 187) (oLenS (slotG 186))
(cG (slotG 180) false (slotT 188) (oAri Int.sub .i64 (slotG 187) (kV (.int .i64 1)))
(cG (slotG 180) false (slotT 189) (oCmp iNe .i64 (slotG 184) (slotG 188))
(cOp (slotT 190) (oPick (slotG 180) (kV (.bool true)) (slotG 189))
(cG (slotG 190) false (slotT 192) (oLoadN 3 (slotG 28))
(cG (slotG 190) false (slotT 193) (oCall 9 [(slotG 192)])
(cG (slotG 190) false (slotT 194) (oNot (slotG 193))
(cOp (slotT 195) (oPick (slotG 190) (kV (.bool true)) (slotG 194))
(cG (slotG 195) false (slotT 197) (oLoadN 3 (slotG 16))
(cG (slotG 195) false (slotT 198) (oCall 13 [(slotG 197)])
(cOp (slotT 199) (oPick (slotG 195) (kV (.bool true)) (slotG 198))
(cCond (slotG 199)
(cOp (slotT 8) (oMove (kV (.bool false)))
cRet)
(cOp (slotT 200) (oLoadN 3 (slotG 28))
(cDo (oStore 3 (slotG 16) (slotG 200))
cNorm)))))))))))))))))))))))))))))))))))))))))))))))
(cOp (slotT 144) (oAdd .i64 (topOf .i64) (slotG 25) (kV (.int .i64 1)))
(cOp (slotT 25) (oMove (slotG 144))
cNorm)))
(cExit 6))))))))))
(cOp (slotT 201) (oLoadN 3 (slotG 16))
(cOp (slotT 202) (oCall 13 [(slotG 201)])
(cG (slotG 202) true (slotT 204) (oCall 14 [])
(cOp (slotT 205) (oPick (slotG 202) (slotG 204) (kV (.bool false)))
(cOp (slotT 8) (oMove (slotG 205))
cRet))))))))))))))))))))))))))))))))))))))))))
noncomputable def ml74 : C := (cOp (slotT 74) (oRem .u8 (slotG 1) (kV (.int .u8 25)))
(cOp (slotT 75) (oConv .i64 (slotG 74))
(cOp (slotT 14) (oMove (slotG 75))
(cOp (slotT 80) (oCall 8 [(slotG 10), (slotG 14), (kV (.int .i64 30)), (slotG 12)])
(cOp (slotT 81) (oExtract 0 (slotG 80))
(cOp (slotT 82) (oExtract 1 (slotG 80))
(cOp (slotT 83) (oExtract 2 (slotG 80))
(cOp (slotT 16) (oAlloc 3 zt31)
(cOp (slotT 15) (oMove (slotG 81))
(cDo (oStore 3 (slotG 16) (slotG 82))
(cOp (slotT 17) (oMove (slotG 83))
(cOp (slotT 85) (oCmp iNe .i64 (slotG 17) (kV (.int .i64 0)))
(cG (slotG 85) false (slotT 87) (oMove (slotG 15))
(cG (slotG 85) false (slotT 88) (oLenS (slotG 87))
(cG (slotG 85) false (slotT 89) (oMove (slotG 10))
(cG (slotG 85) false (slotT 90) (oLenS (slotG 89))
(cG (slotG 85) false (slotT 91) (oCmp iNe .i64 (slotG 88) (slotG 90))
(cOp (slotT 92) (oPick (slotG 85) (kV (.bool true)) (slotG 91))
(cG (slotG 92) false (slotT 94) (oLoadN 3 (slotG 16))
(cG (slotG 92) false (slotT 95) (oCall 9 [(slotG 94)])
(cG (slotG 92) false (slotT 96) (oNot (slotG 95))
(cOp (slotT 97) (oPick (slotG 92) (kV (.bool true)) (slotG 96))
(cCond (slotG 97)
(cOp (slotT 8) (oMove (kV (.bool false)))
cRet)
(cOp (slotT 98) oMap
(cOp (slotT 18) (oMove (slotG 98))
(cOp (slotT 99) (oFieldAddr 2 (slotG 16))
(cOp (slotT 100) (oLoad1 (slotG 99))
(cOp (slotT 101) (oLenS (slotG 100))
(cOp (slotT 102) (oMove (kV (.int .i64 0)))
(cSeq (cBlock 2 (cLoop (cOp (slotT 103) (oCmp iLt .i64 (slotG 102) (slotG 101))
(cCond (slotG 103)
(cSeq (cBlock 3 (cOp (slotT 104) (oIdx 1 (slotG 100) (slotG 102))
(cOp (slotT 105) (oLoad1 (slotG 104))
(cOp (slotT 20) (oMove (slotG 105))
(cDo (oUpdate ⟨false, [.i .i64]⟩ (slotG 18) (slotG 20) (kV (.int .i64 1)))
cNorm)))))
(cOp (slotT 108) (oAdd .i64 (topOf .i64) (slotG 102) (kV (.int .i64 1)))
(cOp (slotT 102) (oMove (slotG 108))
cNorm)))
(cExit 2)))))
(cOp (slotT 109) (oMove (slotG 12))
(cOp (slotT 110) (oLenS (slotG 109))
(cOp (slotT 111) (oMove (kV (.int .i64 0)))
(cSeq (cBlock 4 (cLoop (cOp (slotT 112) (oCmp iLt .i64 (slotG 111) (slotG 110))
(cCond (slotG 112)
(cSeq (cBlock 5 (cOp (slotT 113) (oIdx 1 (slotG 109) (slotG 111))
(cOp (slotT 114) (oLoad1 (slotG 113))
(cOp (slotT 22) (oMove (slotG 114))
(cOp (slotT 118) (oCall 10 [(slotG 10), (slotG 22)])
(cOp (slotT 119) (oExtract 0 (slotG 118))
(cOp (slotT 120) (oExtract 1 (slotG 118))
(cOp (slotT 23) (oAlloc 2 zt37)
(cDo (oStore 2 (slotG 23) (slotG 119))
(cOp (slotT 24) (oMove (slotG 120))
(cMark (cOp (slotT 122) (oNot (slotG 24))
(cG (slotG 122) false (slotT 124) (oMove (slotG 18))
(cG (slotG 122) false (slotT 125) (oMove (slotG 22))
(cOld (slotG 124) (cChk (slotG 124) []
(cG (slotG 122) false (slotT 126) (oLookup ⟨false, [.i .i64]⟩ (.int .i64 0) false (slotG 124) (slotG 125))
(cG (slotG 122) false (slotT 127) (oCmp iEq .i64 (slotG 126) (kV (.int .i64 1)))
(cG (slotG 122) false (slotT 128) (oLoadN 2 (slotG 23))
(cG (slotG 122) false (slotT 129) (oMove (slotG 14))
(cG (slotG 122) false (slotT 130) (oQuiet .weak (oCall 11 [(slotG 128), (slotG 129)]))
(cG (slotG 122) false (slotT 131) (oCmp iGe .i64 (slotG 130) (kV (.int .i64 0)))
(cG (slotG 122) false (slotT 132) (oEq ty4.k true (slotG 127) (slotG 131))
(cOp (slotT 133) (oPick (slotG 122) (kV (.bool true)) (slotG 132))
(cCond (slotG 133)
(cOp (slotT 8) (oMove (kV (.bool false)))
cRet)
cNorm)))))))))))))))))))))))))
(cOp (slotT 134) (oAdd .i64 (topOf .i64) (slotG 111) (kV (.int .i64 1)))
(cOp (slotT 111) (oMove (slotG 134))
cNorm)))
(cExit 4)))))
(cOp (slotT 25) (oMove (kV (.int .i64 0)))
(cSeq (cBlock 6 (cLoop (cOp (slotT 136) (oCmp iLt .i64 (slotG 25) (kV (.int .i64 60)))
(cG (slotG 136) true (slotT 138) (oFieldAddr 2 (slotG 16))
(cG (slotG 136) true (slotT 139) (oLoad1 (slotG 138))
(cG (slotG 136) true (slotT 140) (oLenS (slotG 139))
(cG (slotG 136) true (slotT 141) (oCmp iGt .i64 (slotG 140) (kV (.int .i64 0)))
(cOp (slotT 142) (oPick (slotG 136) (slotG 141) (kV (.bool false)))
(cCond (slotG 142)
(cSeq (cBlock 7 (cOp (slotT 26) (oMove (kV (.int .i64 0)))
(cOp (slotT 147) (oLenS (slotG 3))
(cOp (slotT 148) (oCmp iLt .i64 (slotG 25) (slotG 147))
(cSeq (cCond (slotG 148)
(cMark (cOp (slotT 151) (oIdx 1 (slotG 3) (slotG 25))
(cOp (slotT 152) (oLoad1 (slotG 151))
(cOp (slotT 153) (oConv .i64 (slotG 152))
(cOp (slotT 154) (oFieldAddr 2 (slotG 16))
(cOp (slotT 155) (oLoad1 (slotG 154))
(cOp (slotT 156) (oLenS (slotG 155))
(cOp (slotT 157) (oRem .i64 (slotG 153) (slotG 156))
(cOp (slotT 26) (oMove (slotG 157))
cNorm)))))))))
cNorm)
(cOp (slotT 158) (oFieldAddr 2 (slotG 16))
(cOp (slotT 159) (oLoad1 (slotG 158))
(cOp (slotT 161) (oIdx 1 (slotG 159) (slotG 26))
(cOp (slotT 162) (oLoad1 (slotG 161))
(cOp (slotT 27) (oMove (slotG 162))
(cOp (slotT 164) (oLoadN 3 (slotG 16))
(cOp (slotT 166) (oCall 12 [(slotG 164), (slotG 27)])
(cOp (slotT 167) (oExtract 0 (slotG 166))
(cOp (slotT 168) (oExtract 1 (slotG 166))
(cOp (slotT 28) (oAlloc 3 zt31)
(cDo (oStore 3 (slotG 28) (slotG 167))
(cOp (slotT 29) (oMove (slotG 168))
(cOp (slotT 170) (oLoadN 3 (slotG 28))
(cOp (slotT 172) (oCall 12 [(slotG 170), (slotG 27)])
(cOp (slotT 173) (oExtract 0 (slotG 172))
(cOp (slotT 174) (oExtract 1 (slotG 172))
(cOp (slotT 30) (oAlloc 3 zt31)
(cDo (oStore 3 (slotG 30) (slotG 173))
(cOp (slotT 31) (oMove (slotG 174))
(cOp (slotT 176) (oCmp iNe .i64 (slotG 29) (kV (.int .i64 0)))
(cG (slotG 176) false (slotT 178) (oMove (slotG 31))
(cG (slotG 176) false (slotT 179) (oCmp iNe .i64 (slotG 178) (kV (.int .i64 167)))
(cOp (slotT 180) (oPick (slotG 176) (kV (.bool true)) (slotG 179))
(cG (slotG 180) false (slotT 182) (oFieldAddr 2 (slotG 28))
(cG (slotG 180) false (slotT 183) (oLoad1 (slotG 182))
(cG (slotG 180) false (slotT 184) (oLenS (slotG 183))
(cG (slotG 180) false (slotT 185) (oFieldAddr 2 (slotG 16))
(cG (slotG 180) false (slotT 186) (oLoad1 (slotG 185))
(cG (slotG 180) false (slotT 187) (oLenS (slotG 186))
(cG (slotG 180) false (slotT 188) (oAri Int.sub .i64 (slotG 187) (kV (.int .i64 1)))
(cG (slotG 180) false (slotT 189) (oCmp iNe .i64 (slotG 184) (slotG 188))
(cOp (slotT 190) (oPick (slotG 180) (kV (.bool true)) (slotG 189))
(cG (slotG 190) false (slotT 192) (oLoadN 3 (slotG 28))
(cG (slotG 190) false (slotT 193) (oCall 9 [(slotG 192)])
(cG (slotG 190) false (slotT 194) (oNot (slotG 193))
(cOp (slotT 195) (oPick (slotG 190) (kV (.bool true)) (slotG 194))
(cG (slotG 195) false (slotT 197) (oLoadN 3 (slotG 16))
(cG (slotG 195) false (slotT 198) (oCall 13 [(slotG 197)])
(cOp (slotT 199) (oPick (slotG 195) (kV (.bool true)) (slotG 198))
(cCond (slotG 199)
(cOp (slotT 8) (oMove (kV (.bool false)))
cRet)
(cOp (slotT 200) (oLoadN 3 (slotG 28))
(cDo (oStore 3 (slotG 16) (slotG 200))
cNorm)))))))))))))))))))))))))))))))))))))))))))))))
(cOp (slotT 144) (oAdd .i64 (topOf .i64) (slotG 25) (kV (.int .i64 1)))
(cOp (slotT 25) (oMove (slotG 144))
cNorm)))
(cExit 6))))))))))
(cOp (slotT 201) (oLoadN 3 (slotG 16))
(cOp (slotT 202) (oCall 13 [(slotG 201)])
(cG (slotG 202) true (slotT 204) (oCall 14 [])
(cOp (slotT 205) (oPick (slotG 202) (slotG 204) (kV (.bool false)))
(cOp (slotT 8) (oMove (slotG 205))
cRet)))))))))))))))))))))))))))))))))))))))))
noncomputable def mlS2 : C := (cSeq (cBlock 2 (cLoop (cOp (slotT 103) (oCmp iLt .i64 (slotG 102) (slotG 101))
(cCond (slotG 103)
(cSeq (cBlock 3 (cOp (slotT 104) (oIdx 1 (slotG 100) (slotG 102))
(cOp (slotT 105) (oLoad1 (slotG 104))
(cOp (slotT 20) (oMove (slotG 105))
(cDo (oUpdate ⟨false, [.i .i64]⟩ (slotG 18) (slotG 20) (kV (.int .i64 1)))
cNorm)))))
(cOp (slotT 108) (oAdd .i64 (topOf .i64) (slotG 102) (kV (.int .i64 1)))
(cOp (slotT 102) (oMove (slotG 108))
cNorm)))
(cExit 2)))))
(cOp (slotT 109) (oMove (slotG 12))
(cOp (slotT 110) (oLenS (slotG 109))
(cOp (slotT 111) (oMove (kV (.int .i64 0)))
(cSeq (cBlock 4 (cLoop (cOp (slotT 112) (oCmp iLt .i64 (slotG 111) (slotG 110))
(cCond (slotG 112)
(cSeq (cBlock 5 (cOp (slotT 113) (oIdx 1 (slotG 109) (slotG 111))
(cOp (slotT 114) (oLoad1 (slotG 113))
(cOp (slotT 22) (oMove (slotG 114))
(cOp (slotT 118) (oCall 10 [(slotG 10), (slotG 22)])
(cOp (slotT 119) (oExtract 0 (slotG 118))
(cOp (slotT 120) (oExtract 1 (slotG 118))
(cOp (slotT 23) (oAlloc 2 zt37)
(cDo (oStore 2 (slotG 23) (slotG 119))
(cOp (slotT 24) (oMove (slotG 120))
(cMark (cOp (slotT 122) (oNot (slotG 24))
(cG (slotG 122) false (slotT 124) (oMove (slotG 18))
(cG (slotG 122) false (slotT 125) (oMove (slotG 22))
(cOld (slotG 124) (cChk (slotG 124) []
(cG (slotG 122) false (slotT 126) (oLookup ⟨false, [.i .i64]⟩ (.int .i64 0) false (slotG 124) (slotG 125))
(cG (slotG 122) false (slotT 127) (oCmp iEq .i64 (slotG 126) (kV (.int .i64 1)))
(cG (slotG 122) false (slotT 128) (oLoadN 2 (slotG 23))
(cG (slotG 122) false (slotT 129) (oMove (slotG 14))
(cG (slotG 122) false (slotT 130) (oQuiet .weak (oCall 11 [(slotG 128), (slotG 129)]))
(cG (slotG 122) false (slotT 131) (oCmp iGe .i64 (slotG 130) (kV (.int .i64 0)))
(cG (slotG 122) false (slotT 132) (oEq ty4.k true (slotG 127) (slotG 131))
(cOp (slotT 133) (oPick (slotG 122) (kV (.bool true)) (slotG 132))
(cCond (slotG 133)
(cOp (slotT 8) (oMove (kV (.bool false)))
cRet)
cNorm)))))))))))))))))))))))))
(cOp (slotT 134) (oAdd .i64 (topOf .i64) (slotG 111) (kV (.int .i64 1)))
(cOp (slotT 111) (oMove (slotG 134))
cNorm)))
(cExit 4)))))
(cOp (slotT 25) (oMove (kV (.int .i64 0)))
(cSeq (cBlock 6 (cLoop (cOp (slotT 136) (oCmp iLt .i64 (slotG 25) (kV (.int .i64 60)))
(cG (slotG 136) true (slotT 138) (oFieldAddr 2 (slotG 16))
(cG (slotG 136) true (slotT 139) (oLoad1 (slotG 138))
(cG (slotG 136) true (slotT 140) (oLenS (slotG 139))
(cG (slotG 136) true (slotT 141) (oCmp iGt .i64 (slotG 140) (kV (.int .i64 0)))
(cOp (slotT 142) (oPick (slotG 136) (slotG 141) (kV (.bool false)))
(cCond (slotG 142)
(cSeq (cBlock 7 (cOp (slotT 26) (oMove (kV (.int .i64 0)))
(cOp (slotT 147) (oLenS (slotG 3))
(cOp (slotT 148) (oCmp iLt .i64 (slotG 25) (slotG 147))
(cSeq (cCond (slotG 148)
(cMark (cOp (slotT 151) (oIdx 1 (slotG 3) (slotG 25))
(cOp (slotT 152) (oLoad1 (slotG 151))
(cOp (slotT 153) (oConv .i64 (slotG 152))
(cOp (slotT 154) (oFieldAddr 2 (slotG 16))
(cOp (slotT 155) (oLoad1 (slotG 154))
(cOp (slotT 156) (oLenS (slotG 155))
(cOp (slotT 157) (oRem .i64 (slotG 153) (slotG 156))
(cOp (slotT 26) (oMove (slotG 157))
cNorm)))))))))
cNorm)
(cOp (slotT 158) (oFieldAddr 2 (slotG 16))
(cOp (slotT 159) (oLoad1 (slotG 158))
(cOp (slotT 161) (oIdx 1 (slotG 159) (slotG 26))
(cOp (slotT 162) (oLoad1 (slotG 161))
(cOp (slotT 27) (oMove (slotG 162))
(cOp (slotT 164) (oLoadN 3 (slotG 16))
(cOp (slotT 166) (oCall 12 [(slotG 164), (slotG 27)])
(cOp (slotT 167) (oExtract 0 (slotG 166))
(cOp (slotT 168) (oExtract 1 (slotG 166))
(cOp (slotT 28) (oAlloc 3 zt31)
(cDo (oStore 3 (slotG 28) (slotG 167))
(cOp (slotT 29) (oMove (slotG 168))
(cOp (slotT 170) (oLoadN 3 (slotG 28))
(cOp (slotT 172) (oCall 12 [(slotG 170), (slotG 27)])
(cOp (slotT 173) (oExtract 0 (slotG 172))
(cOp (slotT 174) (oExtract 1 (slotG 172))
(cOp (slotT 30) (oAlloc 3 zt31)
(cDo (oStore 3 (slotG 30) (slotG 173))
(cOp (slotT 31) (oMove (slotG 174))
(cOp (slotT 176) (oCmp iNe .i64 (slotG 29) (kV (.int .i64 0)))
(cG (slotG 176) false (slotT 178) (oMove (slotG 31))
(cG (slotG 176) false (slotT 179) (oCmp iNe .i64 (slotG 178) (kV (.int .i64 167)))
(cOp (slotT 180) (oPick (slotG 176) (kV (.bool true)) (slotG 179))
(cG (slotG 180) false (slotT 182) (oFieldAddr 2 (slotG 28))
(cG (slotG 180) false (slotT 183) (oLoad1 (slotG 182))
(cG (slotG 180) false (slotT 184) (oLenS (slotG 183))
(cG (slotG 180) false (slotT 185) (oFieldAddr 2 (slotG 16))
(cG (slotG 180) false (slotT 186) (oLoad1 (slotG 185))
(cG (slotG 180) false (slotT 187) (oLenS (slotG 186))
(cG (slotG 180) false (slotT 188) (oAri Int.sub .i64 (slotG 187) (kV (.int .i64 1)))
(cG (slotG 180) false (slotT 189) (oCmp iNe .i64 (slotG 184) (slotG 188))
(cOp (slotT 190) (oPick (slotG 180) (kV (.bool true)) (slotG 189))
(cG (slotG 190) false (slotT 192) (oLoadN 3 (slotG 28))
(cG (slotG 190) false (slotT 193) (oCall 9 [(slotG 192)])
(cG (slotG 190) false (slotT 194) (oNot (slotG 193))
(cOp (slotT 195) (oPick (slotG 190) (kV (.bool true)) (slotG 194))
(cG (slotG 195) false (slotT 197) (oLoadN 3 (slotG 16))
(cG (slotG 195) false (slotT 198) (oCall 13 [(slotG 197)])
(cOp (slotT 199) (oPick (slotG 195) (kV (.bool true)) (slotG 198))
(cCond (slotG 199)
(cOp (slotT 8) (oMove (kV (.bool false)))
cRet)
(cOp (slotT 200) (oLoadN 3 (slotG 28))
(cDo (oStore 3 (slotG 16) (slotG 200))
cNorm)))))))))))))))))))))))))))))))))))))))))))))))
(cOp (slotT 144) (oAdd .i64 (topOf .i64) (slotG 25) (kV (.int .i64 1)))
(cOp (slotT 25) (oMove (slotG 144))
cNorm)))
(cExit 6))))))))))
(cOp (slotT 201) (oLoadN 3 (slotG 16))
(cOp (slotT 202) (oCall 13 [(slotG 201)])
(cG (slotG 202) true (slotT 204) (oCall 14 [])
(cOp (slotT 205) (oPick (slotG 202) (slotG 204) (kV (.bool false)))
(cOp (slotT 8) (oMove (slotG 205))
cRet))))))))))))
noncomputable def ml109 : C := (cOp (slotT 109) (oMove (slotG 12))
(cOp (slotT 110) (oLenS (slotG 109))
(cOp (slotT 111) (oMove (kV (.int .i64 0)))
(cSeq (cBlock 4 (cLoop (cOp (slotT 112) (oCmp iLt .i64 (slotG 111) (slotG 110))
(cCond (slotG 112)
(cSeq (cBlock 5 (cOp (slotT 113) (oIdx 1 (slotG 109) (slotG 111))
(cOp (slotT 114) (oLoad1 (slotG 113))
(cOp (slotT 22) (oMove (slotG 114))
(cOp (slotT 118) (oCall 10 [(slotG 10), (slotG 22)])
(cOp (slotT 119) (oExtract 0 (slotG 118))
(cOp (slotT 120) (oExtract 1 (slotG 118))
(cOp (slotT 23) (oAlloc 2 zt37)
(cDo (oStore 2 (slotG 23) (slotG 119))
(cOp (slotT 24) (oMove (slotG 120))
(cMark (cOp (slotT 122) (oNot (slotG 24))
(cG (slotG 122) false (slotT 124) (oMove (slotG 18))
(cG (slotG 122) false (slotT 125) (oMove (slotG 22))
(cOld (slotG 124) (cChk (slotG 124) []
(cG (slotG 122) false (slotT 126) (oLookup ⟨false, [.i .i64]⟩ (.int .i64 0) false (slotG 124) (slotG 125))
(cG (slotG 122) false (slotT 127) (oCmp iEq .i64 (slotG 126) (kV (.int .i64 1)))
(cG (slotG 122) false (slotT 128) (oLoadN 2 (slotG 23))
(cG (slotG 122) false (slotT 129) (oMove (slotG 14))
(cG (slotG 122) false (slotT 130) (oQuiet .weak (oCall 11 [(slotG 128), (slotG 129)]))
(cG (slotG 122) false (slotT 131) (oCmp iGe .i64 (slotG 130) (kV (.int .i64 0)))
(cG (slotG 122) false (slotT 132) (oEq ty4.k true (slotG 127) (slotG 131))
(cOp (slotT 133) (oPick (slotG 122) (kV (.bool true)) (slotG 132))
(cCond (slotG 133)
(cOp (slotT 8) (oMove (kV (.bool false)))
cRet)
cNorm)))))))))))))))))))))))))
(cOp (slotT 134) (oAdd .i64 (topOf .i64) (slotG 111) (kV (.int .i64 1)))
(cOp (slotT 111) (oMove (slotG 134))
cNorm)))
(cExit 4)))))
(cOp (slotT 25) (oMove (kV (.int .i64 0)))
(cSeq (cBlock 6 (cLoop (cOp (slotT 136) (oCmp iLt .i64 (slotG 25) (kV (.int .i64 60)))
(cG (slotG 136) true (slotT 138) (oFieldAddr 2 (slotG 16))
(cG (slotG 136) true (slotT 139) (oLoad1 (slotG 138))
(cG (slotG 136) true (slotT 140) (oLenS (slotG 139))
(cG (slotG 136) true (slotT 141) (oCmp iGt .i64 (slotG 140) (kV (.int .i64 0)))
(cOp (slotT 142) (oPick (slotG 136) (slotG 141) (kV (.bool false)))
(cCond (slotG 142)
(cSeq (cBlock 7 (cOp (slotT 26) (oMove (kV (.int .i64 0)))
(cOp (slotT 147) (oLenS (slotG 3))
(cOp (slotT 148) (oCmp iLt .i64 (slotG 25) (slotG 147))
(cSeq (cCond (slotG 148)
(cMark (cOp (slotT 151) (oIdx 1 (slotG 3) (slotG 25))
(cOp (slotT 152) (oLoad1 (slotG 151))
(cOp (slotT 153) (oConv .i64 (slotG 152))
(cOp (slotT 154) (oFieldAddr 2 (slotG 16))
(cOp (slotT 155) (oLoad1 (slotG 154))
(cOp (slotT 156) (oLenS (slotG 155))
(cOp (slotT 157) (oRem .i64 (slotG 153) (slotG 156))
(cOp (slotT 26) (oMove (slotG 157))
cNorm)))))))))
cNorm)
(cOp (slotT 158) (oFieldAddr 2 (slotG 16))
(cOp (slotT 159) (oLoad1 (slotG 158))
(cOp (slotT 161) (oIdx 1 (slotG 159) (slotG 26))
(cOp (slotT 162) (oLoad1 (slotG 161))
(cOp (slotT 27) (oMove (slotG 162))
(cOp (slotT 164) (oLoadN 3 (slotG 16))
(cOp (slotT 166) (oCall 12 [(slotG 164), (slotG 27)])
(cOp (slotT 167) (oExtract 0 (slotG 166))
(cOp (slotT 168) (oExtract 1 (slotG 166))
(cOp (slotT 28) (oAlloc 3 zt31)
(cDo (oStore 3 (slotG 28) (slotG 167))
(cOp (slotT 29) (oMove (slotG 168))
(cOp (slotT 170) (oLoadN 3 (slotG 28))
(cOp (slotT 172) (oCall 12 [(slotG 170), (slotG 27)])
(cOp (slotT 173) (oExtract 0 (slotG 172))
(cOp (slotT 174) (oExtract 1 (slotG 172))
(cOp (slotT 30) (oAlloc 3 zt31)
(cDo (oStore 3 (slotG 30) (slotG 173))
(cOp (slotT 31) (oMove (slotG 174))
(cOp (slotT 176) (oCmp iNe .i64 (slotG 29) (kV (.int .i64 0)))
(cG (slotG 176) false (slotT 178) (oMove (slotG 31))
(cG (slotG 176) false (slotT 179) (oCmp iNe .i64 (slotG 178) (kV (.int .i64 167)))
(cOp (slotT 180) (oPick (slotG 176) (kV (.bool true)) (slotG 179))
(cG (slotG 180) false (slotT 182) (oFieldAddr 2 (slotG 28))
(cG (slotG 180) false (slotT 183) (oLoad1 (slotG 182))
(cG (slotG 180) false (slotT 184) (oLenS (slotG 183))
(cG (slotG 180) false (slotT 185) (oFieldAddr 2 (slotG 16))
(cG (slotG 180) false (slotT 186) (oLoad1 (slotG 185))
(cG (slotG 180) false (slotT 187) (oLenS (slotG 186))
(cG (slotG 180) false (slotT 188) (oAri Int.sub .i64 (slotG 187) (kV (.int .i64 1)))
(cG (slotG 180) false (slotT 189) (oCmp iNe .i64 (slotG 184) (slotG 188))
(cOp (slotT 190) (oPick (slotG 180) (kV (.bool true)) (slotG 189))
(cG (slotG 190) false (slotT 192) (oLoadN 3 (slotG 28))
(cG (slotG 190) false (slotT 193) (oCall 9 [(slotG 192)])
(cG (slotG 190) false (slotT 194) (oNot (slotG 193))
(cOp (slotT 195) (oPick (slotG 190) (kV (.bool true)) (slotG 194))
(cG (slotG 195) false (slotT 197) (oLoadN 3 (slotG 16))
(cG (slotG 195) false (slotT 198) (oCall 13 [(slotG 197)])
(cOp (slotT 199) (oPick (slotG 195) (kV (.bool true)) (slotG 198))
(cCond (slotG 199)
(cOp (slotT 8) (oMove (kV (.bool false)))
cRet)
(cOp (slotT 200) (oLoadN 3 (slotG 28))
(cDo (oStore 3 (slotG 16) (slotG 200))
cNorm)))))))))))))))))))))))))))))))))))))))))))))))
(cOp (slotT 144) (oAdd .i64 (topOf .i64) (slotG 25) (kV (.int .i64 1)))
(cOp (slotT 25) (oMove (slotG 144))
cNorm)))
(cExit 6))))))))))
(cOp (slotT 201) (oLoadN 3 (slotG 16))
(cOp (slotT 202) (oCall 13 [(slotG 201)])
(cG (slotG 202) true (slotT 204) (oCall 14 [])
(cOp (slotT 205) (oPick (slotG 202) (slotG 204) (kV (.bool false)))
(cOp (slotT 8) (oMove (slotG 205))
cRet)))))))))))
noncomputable def mlS4 : C := (cSeq (cBlock 4 (cLoop (cOp (slotT 112) (oCmp iLt .i64 (slotG 111) (slotG 110))
(cCond (slotG 112)
(cSeq (cBlock 5 (cOp (slotT 113) (oIdx 1 (slotG 109) (slotG 111))
(cOp (slotT 114) (oLoad1 (slotG 113))
(cOp (slotT 22) (oMove (slotG 114))
(cOp (slotT 118) (oCall 10 [(slotG 10), (slotG 22)])
(cOp (slotT 119) (oExtract 0 (slotG 118))
(cOp (slotT 120) (oExtract 1 (slotG 118))
(cOp (slotT 23) (oAlloc 2 zt37)
(cDo (oStore 2 (slotG 23) (slotG 119))
(cOp (slotT 24) (oMove (slotG 120))
(cMark (cOp (slotT 122) (oNot (slotG 24))
(cG (slotG 122) false (slotT 124) (oMove (slotG 18))
(cG (slotG 122) false (slotT 125) (oMove (slotG 22))
(cOld (slotG 124) (cChk (slotG 124) []
(cG (slotG 122) false (slotT 126) (oLookup ⟨false, [.i .i64]⟩ (.int .i64 0) false (slotG 124) (slotG 125))
(cG (slotG 122) false (slotT 127) (oCmp iEq .i64 (slotG 126) (kV (.int .i64 1)))
(cG (slotG 122) false (slotT 128) (oLoadN 2 (slotG 23))
(cG (slotG 122) false (slotT 129) (oMove (slotG 14))
(cG (slotG 122) false (slotT 130) (oQuiet .weak (oCall 11 [(slotG 128), (slotG 129)]))
(cG (slotG 122) false (slotT 131) (oCmp iGe .i64 (slotG 130) (kV (.int .i64 0)))
(cG (slotG 122) false (slotT 132) (oEq ty4.k true (slotG 127) (slotG 131))
(cOp (slotT 133) (oPick (slotG 122) (kV (.bool true)) (slotG 132))
(cCond (slotG 133)
(cOp (slotT 8) (oMove (kV (.bool false)))
cRet)
cNorm)))))))))))))))))))))))))
(cOp (slotT 134) (oAdd .i64 (topOf .i64) (slotG 111) (kV (.int .i64 1)))
(cOp (slotT 111) (oMove (slotG 134))
cNorm)))
(cExit 4)))))
(cOp (slotT 25) (oMove (kV (.int .i64 0)))
(cSeq (cBlock 6 (cLoop (cOp (slotT 136) (oCmp iLt .i64 (slotG 25) (kV (.int .i64 60)))
(cG (slotG 136) true (slotT 138) (oFieldAddr 2 (slotG 16))
(cG (slotG 136) true (slotT 139) (oLoad1 (slotG 138))
(cG (slotG 136) true (slotT 140) (oLenS (slotG 139))
(cG (slotG 136) true (slotT 141) (oCmp iGt .i64 (slotG 140) (kV (.int .i64 0)))
(cOp (slotT 142) (oPick (slotG 136) (slotG 141) (kV (.bool false)))
(cCond (slotG 142)
(cSeq (cBlock 7 (cOp (slotT 26) (oMove (kV (.int .i64 0)))
(cOp (slotT 147) (oLenS (slotG 3))
(cOp (slotT 148) (oCmp iLt .i64 (slotG 25) (slotG 147))
(cSeq (cCond (slotG 148)
(cMark (cOp (slotT 151) (oIdx 1 (slotG 3) (slotG 25))
(cOp (slotT 152) (oLoad1 (slotG 151))
(cOp (slotT 153) (oConv .i64 (slotG 152))
(cOp (slotT 154) (oFieldAddr 2 (slotG 16))
(cOp (slotT 155) (oLoad1 (slotG 154))
(cOp (slotT 156) (oLenS (slotG 155))
(cOp (slotT 157) (oRem .i64 (slotG 153) (slotG 156))
(cOp (slotT 26) (oMove (slotG 157))
cNorm)))))))))
cNorm)
(cOp (slotT 158) (oFieldAddr 2 (slotG 16))
(cOp (slotT 159) (oLoad1 (slotG 158))
(cOp (slotT 161) (oIdx 1 (slotG 159) (slotG 26))
(cOp (slotT 162) (oLoad1 (slotG 161))
(cOp (slotT 27) (oMove (slotG 162))
(cOp (slotT 164) (oLoadN 3 (slotG 16))
(cOp (slotT 166) (oCall 12 [(slotG 164), (slotG 27)])
(cOp (slotT 167) (oExtract 0 (slotG 166))
(cOp (slotT 168) (oExtract 1 (slotG 166))
(cOp (slotT 28) (oAlloc 3 zt31)
(cDo (oStore 3 (slotG 28) (slotG 167))
(cOp (slotT 29) (oMove (slotG 168))
(cOp (slotT 170) (oLoadN 3 (slotG 28))
(cOp (slotT 172) (oCall 12 [(slotG 170), (slotG 27)])
(cOp (slotT 173) (oExtract 0 (slotG 172))
(cOp (slotT 174) (oExtract 1 (slotG 172))
(cOp (slotT 30) (oAlloc 3 zt31)
(cDo (oStore 3 (slotG 30) (slotG 173))
(cOp (slotT 31) (oMove (slotG 174))
(cOp (slotT 176) (oCmp iNe .i64 (slotG 29) (kV (.int .i64 0)))
(cG (slotG 176) false (slotT 178) (oMove (slotG 31))
(cG (slotG 176) false (slotT 179) (oCmp iNe .i64 (slotG 178) (kV (.int .i64 167)))
(cOp (slotT 180) (oPick (slotG 176) (kV (.bool true)) (slotG 179))
(cG (slotG 180) false (slotT 182) (oFieldAddr 2 (slotG 28))
(cG (slotG 180) false (slotT 183) (oLoad1 (slotG 182))
(cG (slotG 180) false (slotT 184) (oLenS (slotG 183))
(cG (slotG 180) false (slotT 185) (oFieldAddr 2 (slotG 16))
(cG (slotG 180) false (slotT 186) (oLoad1 (slotG 185))
(cG (slotG 180) false (slotT 187) (oLenS (slotG 186))
(cG (slotG 180) false (slotT 188) (oAri Int.sub .i64 (slotG 187) (kV (.int .i64 1)))
(cG (slotG 180) false (slotT 189) (oCmp iNe .i64 (slotG 184) (slotG 188))
(cOp (slotT 190) (oPick (slotG 180) (kV (.bool true)) (slotG 189))
(cG (slotG 190) false (slotT 192) (oLoadN 3 (slotG 28))
(cG (slotG 190) false (slotT 193) (oCall 9 [(slotG 192)])
(cG (slotG 190) false (slotT 194) (oNot (slotG 193))
(cOp (slotT 195) (oPick (slotG 190) (kV (.bool true)) (slotG 194))
(cG (slotG 195) false (slotT 197) (oLoadN 3 (slotG 16))
(cG (slotG 195) false (slotT 198) (oCall 13 [(slotG 197)])
(cOp (slotT 199) (oPick (slotG 195) (kV (.bool true)) (slotG 198))
(cCond (slotG 199)
(cOp (slotT 8) (oMove (kV (.bool false)))
cRet)
(cOp (slotT 200) (oLoadN 3 (slotG 28))
(cDo (oStore 3 (slotG 16) (slotG 200))
cNorm)))))))))))))))))))))))))))))))))))))))))))))))
(cOp (slotT 144) (oAdd .i64 (topOf .i64) (slotG 25) (kV (.int .i64 1)))
(cOp (slotT 25) (oMove (slotG 144))
cNorm)))
(cExit 6))))))))))
(cOp (slotT 201) (oLoadN 3 (slotG 16))
(cOp (slotT 202) (oCall 13 [(slotG 201)])
(cG (slotG 202) true (slotT 204) (oCall 14 [])
(cOp (slotT 205) (oPick (slotG 202) (slotG 204) (kV (.bool false)))
(cOp (slotT 8) (oMove (slotG 205))
cRet))))))))
noncomputable def ml25 : C := (cOp (slotT 25) (oMove (kV (.int .i64 0)))
(cSeq (cBlock 6 (cLoop (cOp (slotT 136) (oCmp iLt .i64 (slotG 25) (kV (.int .i64 60)))
(cG (slotG 136) true (slotT 138) (oFieldAddr 2 (slotG 16))
(cG (slotG 136) true (slotT 139) (oLoad1 (slotG 138))
(cG (slotG 136) true (slotT 140) (oLenS (slotG 139))
(cG (slotG 136) true (slotT 141) (oCmp iGt .i64 (slotG 140) (kV (.int .i64 0)))
(cOp (slotT 142) (oPick (slotG 136) (slotG 141) (kV (.bool false)))
(cCond (slotG 142)
(cSeq (cBlock 7 (cOp (slotT 26) (oMove (kV (.int .i64 0)))
(cOp (slotT 147) (oLenS (slotG 3))
(cOp (slotT 148) (oCmp iLt .i64 (slotG 25) (slotG 147))
(cSeq (cCond (slotG 148)
(cMark (cOp (slotT 151) (oIdx 1 (slotG 3) (slotG 25))
(cOp (slotT 152) (oLoad1 (slotG 151))
(cOp (slotT 153) (oConv .i64 (slotG 152))
(cOp (slotT 154) (oFieldAddr 2 (slotG 16))
(cOp (slotT 155) (oLoad1 (slotG 154))
(cOp (slotT 156) (oLenS (slotG 155))
(cOp (slotT 157) (oRem .i64 (slotG 153) (slotG 156))
(cOp (slotT 26) (oMove (slotG 157))
cNorm)))))))))
cNorm)
(cOp (slotT 158) (oFieldAddr 2 (slotG 16))
(cOp (slotT 159) (oLoad1 (slotG 158))
(cOp (slotT 161) (oIdx 1 (slotG 159) (slotG 26))
(cOp (slotT 162) (oLoad1 (slotG 161))
(cOp (slotT 27) (oMove (slotG 162))
(cOp (slotT 164) (oLoadN 3 (slotG 16))
(cOp (slotT 166) (oCall 12 [(slotG 164), (slotG 27)])
(cOp (slotT 167) (oExtract 0 (slotG 166))
(cOp (slotT 168) (oExtract 1 (slotG 166))
(cOp (slotT 28) (oAlloc 3 zt31)
(cDo (oStore 3 (slotG 28) (slotG 167))
(cOp (slotT 29) (oMove (slotG 168))
(cOp (slotT 170) (oLoadN 3 (slotG 28))
(cOp (slotT 172) (oCall 12 [(slotG 170), (slotG 27)])
(cOp (slotT 173) (oExtract 0 (slotG 172))
(cOp (slotT 174) (oExtract 1 (slotG 172))
(cOp (slotT 30) (oAlloc 3 zt31)
(cDo (oStore 3 (slotG 30) (slotG 173))
(cOp (slotT 31) (oMove (slotG 174))
(cOp (slotT 176) (oCmp iNe .i64 (slotG 29) (kV (.int .i64 0)))
(cG (slotG 176) false (slotT 178) (oMove (slotG 31))
(cG (slotG 176) false (slotT 179) (oCmp iNe .i64 (slotG 178) (kV (.int .i64 167)))
(cOp (slotT 180) (oPick (slotG 176) (kV (.bool true)) (slotG 179))
(cG (slotG 180) false (slotT 182) (oFieldAddr 2 (slotG 28))
(cG (slotG 180) false (slotT 183) (oLoad1 (slotG 182))
(cG (slotG 180) false (slotT 184) (oLenS (slotG 183))
(cG (slotG 180) false (slotT 185) (oFieldAddr 2 (slotG 16))
(cG (slotG 180) false (slotT 186) (oLoad1 (slotG 185))
(cG (slotG 180) false (slotT 187) (oLenS (slotG 186))
(cG (slotG 180) false (slotT 188) (oAri Int.sub .i64 (slotG 187) (kV (.int .i64 1)))
(cG (slotG 180) false (slotT 189) (oCmp iNe .i64 (slotG 184) (slotG 188))
(cOp (slotT 190) (oPick (slotG 180) (kV (.bool true)) (slotG 189))
(cG (slotG 190) false (slotT 192) (oLoadN 3 (slotG 28))
(cG (slotG 190) false (slotT 193) (oCall 9 [(slotG 192)])
(cG (slotG 190) false (slotT 194) (oNot (slotG 193))
(cOp (slotT 195) (oPick (slotG 190) (kV (.bool true)) (slotG 194))
(cG (slotG 195) false (slotT 197) (oLoadN 3 (slotG 16))
(cG (slotG 195) false (slotT 198) (oCall 13 [(slotG 197)])
(cOp (slotT 199) (oPick (slotG 195) (kV (.bool true)) (slotG 198))
(cCond (slotG 199)
(cOp (slotT 8) (oMove (kV (.bool false)))
cRet)
(cOp (slotT 200) (oLoadN 3 (slotG 28))
(cDo (oStore 3 (slotG 16) (slotG 200))
cNorm)))))))))))))))))))))))))))))))))))))))))))))))
(cOp (slotT 144) (oAdd .i64 (topOf .i64) (slotG 25) (kV (.int .i64 1)))
(cOp (slotT 25) (oMove (slotG 144))
cNorm)))
(cExit 6))))))))))
(cOp (slotT 201) (oLoadN 3 (slotG 16))
(cOp (slotT 202) (oCall 13 [(slotG 201)])
(cG (slotG 202) true (slotT 204) (oCall 14 [])
(cOp (slotT 205) (oPick (slotG 202) (slotG 204) (kV (.bool false)))
(cOp (slotT 8) (oMove (slotG 205))
cRet)))))))
noncomputable def mlS6 : C := (cSeq (cBlock 6 (cLoop (cOp (slotT 136) (oCmp iLt .i64 (slotG 25) (kV (.int .i64 60)))
(cG (slotG 136) true (slotT 138) (oFieldAddr 2 (slotG 16))
(cG (slotG 136) true (slotT 139) (oLoad1 (slotG 138))
(cG (slotG 136) true (slotT 140) (oLenS (slotG 139))
(cG (slotG 136) true (slotT 141) (oCmp iGt .i64 (slotG 140) (kV (.int .i64 0)))
(cOp (slotT 142) (oPick (slotG 136) (slotG 141) (kV (.bool false)))
(cCond (slotG 142)
(cSeq (cBlock 7 (cOp (slotT 26) (oMove (kV (.int .i64 0)))
(cOp (slotT 147) (oLenS (slotG 3))
(cOp (slotT 148) (oCmp iLt .i64 (slotG 25) (slotG 147))
(cSeq (cCond (slotG 148)
(cMark (cOp (slotT 151) (oIdx 1 (slotG 3) (slotG 25))
(cOp (slotT 152) (oLoad1 (slotG 151))
(cOp (slotT 153) (oConv .i64 (slotG 152))
(cOp (slotT 154) (oFieldAddr 2 (slotG 16))
(cOp (slotT 155) (oLoad1 (slotG 154))
(cOp (slotT 156) (oLenS (slotG 155))
(cOp (slotT 157) (oRem .i64 (slotG 153) (slotG 156))
(cOp (slotT 26) (oMove (slotG 157))
cNorm)))))))))
cNorm)
(cOp (slotT 158) (oFieldAddr 2 (slotG 16))
(cOp (slotT 159) (oLoad1 (slotG 158))
(cOp (slotT 161) (oIdx 1 (slotG 159) (slotG 26))
(cOp (slotT 162) (oLoad1 (slotG 161))
(cOp (slotT 27) (oMove (slotG 162))
(cOp (slotT 164) (oLoadN 3 (slotG 16))
(cOp (slotT 166) (oCall 12 [(slotG 164), (slotG 27)])
(cOp (slotT 167) (oExtract 0 (slotG 166))
(cOp (slotT 168) (oExtract 1 (slotG 166))
(cOp (slotT 28) (oAlloc 3 zt31)
(cDo (oStore 3 (slotG 28) (slotG 167))
(cOp (slotT 29) (oMove (slotG 168))
(cOp (slotT 170) (oLoadN 3 (slotG 28))
(cOp (slotT 172) (oCall 12 [(slotG 170), (slotG 27)])
(cOp (slotT 173) (oExtract 0 (slotG 172))
(cOp (slotT 174) (oExtract 1 (slotG 172))
(cOp (slotT 30) (oAlloc 3 zt31)
(cDo (oStore 3 (slotG 30) (slotG 173))
(cOp (slotT 31) (oMove (slotG 174))
(cOp (slotT 176) (oCmp iNe .i64 (slotG 29) (kV (.int .i64 0)))
(cG (slotG 176) false (slotT 178) (oMove (slotG 31))
(cG (slotG 176) false (slotT 179) (oCmp iNe .i64 (slotG 178) (kV (.int .i64 167)))
(cOp (slotT 180) (oPick (slotG 176) (kV (.bool true)) (slotG 179))
(cG (slotG 180) false (slotT 182) (oFieldAddr 2 (slotG 28))
(cG (slotG 180) false (slotT 183) (oLoad1 (slotG 182))
(cG (slotG 180) false (slotT 184) (oLenS (slotG 183))
(cG (slotG 180) false (slotT 185) (oFieldAddr 2 (slotG 16))
(cG (slotG 180) false (slotT 186) (oLoad1 (slotG 185))
(cG (slotG 180) false (slotT 187) (oLenS (slotG 186))
(cG (slotG 180) false (slotT 188) (oAri Int.sub .i64 (slotG 187) (kV (.int .i64 1)))
(cG (slotG 180) false (slotT 189) (oCmp iNe .i64 (slotG 184) (slotG 188))
(cOp (slotT 190) (oPick (slotG 180) (kV (.bool true)) (slotG 189))
(cG (slotG 190) false (slotT 192) (oLoadN 3 (slotG 28))
(cG (slotG 190) false (slotT 193) (oCall 9 [(slotG 192)])
(cG (slotG 190) false (slotT 194) (oNot (slotG 193))
(cOp (slotT 195) (oPick (slotG 190) (kV (.bool true)) (slotG 194))
(cG (slotG 195) false (slotT 197) (oLoadN 3 (slotG 16))
(cG (slotG 195) false (slotT 198) (oCall 13 [(slotG 197)])
(cOp (slotT 199) (oPick (slotG 195) (kV (.bool true)) (slotG 198))
(cCond (slotG 199)
(cOp (slotT 8) (oMove (kV (.bool false)))
cRet)
(cOp (slotT 200) (oLoadN 3 (slotG 28))
(cDo (oStore 3 (slotG 16) (slotG 200))
cNorm)))))))))))))))))))))))))))))))))))))))))))))))
(cOp (slotT 144) (oAdd .i64 (topOf .i64) (slotG 25) (kV (.int .i64 1)))
(cOp (slotT 25) (oMove (slotG 144))
cNorm)))
(cExit 6))))))))))
(cOp (slotT 201) (oLoadN 3 (slotG 16))
(cOp (slotT 202) (oCall 13 [(slotG 201)])
(cG (slotG 202) true (slotT 204) (oCall 14 [])
(cOp (slotT 205) (oPick (slotG 202) (slotG 204) (kV (.bool false)))
(cOp (slotT 8) (oMove (slotG 205))
cRet))))))
noncomputable def ml201 : C := (cOp (slotT 201) (oLoadN 3 (slotG 16))
(cOp (slotT 202) (oCall 13 [(slotG 201)])
(cG (slotG 202) true (slotT 204) (oCall 14 [])
(cOp (slotT 205) (oPick (slotG 202) (slotG 204) (kV (.bool false)))
(cOp (slotT 8) (oMove (slotG 205))
cRet)))))
noncomputable def d3h : C := (cOp (slotT 4) (oBox (slotG 0))
(cOp (slotT 8) (oMove (kV (.bool false)))
(cOp (slotT 32) (oIdxArr 3 1 (slotG 4) (kV (.int .i64 0)))
(cOp (slotT 33) (oLoad1 (slotG 32))
(cOp (slotT 34) (oRem .u8 (slotG 33) (kV (.int .u8 20)))
(cOp (slotT 35) (oConv .i64 (slotG 34))
(cOp (slotT 36) (oAdd .i64 (topOf .i64) (kV (.int .i64 1)) (slotG 35))
(cOp (slotT 9) (oMove (slotG 36))
(cMark (cOp (slotT 39) (oIdxArr 3 1 (slotG 4) (kV (.int .i64 1)))
(cOp (slotT 40) (oLoad1 (slotG 39))
(cOp (slotT 41) (oConv .i64 (slotG 40))
(cOp (slotT 43) (oRem .i64 (slotG 41) (slotG 9))
(cOp (slotT 44) (oAdd .i64 (topOf .i64) (kV (.int .i64 1)) (slotG 43))
(cOp (slotT 45) (oIdxArr 3 1 (slotG 4) (kV (.int .i64 2)))
(cOp (slotT 46) (oLoad1 (slotG 45))
(cOp (slotT 47) (oRem .u8 (slotG 46) (kV (.int .u8 40)))
(cOp (slotT 48) (oConv .i64 (slotG 47))
(cOp (slotT 49) (oAdd .i64 (topOf .i64) (kV (.int .i64 1)) (slotG 48))
(cOp (slotT 50) (oQuiet .free (oCall 7 [(slotG 9), (slotG 44), (slotG 49)]))
(cOp (slotT 51) (oExtract 0 (slotG 50))
(cOp (slotT 52) (oExtract 1 (slotG 50))
(cOp (slotT 10) (oMove (slotG 51))
(cOp (slotT 11) (oMove (slotG 52))
(cOp (slotT 54) (oCmp iNe .i64 (slotG 11) (kV (.int .i64 0)))
(cCond (slotG 54)
(cOp (slotT 8) (oMove (kV (.bool false)))
cRet)
(cOp (slotT 12) (oMove (kV (.slice none 0 0)))
(cOp (slotT 13) (oMove (kV (.int .i64 0)))
mlS0))))))))))))))))))))))))))))
noncomputable def ml74h : C := (cOp (slotT 74) (oRem .u8 (slotG 1) (kV (.int .u8 25)))
(cOp (slotT 75) (oConv .i64 (slotG 74))
(cOp (slotT 14) (oMove (slotG 75))
(cOp (slotT 80) (oCall 8 [(slotG 10), (slotG 14), (kV (.int .i64 30)), (slotG 12)])
(cOp (slotT 81) (oExtract 0 (slotG 80))
(cOp (slotT 82) (oExtract 1 (slotG 80))
(cOp (slotT 83) (oExtract 2 (slotG 80))
(cOp (slotT 16) (oAlloc 3 zt31)
(cOp (slotT 15) (oMove (slotG 81))
(cDo (oStore 3 (slotG 16) (slotG 82))
(cOp (slotT 17) (oMove (slotG 83))
(cOp (slotT 85) (oCmp iNe .i64 (slotG 17) (kV (.int .i64 0)))
(cG (slotG 85) false (slotT 87) (oMove (slotG 15))
(cG (slotG 85) false (slotT 88) (oLenS (slotG 87))
(cG (slotG 85) false (slotT 89) (oMove (slotG 10))
(cG (slotG 85) false (slotT 90) (oLenS (slotG 89))
(cG (slotG 85) false (slotT 91) (oCmp iNe .i64 (slotG 88) (slotG 90))
(cOp (slotT 92) (oPick (slotG 85) (kV (.bool true)) (slotG 91))
(cG (slotG 92) false (slotT 94) (oLoadN 3 (slotG 16))
(cG (slotG 92) false (slotT 95) (oCall 9 [(slotG 94)])
(cG (slotG 92) false (slotT 96) (oNot (slotG 95))
(cOp (slotT 97) (oPick (slotG 92) (kV (.bool true)) (slotG 96))
(cCond (slotG 97)
(cOp (slotT 8) (oMove (kV (.bool false)))
cRet)
(cOp (slotT 98) oMap
(cOp (slotT 18) (oMove (slotG 98))
(cOp (slotT 99) (oFieldAddr 2 (slotG 16))
(cOp (slotT 100) (oLoad1 (slotG 99))
(cOp (slotT 101) (oLenS (slotG 100))
(cOp (slotT 102) (oMove (kV (.int .i64 0)))
mlS2)))))))))))))))))))))))))))))
noncomputable def ml109h : C := (cOp (slotT 109) (oMove (slotG 12))
(cOp (slotT 110) (oLenS (slotG 109))
(cOp (slotT 111) (oMove (kV (.int .i64 0)))
mlS4)))
noncomputable def ml25h : C := (cOp (slotT 25) (oMove (kV (.int .i64 0)))
mlS6)
theorem d3_is : d3 = d3h := rfl
theorem mlS0_is : mlS0 = cSeq (cBlock 0 (cLoop loB)) ml74 := rfl
theorem ml74_is : ml74 = ml74h := rfl
theorem mlS2_is : mlS2 = cSeq (cBlock 2 (cLoop mpB)) ml109 := rfl
theorem ml109_is : ml109 = ml109h := rfl
theorem mlS4_is : mlS4 = cSeq (cBlock 4 (cLoop ckB)) ml25 := rfl
theorem ml25_is : ml25 = ml25h := rfl
theorem mlS6_is : mlS6 = cSeq (cBlock 6 (cLoop rmB)) ml201 := rfl
theorem idxA {h : Hp} {b i : Nat} (hi : i < 3) : idxR 3 1 (.pointer (some ⟨b, 0, none⟩)) (.int .i64 (i : Int)) h = .ok (.pointer (some ⟨b, i, none⟩)) h := by
  have := idxR_is (h := h) (n := 3) (es := 1) (b := b) (off := 0) (k := .i64) hi
  rw [Nat.zero_add, Nat.mul_one] at this; exact this
theorem Hp.Pls.same {h h' : Hp} {k : Nat} {v : Value} {ws : List Pw} (d : h.Pls k v ws) (hb : h'.bl = h.bl) : h'.Pls k v ws := by
  rcases d with h1 | ⟨b, h1, h2, h3⟩
  · exact .inl h1
  · exact .inr ⟨b, h1, h2.same hb, h3⟩
theorem Hp.Nds.same {h h' : Hp} {k : Nat} {ws : List Pw} (d : h.Nds k ws) (hb : h'.bl = h.bl) : h'.Nds k ws := fun y hy => (d y hy).same hb
/-- the first part: placements -/
theorem ml_a {n : Nat} {h : Hp} (W : h.Wf) {x0 x1 x2 fr : Nat} (h0 : x0 < 256) (h1 : x1 < 256) (h2 : x2 < 256) {u o : Value} :
    ∃ e1 g v ws, d3h (call bodies (n + 9)) (setArgs e0 0 [.agg ⟨[.int .u8 (x0 : Int), .int .u8 (x1 : Int), .int .u8 (x2 : Int)]⟩, .int .u8 (fr : Int), u, o]) h = mlS0 (call bodies (n + 9)) e1 g ∧ h.Ext g ∧ g.Pls (h.next + 1) v ws ∧ g.Nds (h.next + 1) ws ∧ ws.length = 1 + x2 % 40 ∧
      (∀ i x, ws[i]? = some x → x.1 = 1 ∧ x.2.2 = nodesL (1 + x0 % 20) (1 + x1 % (1 + x0 % 20)) i) ∧ slotG 1 e1 = .int .u8 (fr : Int) ∧ slotG 2 e1 = u ∧ slotG 3 e1 = o ∧ slotG 10 e1 = v ∧ slotG 12 e1 = .slice none 0 0 ∧ slotG 13 e1 = .int .i64 0 := by
  have y1 := (Hp.Ext.refl W).pushRow 0 [.int .u8 (x0 : Int), .int .u8 (x1 : Int), .int .u8 (x2 : Int)]
  have R := Hp.Row.new W 0 [.int .u8 (x0 : Int), .int .u8 (x1 : Int), .int .u8 (x2 : Int)]
  have n1 : (h.pushRow 0 [.int .u8 (x0 : Int), .int .u8 (x1 : Int), .int .u8 (x2 : Int)]).next = h.next + 1 := rfl
  have hbx : ∀ e : Env, slotG 0 e = .agg ⟨[.int .u8 (x0 : Int), .int .u8 (x1 : Int), .int .u8 (x2 : Int)]⟩ → oBox (slotG 0) (call bodies (n + 9)) e h = .ok (.pointer (some ⟨h.next, 0, none⟩)) (h.pushRow 0 [.int .u8 (x0 : Int), .int .u8 (x1 : Int), .int .u8 (x2 : Int)]) := fun e he => by rw [oBox_is, he, boxR_is W]; rfl
  generalize h.pushRow 0 [.int .u8 (x0 : Int), .int .u8 (x1 : Int), .int .u8 (x2 : Int)] = g1 at y1 R n1 hbx
  have Rm : g1.marked.Row h.next 0 [.int .u8 (x0 : Int), .int .u8 (x1 : Int), .int .u8 (x2 : Int)] := R.same rfl
  have i0 : idxR 3 1 (.pointer (some ⟨h.next, 0, none⟩)) (.int .i64 0) g1 = .ok (.pointer (some ⟨h.next, 0, none⟩)) g1 := idxA (i := 0) (by omega)
  have i1 : idxR 3 1 (.pointer (some ⟨h.next, 0, none⟩)) (.int .i64 1) g1.marked = .ok (.pointer (some ⟨h.next, 1, none⟩)) g1.marked := idxA (i := 1) (by omega)
  have i2 : idxR 3 1 (.pointer (some ⟨h.next, 0, none⟩)) (.int .i64 2) g1.marked = .ok (.pointer (some ⟨h.next, 2, none⟩)) g1.marked := idxA (i := 2) (by omega)
  have l0 : load1 ⟨h.next, 0, none⟩ g1 = .ok (.int .u8 (x0 : Int)) g1 := R.load1 (off := 0) (by simp)
  have l1 : load1 ⟨h.next, 1, none⟩ g1.marked = .ok (.int .u8 (x1 : Int)) g1.marked := Rm.load1 (off := 1) (by simp)
  have l2 : load1 ⟨h.next, 2, none⟩ g1.marked = .ok (.int .u8 (x2 : Int)) g1.marked := Rm.load1 (off := 2) (by simp)
  have r0 : remR .u8 (.int .u8 (x0 : Int)) (.int .u8 20) g1 = .ok (.int .u8 ((x0 % 20 : Nat) : Int)) g1 := by rw [remR_is (by omega)]; rfl
  have v0 : convR .i64 (.int .u8 ((x0 % 20 : Nat) : Int)) g1 = .ok (.int .i64 ((x0 % 20 : Nat) : Int)) g1 := by rw [convR_is, wrap_nat (by omega)]
  have a0 : addR .i64 (.int .i64 1) (.int .i64 ((x0 % 20 : Nat) : Int)) g1 = .ok (.int .i64 ((1 + x0 % 20 : Nat) : Int)) g1 := by
    have : (1 : Int) + ((x0 % 20 : Nat) : Int) = ((1 + x0 % 20 : Nat) : Int) := by omega
    rw [addR_is, this, wrap_nat (by omega)]
  have hN : 0 < 1 + x0 % 20 := by omega
  have hN2 : 1 + x0 % 20 ≤ 20 := by omega
  generalize 1 + x0 % 20 = N at a0 hN hN2
  have hx1 : x1 % N < N := Nat.mod_lt _ hN
  have v1 : convR .i64 (.int .u8 (x1 : Int)) g1.marked = .ok (.int .i64 (x1 : Int)) g1.marked := by rw [convR_is, wrap_nat (by omega)]
  have r1 : remR .i64 (.int .i64 (x1 : Int)) (.int .i64 (N : Int)) g1.marked = .ok (.int .i64 ((x1 % N : Nat) : Int)) g1.marked := by rw [remR_is (by omega)]; rfl
  have a1 : addR .i64 (.int .i64 1) (.int .i64 ((x1 % N : Nat) : Int)) g1.marked = .ok (.int .i64 ((1 + x1 % N : Nat) : Int)) g1.marked := by
    have : (1 : Int) + ((x1 % N : Nat) : Int) = ((1 + x1 % N : Nat) : Int) := by omega
    rw [addR_is, this, wrap_nat (by omega)]
  have r2 : remR .u8 (.int .u8 (x2 : Int)) (.int .u8 40) g1.marked = .ok (.int .u8 ((x2 % 40 : Nat) : Int)) g1.marked := by rw [remR_is (by omega)]; rfl
  have v2 : convR .i64 (.int .u8 ((x2 % 40 : Nat) : Int)) g1.marked = .ok (.int .i64 ((x2 % 40 : Nat) : Int)) g1.marked := by rw [convR_is, wrap_nat (by omega)]
  have a2 : addR .i64 (.int .i64 1) (.int .i64 ((x2 % 40 : Nat) : Int)) g1.marked = .ok (.int .i64 ((1 + x2 % 40 : Nat) : Int)) g1.marked := by
    have : (1 : Int) + ((x2 % 40 : Nat) : Int) = ((1 + x2 % 40 : Nat) : Int) := by omega
    rw [addR_is, this, wrap_nat (by omega)]
  have Wq := y1.wf.marked.quiet
  obtain ⟨g2, v, ws, f1, f2, f3, f4, f5, f6⟩ := first_is (m := n + 8) Wq (N := N) (n := 1 + x1 % N) (G := 1 + x2 % 40) hN (by omega) (by omega) (by omega) (by omega) (by omega)
  have q1 : ∀ e : Env, slotG 9 e = .int .i64 (N : Int) → slotG 44 e = .int .i64 ((1 + x1 % N : Nat) : Int) → slotG 49 e = .int .i64 ((1 + x2 % 40 : Nat) : Int) → oQuiet .free (oCall 7 [slotG 9, slotG 44, slotG 49]) (call bodies (n + 9)) e g1.marked = .ok (.tuple ⟨[v, .int .i64 0]⟩) (g1.marked.back g2) := fun e e1 e2 e3 => quiet_free (by simp only [oCall_is, vals_cons, vals_nil, e1, e2, e3]; exact f1)
  have xe : h.Ext (g1.marked.back g2) := y1.marked.trans f2.back
  have P1 : (g1.marked.back g2).Pls (h.next + 1) v ws := by rw [← n1]; exact f3.same rfl
  have D1 : (g1.marked.back g2).Nds (h.next + 1) ws := by rw [← n1]; exact f4.same rfl
  generalize g1.marked.back g2 = g3 at q1 xe P1 D1
  have c1 : iNe 0 0 = false := rfl
  have hrun : ∃ e1, d3h (call bodies (n + 9)) (setArgs e0 0 [.agg ⟨[.int .u8 (x0 : Int), .int .u8 (x1 : Int), .int .u8 (x2 : Int)]⟩, .int .u8 (fr : Int), u, o]) h = mlS0 (call bodies (n + 9)) e1 g3 ∧ slotG 1 e1 = .int .u8 (fr : Int) ∧ slotG 2 e1 = u ∧ slotG 3 e1 = o ∧ slotG 10 e1 = v ∧ slotG 12 e1 = .slice none 0 0 ∧ slotG 13 e1 = .int .i64 0 := by
    unfold d3h
    simp only [setArgs_cons, setArgs_nil, Nat.succ_eq_add_one, Nat.zero_add, Nat.reduceAdd, cOp_is, cCond_is, opX_ok, condX_false, oMove_is, kV_is, slot_set, Nat.reduceLT, Nat.reduceEqDiff, if_true, if_false, reduceIte, hbx, oIdxArr_is, i0, oLoad1_is, loadR_is, l0, oRem_is, r0, oConv_is, v0, oAdd_is, a0, marked_is, i1, l1, v1, r1, a1, i2, l2, r2, v2, a2, q1, oExtract_is, extractR_0, extractR_1, oCmp_is, cmpR_is, c1]
    exact ⟨_, rfl, by simp only [slot_set, Nat.reduceLT, Nat.reduceEqDiff, if_true, if_false, reduceIte], by simp only [slot_set, Nat.reduceLT, Nat.reduceEqDiff, if_true, if_false, reduceIte], by simp only [slot_set, Nat.reduceLT, Nat.reduceEqDiff, if_true, if_false, reduceIte], by simp only [slot_set, Nat.reduceLT, Nat.reduceEqDiff, if_true, if_false, reduceIte], by simp only [slot_set, Nat.reduceLT, Nat.reduceEqDiff, if_true, if_false, reduceIte], by simp only [slot_set, Nat.reduceLT, Nat.reduceEqDiff, if_true, if_false, reduceIte]⟩
  obtain ⟨e1, z1, z2⟩ := hrun
  exact ⟨e1, g3, v, ws, z1, xe, P1, D1, f5, f6, z2⟩
/-- the second part: the move begins -/
theorem ml_b {n : Nat} {h : Hp} (W : h.Wf) {k k' : Nat} {v w12 o : Value} {ws : List Pw} {all : List Int} {fr : Nat} (hfr : fr < 256) (d : h.Pls k v ws) (D : h.Nds k' ws) (hp : 0 < ws.length) (hl : ws.length ≤ 1000) (hok : ∀ x ∈ ws, okPl x.1 x.2.2) (hto : ∀ x ∈ ws, (30 : Int) ∉ x.2.2) (V : h.Vals w12 (ints .i64 all)) (hr : risingL (-1) all = true) (hal : all.length ≤ 60)
    {e : Env} (s1 : slotG 1 e = .int .u8 (fr : Int)) (s3 : slotG 3 e = o) (s10 : slotG 10 e = v) (s12 : slotG 12 e = w12) :
    ∃ e2 g g' w c r, ml74h (call bodies (n + 9)) e h = mlS2 (call bodies (n + 9)) e2 g' ∧ h.Ext g ∧ g.Ext g' ∧ h.next ≤ c ∧ g.Row c 0 [.int .i64 ((fr % 25 : Nat) : Int), .int .i64 30, w] ∧ g.Sl4 w (leftL (grp ((fr % 25 : Nat) : Int) 0 ws) ws.length all) ∧ g.next ≤ r ∧ g'.MapZ r [] ∧
      slotG 3 e2 = o ∧ slotG 10 e2 = v ∧ slotG 12 e2 = w12 ∧ slotG 14 e2 = .int .i64 ((fr % 25 : Nat) : Int) ∧ slotG 16 e2 = .pointer (some ⟨c, 0, none⟩) ∧ slotG 18 e2 = .map (some r) ∧ slotG 100 e2 = w ∧ slotG 101 e2 = .int .i64 ((leftL (grp ((fr % 25 : Nat) : Int) 0 ws) ws.length all).length : Int) ∧ slotG 102 e2 = .int .i64 0 := by
  have r0 : remR .u8 (.int .u8 (fr : Int)) (.int .u8 25) h = .ok (.int .u8 ((fr % 25 : Nat) : Int)) h := by rw [remR_is (by omega)]; rfl
  have v0 : convR .i64 (.int .u8 ((fr % 25 : Nat) : Int)) h = .ok (.int .i64 ((fr % 25 : Nat) : Int)) h := by rw [convR_is, wrap_nat (by omega)]
  have ha : fr % 25 < 25 := Nat.mod_lt _ (by omega)
  generalize fr % 25 = a at r0 v0 ha ⊢
  obtain ⟨h1, vo, w, cs, k2, b1, y1, b3, b4, b5⟩ := begin_is (n := n) W d D hp hl hok (fr := (a : Int)) (to_ := 30) (by omega) (by omega) (by omega) (by omega) (by omega) hto V hr (by omega)
  have hRt := right_left (gs := grp (a : Int) 0 ws) (N := ws.length) (a := (a : Int)) (by omega) (by omega) hr hal
  have hll : (leftL (grp (a : Int) 0 ws) ws.length all).length ≤ 60 := by
    have hs : (leftL (grp (a : Int) 0 ws) ws.length all).Sublist all := List.filter_sublist
    have := hs.length_le; omega
  generalize leftL (grp (a : Int) 0 ws) ws.length all = zs at b5 hRt hll ⊢
  obtain ⟨w1, w2⟩ := b5.vals.cells1
  obtain ⟨h2, al, st, x2, y2, R2, n2⟩ := cell3 y1 (a := .int .i64 (a : Int)) (b := .int .i64 30) (c := w) (one3 rfl rfl w2)
  have S2 := (b5.sl4).ext y1.wf y2
  have lm : loadN 3 ⟨h1.next, 0, none⟩ h2 = .ok (mvV (a : Int) 30 w) h2 := R2.loadN (by simp)
  have k3 := right_is (n := n + 7) x2.wf (f := (a : Int)) (t := 30) S2.vals (by omega)
  rw [hRt] at k3
  have y3 := right_ext x2.wf (f := (a : Int)) (t := 30) (u := w)
  have x3 := x2.trans y3
  have R3 := R2.ext x2.wf y3
  have S3 := S2.ext x2.wf y3
  generalize h2.pushRow 0 [.int .i64 (a : Int), .int .i64 30, w] = h3 at k3 y3 x3 R3 S3
  have y4 := (Hp.Ext.refl x3.wf).push (.map [] 0)
  have M4 := new_map x3.wf
  have om := fun (e : Env) => oMap_is (F := call bodies (n + 9)) (e := e) x3.wf
  have R4 := R3.ext x3.wf y4
  have S4 := S3.ext x3.wf y4
  generalize h3.push (.map [] 0) = h4 at y4 M4 om R4 S4
  have lw : load1 ⟨h1.next, 2, none⟩ h4 = .ok w h4 := R4.load1 (off := 2) (by simp)
  have vl : ∀ g : Hp, lenSR v g = .ok (.int .i64 (ws.length : Int)) g := fun g => d.len
  have vol : ∀ g : Hp, lenSR vo g = .ok (.int .i64 (ws.length : Int)) g := fun g => b4.len
  have c1 : iNe 0 0 = false := rfl
  have c2 : iNe (ws.length : Int) (ws.length : Int) = false := by rw [iNe_is]; simp
  have b1' : call bodies (n + 9) 8 [v, .int .i64 (a : Int), .int .i64 30, w12] h = .ok (.tuple ⟨[vo, .agg ⟨[.int .i64 (a : Int), .int .i64 30, w]⟩, .int .i64 0]⟩) h1 := b1
  have hrun : ∃ e2, ml74h (call bodies (n + 9)) e h = mlS2 (call bodies (n + 9)) e2 h4 ∧ slotG 3 e2 = o ∧ slotG 10 e2 = v ∧ slotG 12 e2 = w12 ∧ slotG 14 e2 = .int .i64 (a : Int) ∧ slotG 16 e2 = .pointer (some ⟨h1.next, 0, none⟩) ∧ slotG 18 e2 = .map (some h3.next) ∧ slotG 100 e2 = w ∧ slotG 101 e2 = .int .i64 (zs.length : Int) ∧ slotG 102 e2 = .int .i64 0 := by
    unfold ml74h
    simp only [cOp_is, cDo_is, cCond_is, opX_ok, doX_ok, condX_false, oMove_is, kV_is, slot_set, Nat.reduceLT, Nat.reduceEqDiff, if_true, if_false, reduceIte, cG_is, guardX_tt, guardX_tf, guardX_ft, guardX_ff, guardX_none, skipC_is, oPick_is, pickR_true, pickR_false, oRem_is, s1, r0, oConv_is, v0, oCall_is, vals_cons, vals_nil, s10, s12, b1', oExtract_is, extractR_0, extractR_1, extractR_2, al, oStore_is, st, oCmp_is, cmpR_is, c1, oLenS_is, vol, vl, c2, oLoadN_is, loadsR_is, lm, k3, oNot_is, notR_is, Bool.not_true, om, oFieldAddr_is', fieldAR_is, oLoad1_is, loadR_is, Nat.zero_add, lw, S4.vals.ilen]
    exact ⟨_, rfl, by simp only [slot_set, Nat.reduceLT, Nat.reduceEqDiff, if_true, if_false, reduceIte]; exact s3, by simp only [slot_set, Nat.reduceLT, Nat.reduceEqDiff, if_true, if_false, reduceIte, s10], by simp only [slot_set, Nat.reduceLT, Nat.reduceEqDiff, if_true, if_false, reduceIte, s12], by simp only [slot_set, Nat.reduceLT, Nat.reduceEqDiff, if_true, if_false, reduceIte], by simp only [slot_set, Nat.reduceLT, Nat.reduceEqDiff, if_true, if_false, reduceIte], by simp only [slot_set, Nat.reduceLT, Nat.reduceEqDiff, if_true, if_false, reduceIte], by simp only [slot_set, Nat.reduceLT, Nat.reduceEqDiff, if_true, if_false, reduceIte], by simp only [slot_set, Nat.reduceLT, Nat.reduceEqDiff, if_true, if_false, reduceIte], by simp only [slot_set, Nat.reduceLT, Nat.reduceEqDiff, if_true, if_false, reduceIte]⟩
  obtain ⟨e2, z1, z2⟩ := hrun
  exact ⟨e2, h3, h4, w, h1.next, h3.next, z1, x3, y4, y1.next, R3, S3, Nat.le_refl _, M4, z2⟩
theorem ml_is {n : Nat} {h : Hp} (W : h.Wf) {x0 x1 x2 fr : Nat} (h0 : x0 < 256) (h1 : x1 < 256) (h2 : x2 < 256) (hfr : fr < 256) {u o : Value} {bs : List Bool} {os : List Nat} (V : h.Vals u (bs.map Value.bool)) (O : h.Vals o (os.map bv)) (hb : ∀ x ∈ os, x < 256) :
    ∃ h', call bodies (n + 10) 3 [.agg ⟨[.int .u8 (x0 : Int), .int .u8 (x1 : Int), .int .u8 (x2 : Int)]⟩, .int .u8 (fr : Int), u, o] h = .ok (.bool true) h' ∧ h.Ext h' := by
  obtain ⟨e1, g1, v, ws, p1, x1', P1, D1, hws, hw, s1, s2, s3, s10, s12, s13⟩ := ml_a (n := n) W (fr := fr) (u := u) (o := o) h0 h1 h2
  have hN : 0 < 1 + x0 % 20 := by omega
  have hN2 : 1 + x0 % 20 ≤ 20 := by omega
  generalize 1 + x0 % 20 = N at hw hN hN2
  have hx1 : x1 % N < N := Nat.mod_lt _ hN
  have hp : 0 < ws.length := by omega
  have hl : ws.length ≤ 1000 := by omega
  have each : ∀ x ∈ ws, x.1 = 1 ∧ ∃ i, x.2.2 = nodesL N (1 + x1 % N) i := fun x hx => by
    obtain ⟨i, hi⟩ := List.getElem?_of_mem hx
    exact ⟨(hw i x hi).1, i, (hw i x hi).2⟩
  have hok : ∀ x ∈ ws, okPl x.1 x.2.2 := fun x hx => by
    obtain ⟨e, i, hi⟩ := each x hx
    rw [e, hi]; exact okPl_first hN hN2 (by omega) (by omega)
  have hto : ∀ x ∈ ws, (30 : Int) ∉ x.2.2 := fun x hx hm => by
    obtain ⟨_, i, hi⟩ := each x hx
    rw [hi] at hm
    have := nodes_mem hN hm
    omega
  -- flags
  obtain ⟨e2, g2, w12, q1, y2, A2, t12, ⟨k1, k2, k3, k10⟩⟩ := lo_loop (F := call bodies (n + 9)) x1'.wf (.refl x1'.wf) (V.ext W x1') s2 s12 s13
  have x2' := x1'.trans y2
  have hbl : (bs.take 60).length ≤ 60 := by rw [List.length_take]; omega
  have hal : (flagL 0 (bs.take 60)).length ≤ 60 := Nat.le_trans (flag_len _ 0) hbl
  have hr := flag_rising hbl
  have hmem : ∀ y ∈ flagL 0 (bs.take 60), 0 ≤ y ∧ y < 60 := fun y hy => by have := flag_mem _ 0 y hy; omega
  generalize flagL 0 (bs.take 60) = all at A2 hal hr hmem
  -- the move begins
  obtain ⟨e3, g3, g3', w, c, r, q3, y3, y3', hc, R3, S3, hr3, M3, u3, u10, u12, u14, u16, u18, u100, u101, u102⟩ := ml_b (n := n) x2'.wf hfr (P1.ext x1'.wf y2) (D1.ext x1'.wf y2) hp hl hok hto A2.vals hr hal (k1.trans s1) (k3.trans s3) (k10.trans s10) t12
  have x3 := x2'.trans y3
  have ha : fr % 25 < 25 := Nat.mod_lt _ (by omega)
  generalize fr % 25 = a at q3 R3 S3 u14 u101 ha
  have hRt := right_left (gs := grp (a : Int) 0 ws) (N := ws.length) (a := (a : Int)) (by omega) (by omega) hr hal
  have hsub : (leftL (grp (a : Int) 0 ws) ws.length all).Sublist all := List.filter_sublist
  have hlm : ∀ z, z ∈ leftL (grp (a : Int) 0 ws) ws.length all ↔ z ∈ all ∧ ((z.toNat % ws.length : Nat) : Int) ∈ grp (a : Int) 0 ws := fun z => left_mem
  generalize leftL (grp (a : Int) 0 ws) ws.length all = zs at S3 u101 hRt hsub hlm
  have hzl := hsub.length_le
  have hzr := (right_parts hRt).2.2.2.2.2.2
  obtain ⟨hzb, hzp⟩ := (rising_iff zs (-1)).1 hzr
  -- what is left, as a map
  obtain ⟨e4, g4, q4, y4, M4, m4⟩ := mp_loop (F := call bodies (n + 9)) x3.wf y3' S3.vals hr3 M3 (fun z hz => ⟨(hzb z hz).1, (hzb z hz).2.1⟩) (hzp.imp fun {a b} hab => by omega) (by omega) u18 u100 u101 u102
  have x4 := x3.trans y4
  obtain ⟨m3, m10, m12, m14, m16, m18⟩ := m4
  have z24 := y3.trans y4
  -- all are held against their placements
  have A4 := (A2.ext x2'.wf z24).vals
  have pre5 : ∃ e5, ml109h (call bodies (n + 9)) e4 g4 = mlS4 (call bodies (n + 9)) e5 g4 ∧ keep7 e4 e5 ∧ slotG 109 e5 = w12 ∧ slotG 110 e5 = .int .i64 (all.length : Int) ∧ slotG 111 e5 = .int .i64 0 := by
    have t12' := m12.trans u12
    unfold ml109h keep7
    simp only [cOp_is, opX_ok, oMove_is, kV_is, slot_set, Nat.reduceLT, Nat.reduceEqDiff, if_true, if_false, reduceIte, t12', oLenS_is, A4.ilen]
    exact ⟨_, rfl, ⟨by simp only [slot_set, Nat.reduceLT, Nat.reduceEqDiff, if_true, if_false, reduceIte], by simp only [slot_set, Nat.reduceLT, Nat.reduceEqDiff, if_true, if_false, reduceIte], by simp only [slot_set, Nat.reduceLT, Nat.reduceEqDiff, if_true, if_false, reduceIte, t12'], by simp only [slot_set, Nat.reduceLT, Nat.reduceEqDiff, if_true, if_false, reduceIte], by simp only [slot_set, Nat.reduceLT, Nat.reduceEqDiff, if_true, if_false, reduceIte], by simp only [slot_set, Nat.reduceLT, Nat.reduceEqDiff, if_true, if_false, reduceIte]⟩, by simp only [slot_set, Nat.reduceLT, Nat.reduceEqDiff, if_true, if_false, reduceIte], by simp only [slot_set, Nat.reduceLT, Nat.reduceEqDiff, if_true, if_false, reduceIte], by simp only [slot_set, Nat.reduceLT, Nat.reduceEqDiff, if_true, if_false, reduceIte]⟩
  obtain ⟨e5, p5, kk5, v109, v110, v111⟩ := pre5
  have kk5' := kk5
  obtain ⟨n3, n10, n12, n14, n16, n18⟩ := kk5'
  obtain ⟨e6, g6, q6, y6, m6⟩ := ck_loop (n := n + 6) x4.wf (a := (a : Int)) ((P1.ext x1'.wf y2).ext x2'.wf z24) ((D1.ext x1'.wf y2).ext x2'.wf z24) hp hl M4 (fun z hz => by have := hzb z hz; omega) A4 hal (fun y hy => by have := hmem y hy; omega)
    (fun x hx => by have := hok x hx; unfold okPl at this; omega)
    (fun z x hz hx => by
      rw [hlm]
      have e1 : (((z : Int).toNat % ws.length : Nat) : Int) = ((0 + z % ws.length : Nat) : Int) := by rw [Int.toNat_natCast, Nat.zero_add]
      rw [e1, grp_is ws 0 (z % ws.length)]
      exact ⟨fun ⟨_, y, h1, h2⟩ => by rw [hx] at h1; cases h1; exact h2, fun h => ⟨hz, x, hx, h⟩⟩)
    ((n10.trans m10).trans u10) ((n14.trans m14).trans u14) ((n18.trans m18).trans u18) v109 v110 v111
  have x6 := x4.trans y6
  obtain ⟨o3, o10, o12, o14, o16, o18⟩ := m6
  -- one by one they are mended
  have w3 : slotG 3 e6 = o := ((o3.trans n3).trans m3).trans u3
  have w16 : slotG 16 e6 = .pointer (some ⟨c, 0, none⟩) := ((o16.trans n16).trans m16).trans u16
  have zz := y4.trans y6
  obtain ⟨e7, g7, w7, q7, x7, R7, S7, hr7, v16⟩ := rm_loop (n := n + 6) W x6 (Nat.le_trans x2'.next hc) O hb (R3.ext x3.wf zz) (S3.ext x3.wf zz) hRt (by omega) (e := Env.set 25 (.int .i64 0) e6) (by simp only [slot_set, Nat.reduceLT, Nat.reduceEqDiff, if_true, if_false, reduceIte]; exact w3) (by simp only [slot_set, Nat.reduceLT, Nat.reduceEqDiff, if_true, if_false, reduceIte]; exact w16) (by simp only [slot_set, Nat.reduceLT, Nat.reduceEqDiff, if_true, if_false, reduceIte])
  have lm : loadN 3 ⟨c, 0, none⟩ g7 = .ok (mvV (a : Int) 30 w7) g7 := R7.loadN (by simp)
  obtain ⟨g8, k8, y8⟩ := over_is (n := n + 6) x7.wf (f := (a : Int)) (t := 30) S7.vals (by simp)
  rw [hr7] at k8
  have k8 : call bodies (n + 9) 13 [mvV (a : Int) 30 w7] g7 = .ok (.bool true) g8 := k8
  have aw := call_awake (bs := bodies) (n := n + 8) (f := 14) awake_at (h := g8)
  have hrun : ∃ e8, ml201 (call bodies (n + 9)) e7 g7 = .ret e8 g8 ∧ slotG 8 e8 = .bool true := by
    unfold ml201
    simp only [cOp_is, cDo_is, cCond_is, cSeq_is, cBlock_is, cNorm_is, cRet_is, cExit_is, opX_ok, doX_ok, condX_true, condX_false, seqX_norm, seqX_exit, seqX_ret, blockX_norm, blockX_ret, blockX_exit, oMove_is, kV_is, slot_set, Nat.reduceLT, Nat.reduceEqDiff, if_true, if_false, reduceIte, cG_is, guardX_tt, guardX_tf, guardX_ft, guardX_ff, guardX_none, skipC_is, oPick_is, pickR_true, pickR_false, oLoadN_is, v16, loadsR_is, lm, oCall_is, vals_cons, vals_nil, k8, aw]
    exact ⟨_, rfl, by simp only [slot_set, Nat.reduceLT, Nat.reduceEqDiff, if_true, if_false, reduceIte]⟩
  obtain ⟨e8, r8, s8⟩ := hrun
  refine ⟨g8, ?_, x7.trans y8⟩
  rw [call3 rfl, d3_is, p1, mlS0_is]
  simp only [cSeq_is, cBlock_is, q1, blockX_exit, seqX_norm]
  rw [ml74_is, q3, mlS2_is]
  simp only [cSeq_is, cBlock_is, q4, blockX_exit, seqX_norm]
  rw [ml109_is, p5, mlS4_is]
  simp only [cSeq_is, cBlock_is, q6, blockX_exit, seqX_norm]
  rw [ml25_is]
  unfold ml25h
  simp only [cOp_is, opX_ok, oMove_is, kV_is, slot_set, Nat.reduceLT, Nat.reduceEqDiff, if_true, if_false, reduceIte]
  rw [mlS6_is]
  simp only [cSeq_is, cBlock_is, q7, blockX_exit, seqX_norm]
  rw [r8]
  simp only [leave_ret, finish_1, s8]
end Go.Proofs.Ytkafejncffinmaa
namespace Go.Proofs.Ytkafejncffinmaa.moveLeft
open Go Go.ChangeShapes Go.WideShapes Go.ChangeAt Go.RowKit
set_option linter.unusedVariables false
theorem own : ownKnob Try.prog.godebug = none := by kernel_rfl
theorem laidOut : laidOutB Try.prog = true := by kernel_rfl
theorem cells4 : Try.prog.cellsOf 4 = 1 := by kernel_rfl
theorem cells5 : Try.prog.cellsOf 5 = 1 := by kernel_rfl
theorem u8_cell {P : Program} {W : World} {base t : Nat} {v : Value} (ht : P.underlying t = some (.int .u8)) (h : Cell.okWide P W .any base t v) : ∃ n : Int, v = .int .u8 n ∧ 0 ≤ n ∧ n ≤ 255 := by
  unfold Cell.okWide at h
  rw [ht] at h
  have h : Cell.ok P W .any base t v := by cases v <;> exact h
  unfold Cell.ok at h
  rw [ht] at h
  split at h <;> first | (exact h.elim; done) | skip
  all_goals (rename_i e1 _; cases e1)
  exact ⟨_, by rw [h.1], h.2.1, h.2.2⟩
theorem u8_nat {P : Program} {W : World} {base t : Nat} {v : Value} (ht : P.underlying t = some (.int .u8)) (h : Cell.okWide P W .any base t v) : ∃ n : Nat, v = .int .u8 (n : Int) ∧ n < 256 := by
  obtain ⟨z, rfl, h0, h1⟩ := u8_cell ht h
  obtain ⟨m, rfl⟩ := Int.eq_ofNat_of_zero_le h0
  exact ⟨m, rfl, by omega⟩
theorem u8_arg {P : Program} {W : World} {base t : Nat} {v : Value} (ht : P.underlying t = some (.int .u8)) (h : Value.okWide P W .any base t v) : ∃ n : Nat, v = .int .u8 (n : Int) ∧ n < 256 := by
  unfold Value.okWide at h
  rw [ht] at h
  exact u8_nat ht h
/-- the cells of an array by value -/
theorem arr_arg {P : Program} {W : World} {base t n e : Nat} {v : Value} {ts : List Nat} (ht : P.underlying t = some (.array n e)) (hts : P.cellTypes P.depth t = some ts) (hn : P.cellsOf t = ts.length) (h : Value.okWide P W .any base t v) :
    ∃ l : List Value, v = .agg ⟨l⟩ ∧ l.length = ts.length ∧ ∀ (i : Nat) (u : Nat) (x : Value), ts[i]? = some u → l[i]? = some x → Cell.okWide P W .any base u x := by
  unfold Value.okWide at h
  rw [ht] at h
  obtain ⟨cs, rfl, hsz, ts', hts', _, hc⟩ := h
  rw [hts] at hts'
  cases hts'
  cases cs with | mk l =>
  refine ⟨l, rfl, by rw [← hn]; exact hsz, fun i u x hu hx => ?_⟩
  obtain ⟨u', h1, h2⟩ := hc i x (by simpa using hx)
  have hi : i < ts.length := (List.getElem?_eq_some_iff.1 hu).1
  rw [Nat.mod_eq_of_lt hi, hu] at h1
  cases h1
  exact h2
theorem bytes_of {l : List Int} (h : ∀ z ∈ l, (Lit.int .u8 z).wf = true) : ∃ m : List Nat, ints .u8 l = m.map bv ∧ ∀ x ∈ m, x < 256 := by
  refine ⟨l.map Int.toNat, ?_, fun x hx => ?_⟩
  · unfold ints
    rw [List.map_map]
    refine List.map_congr_left fun z hz => ?_
    have := bounds_u8 (h z hz)
    show Value.int .u8 z = .int .u8 ((z.toNat : Nat) : Int)
    rw [Int.toNat_of_nonneg this.1]
  · obtain ⟨z, hz, rfl⟩ := List.mem_map.1 hx
    have := bounds_u8 (h z hz)
    omega
/-! ### flags that came in -/
theorem bools_rel (φ : Phi) : ∀ B : List Bool, RelL φ (B.map Value.bool) (B.map Value.bool)
  | [] => .nil
  | b :: B => .cons (.bool b) (bools_rel φ B)
def BoolsIn (W : World) (v : Value) (bs : List Bool) : Prop := (v = .slice none 0 0 ∧ bs = []) ∨ ∃ (a : Addr) (n c : Nat) (B : List Bool), v = .slice (some a) n c ∧ n ≤ c ∧ a.spot = none ∧ B.length = c ∧ bs = B.take n ∧ RowAt W a (B.map Value.bool)
theorem bools_in {H : Type} {enc : TypeId × Value → H} {P : Program} {t e : TypeId} (ht : P.underlying t = some (.slice e)) (he : P.underlying e = some .bool) (hc : P.cellsOf e = 1) {W : World} {base fuel : Nat} {v : Value} {x : DataW H × List MemPlace}
    (hval : Cell.okWide P W .any base t v) (hf : DataW.trod enc P W 0 (fun _ => true) true fuel t [v] = some x) (hfz : ∀ b off, MemPlace.cell b off ∈ x.2 → W.frozen? ⟨b, off, none⟩ = false) : ∃ bs : List Bool, BoolsIn W v bs := by
  rcases slice_cell ht hval with rfl | ⟨a, n, c, rfl, h1, h2, h3⟩
  · exact ⟨[], .inl ⟨rfl, rfl⟩⟩
  rcases DataW.trod_slice ht hf with ⟨hcs, _⟩ | ⟨a', n', c', elems, rest, m, _, hcs, hx, _, hl, hm, hlen, hel, hsp, _⟩
  · simp at hcs
  simp at hcs
  obtain ⟨rfl, rfl, rfl⟩ := hcs
  obtain ⟨hrl, hr⟩ := hsp rfl
  subst hx
  obtain ⟨ab, ao, spot⟩ := a
  simp only at h2
  subst h2
  have hblk : ∃ cs tt fr, W.heap[ab]? = some (.cells cs tt fr) := by
    unfold Cell.okWide at hval
    rw [ht] at hval
    have hval : Cell.ok P W .any base t (.slice (some ⟨ab, ao, none⟩) n c) := hval
    unfold Cell.ok at hval
    rw [ht] at hval
    obtain ⟨_, _, _, _, row, cells, hsh, _⟩ := hval
    unfold World.shape? at hsh
    split at hsh
    · rename_i cs tt fr hb; exact ⟨cs, tt, fr, hb⟩
    all_goals cases hsh
  obtain ⟨cs, tt, fr, hb⟩ := hblk
  have one : ∀ (i : Nat) (y : DataW H × List MemPlace), (W.cells? 0 ((⟨ab, ao, none⟩ : Addr).add (i * P.cellsOf e)) (P.cellsOf e)).bind (DataW.trod enc P W 0 (fun _ => true) true m e) = some y → ∃ b, cs[ao + i]? = some (.bool b) := fun i y hy => by
    rw [hc, Nat.mul_one, Option.bind_eq_some_iff] at hy
    obtain ⟨cs', h4, h5⟩ := hy
    obtain ⟨b, rfl, _⟩ := DataW.trod_bool he h5
    have h6 := cell_of_cells?_one h4
    rw [Addr.add_is, cell_of hb] at h6
    exact ⟨b, h6⟩
  have each : ∀ i, i < c → ∃ b, cs[ao + i]? = some (.bool b) := fun i hi => by
    rcases Nat.lt_or_ge i n with h4 | h4
    · have := hel i h4
      rw [List.getElem?_eq_getElem (by omega)] at this
      exact one i _ this
    · have := hr (i - n) (by omega)
      rw [show n + (i - n) = i by omega, List.getElem?_eq_getElem (by omega)] at this
      exact one i _ this
  let f : Nat → Bool := fun i => match cs[ao + i]? with | some (Value.bool b) => b | _ => false
  have hf' : ∀ i, i < c → cs[ao + i]? = some (Value.bool (f i)) := fun i hi => by
    obtain ⟨b, hb'⟩ := each i hi
    show _ = some (Value.bool (match cs[ao + i]? with | some (Value.bool b) => b | _ => false))
    rw [hb']
  have hBl : ((List.range c).map f).length = c := by rw [List.length_map, List.length_range]
  refine ⟨((List.range c).map f).take n, .inr ⟨⟨ab, ao, none⟩, n, c, (List.range c).map f, rfl, h1, rfl, hBl, rfl, cs, tt, fr, hb, fun i hi => ?_, fun i hi hh => ?_⟩⟩
  · rw [List.length_map, hBl] at hi
    show cs[ao + i]? = _
    rw [hf' i hi, List.map_map, List.getD_eq_getElem?_getD, List.getElem?_map, List.getElem?_range hi]; rfl
  · rw [List.length_map, hBl] at hi
    have h6 := hfz ab (ao + i) (by
      refine List.mem_append_left _ ?_
      simp only [MemPlace.row, List.mem_map, List.mem_range]
      exact ⟨i, by rw [hc, hlen, hrl]; omega, rfl⟩)
    obtain ⟨lo, hi'⟩ := fr
    simp only [World.frozen?, hb] at h6
    simp only at hh
    simp only [Bool.and_eq_false_iff, decide_eq_false_iff_not] at h6
    omega
theorem BoolsIn.rel {W : World} {v : Value} {bs : List Bool} (b : BoolsIn W v bs) (i : Nat) : ∃ (u : Value) (q : Option Pl) (B : List Bool), InAt W (B.map Value.bool) q ∧ (∀ φ : Phi, φ i = q → RelV φ u v) ∧ (∀ h : Hp, h.Row i 0 (B.map Value.bool) → h.Vals u (bs.map Value.bool)) := by
  rcases b with ⟨rfl, rfl⟩ | ⟨a, n, c, B, rfl, hn, hs, hB, rfl, hr⟩
  · exact ⟨.slice none 0 0, none, [], .inl rfl, fun _ _ => .slice0, fun _ _ => .inl ⟨rfl, rfl⟩⟩
  · have hlen : (B.map Value.bool).length = c := by rw [List.length_map]; exact hB
    have hlen2 : ((B.take n).map Value.bool).length = n := by rw [List.length_map, List.length_take]; omega
    refine ⟨.slice (some ⟨i, 0, none⟩) n c, some (plAt a (B.map Value.bool).length), B, .inr ⟨a, rfl, hr⟩, fun φ hφ => slice_in hs hn (by rw [hφ, hlen]), fun h hrow => .inr ⟨i, 0, c, 0, B.map Value.bool, ?_, hrow, ?_, ?_⟩⟩
    · rw [hlen2]
    · rw [hlen2, hlen]; omega
    · rw [hlen2, List.drop_zero, List.map_take]
theorem cell_of_slice {P : Program} {W : World} {base t e : Nat} {v : Value} (ht : P.underlying t = some (.slice e)) (h : Value.okWide P W .any base t v) : Cell.okWide P W .any base t v := by
  unfold Value.okWide at h
  rw [ht] at h
  exact h
set_option maxRecDepth 100000 in
theorem walk {H : Type} {enc : TypeId × Value → H} (x y z o : Value) (w : World) {base : Nat} {d e : DataW H} {p q : List MemPlace} (hx : Value.okWide Try.prog w .any base 22 x) (hy : Value.okWide Try.prog w .any base 5 y) (hz : Value.okWide Try.prog w .any base 23 z) (ho : Value.okWide Try.prog w .any base 24 o)
    (tz : DataW.Trod enc Try.prog w 0 (fun _ => true) true 23 z d p) (to_ : DataW.Trod enc Try.prog w 0 (fun _ => true) true 24 o e q) (fz : ∀ b off, MemPlace.cell b off ∈ p → w.frozen? ⟨b, off, none⟩ = false) (fo : ∀ b off, MemPlace.cell b off ∈ q → w.frozen? ⟨b, off, none⟩ = false) :
    Calls Try.prog 3 #[x, y, z, o] w fun e w' => e = .returned (.bool true) ∧ Below w.heap.size w w' := by
  obtain ⟨l, rfl, hl, hc⟩ := arr_arg Try.underlying22 (ts := [5, 5, 5]) (by kernel_rfl) (by kernel_rfl) hx
  match l, hl, hc with
  | [x0, x1, x2], _, hc =>
    obtain ⟨a, rfl, ha⟩ := u8_nat Try.underlying5 (hc 0 5 x0 rfl rfl)
    obtain ⟨b, rfl, hb⟩ := u8_nat Try.underlying5 (hc 1 5 x1 rfl rfl)
    obtain ⟨c, rfl, hc'⟩ := u8_nat Try.underlying5 (hc 2 5 x2 rfl rfl)
    obtain ⟨fr, rfl, hfr⟩ := u8_arg Try.underlying5 hy
    have hz' := cell_of_slice Try.underlying23 hz
    have ho' := cell_of_slice Try.underlying24 ho
    obtain ⟨fuel, hf⟩ := tz
    obtain ⟨fuel2, hf2⟩ := to_
    have hf : DataW.trod enc Try.prog w 0 (fun _ => true) true fuel 23 [z] = some (d, p) := by
      rcases slice_cell Try.underlying23 hz' with rfl | ⟨a, n, c, rfl, _⟩ <;> exact hf
    have hf2 : DataW.trod enc Try.prog w 0 (fun _ => true) true fuel2 24 [o] = some (e, q) := by
      rcases slice_cell Try.underlying24 ho' with rfl | ⟨a, n, c, rfl, _⟩ <;> exact hf2
    obtain ⟨bs, I⟩ := bools_in Try.underlying23 Try.underlying4 cells4 hz' hf fz
    obtain ⟨os, hos, J⟩ := ints_in Try.underlying24 Try.underlying5 cells5 ho' hf2 fo
    obtain ⟨m, hm, hmb⟩ := bytes_of hos
    obtain ⟨u, q0, B, i1, i2, i3⟩ := I.rel 0
    obtain ⟨v, q1, Z1, j1, j2, j3⟩ := J.rel 1
    have W0 : (inH [B.map Value.bool, ints .u8 Z1]).Wf := inH_wf (by show 2 ≤ 256; omega)
    have V := i3 _ (inH_row (Ls := [B.map Value.bool, ints .u8 Z1]) (by show 2 ≤ 256; omega) (i := 0) rfl)
    have O := j3 _ (inH_row (Ls := [B.map Value.bool, ints .u8 Z1]) (by show 2 ≤ 256; omega) (i := 1) rfl)
    rw [hm] at O
    obtain ⟨h', hr, hx'⟩ := ml_is (n := 54) W0 (x0 := a) (x1 := b) (x2 := c) (fr := fr) ha hb hc' hfr V O hmb
    exact run_ext calls_ok hr hx' rfl (.cons (.agg (.cons (.int _ _) (.cons (.int _ _) (.cons (.int _ _) .nil)))) (.cons (.int _ _) (.cons (i2 (inPhi [q0, q1]) rfl) (.cons (j2 (inPhi [q0, q1]) rfl) .nil)))) (two_rel i1 j1 (fun φ => bools_rel φ _) (fun φ => ints_rel φ _ _))
set_option maxRecDepth 100000 in
theorem lifted (os : Os) (started : os.Started) (H : Type) (enc : TypeId × Value → H) :
    ReturnsInHanded {} Try.checked os 3 .any (Rows.moveLeftSpec.pre6 enc Try.prog Try.f3 Rows.moveLeftRow.domain false) (Rows.moveLeftSpec.post enc Try.prog Try.f3 false true false false) := by
  refine returnsInHanded_of_change (C := Try.checked) own started (by kernel_rfl) Try.func3
    (ChangeSpec.witness6 (enc := enc) (C := Try.checked) false ⟨#[], #[.agg #[.int .u8 0, .int .u8 0, .int .u8 0], .int .u8 0, .slice none 0 0, .slice none 0 0], []⟩ 8 (by kernel_rfl) (by kernel_rfl) (by kernel_rfl) (by kernel_rfl)) ?_
  intro W base args ds gs before hval0 hW hcnd _
  have hval : ∀ (j : Nat) t v, Try.f3.params[j]? = some t → args[j]? = some v → Value.okWide Try.prog W .any base t v := hval0
  have hW' := hW
  obtain ⟨p, q, hA0, hV, rfl, hfz, hnd⟩ := hW
  have hA : DataW.TrodAll enc Try.prog W 0 (fun _ => true) true Try.f3.params.toList args.toList ds p := hA0
  rw [Try.params3] at hA hval
  obtain ⟨v0, vs0, d0, ds0, p0, q0, hargs, rfl, rfl, h0, r0⟩ := trodAll_cons hA
  obtain ⟨v1, vs1, d1, ds1, p1, q1, rfl, rfl, rfl, h1, r1⟩ := trodAll_cons r0
  obtain ⟨v2, vs2, d2, ds2, p2, q2, rfl, rfl, rfl, h2, r2⟩ := trodAll_cons r1
  obtain ⟨v3, vs3, d3, ds3, p3, q3, rfl, rfl, rfl, h3, r3⟩ := trodAll_cons r2
  obtain ⟨rfl, rfl, rfl⟩ := trodAll_nil r3
  obtain rfl : args = #[v0, v1, v2, v3] := by cases args; simp_all
  obtain ⟨rfl, rfl⟩ := trodVars_none hV
  clear hA0 hval0
  simp only [List.append_nil] at hW' hfz
  have hlt : ∀ x ∈ p0 ++ (p1 ++ (p2 ++ p3)), x.block < W.heap.size := fun x hx => hW'.lt x hx
  have i0 : ∀ x ∈ p0, x ∈ p0 ++ (p1 ++ (p2 ++ p3)) := fun x hx => List.mem_append_left _ hx
  have i1 : ∀ x ∈ p1, x ∈ p0 ++ (p1 ++ (p2 ++ p3)) := fun x hx => List.mem_append_right _ (List.mem_append_left _ hx)
  have i2 : ∀ x ∈ p2, x ∈ p0 ++ (p1 ++ (p2 ++ p3)) := fun x hx => List.mem_append_right _ (List.mem_append_right _ (List.mem_append_left _ hx))
  have i3 : ∀ x ∈ p3, x ∈ p0 ++ (p1 ++ (p2 ++ p3)) := fun x hx => List.mem_append_right _ (List.mem_append_right _ (List.mem_append_right _ hx))
  refine (walk v0 v1 v2 v3 W (hval 0 22 v0 rfl rfl) (hval 1 5 v1 rfl rfl) (hval 2 23 v2 rfl rfl) (hval 3 24 v3 rfl rfl) h2 h3 (fun b off hm => hfz b off (i2 _ hm)) (fun b off hm => hfz b off (i3 _ hm))).mono fun e W' ⟨he, hb⟩ => ?_
  subst he
  refine ⟨_, rfl, post_of_below (pa := p0 ++ (p1 ++ (p2 ++ p3))) (pv := []) hW' (fun _ _ _ => (trodAll_cons_mk (shut_bool Try.underlying4 _) trodAll_mk0)) (fun sp hsp => ?_) (fun _ _ => rfl) (by simp) hb (ok_one (by kernel_rfl) rfl (okWide_bool_mk Try.underlying4 _))⟩
  have := trodAll_cons_mk (WideElems.Trod_stays laidOut (by kernel_rfl) (of_decide_eq_true (by kernel_rfl)) h0 (fun x hx => hb.same (hlt x (i0 x hx))) (fun x hx => hsp x (i0 x hx))) (trodAll_cons_mk (WideElems.Trod_stays laidOut (by kernel_rfl) (of_decide_eq_true (by kernel_rfl)) h1 (fun x hx => hb.same (hlt x (i1 x hx))) (fun x hx => hsp x (i1 x hx))) (trodAll_cons_mk (WideElems.Trod_stays laidOut (by kernel_rfl) (of_decide_eq_true (by kernel_rfl)) h2 (fun x hx => hb.same (hlt x (i2 x hx))) (fun x hx => hsp x (i2 x hx))) (trodAll_cons_mk (WideElems.Trod_stays laidOut (by kernel_rfl) (of_decide_eq_true (by kernel_rfl)) h3 (fun x hx => hb.same (hlt x (i3 x hx))) (fun x hx => hsp x (i3 x hx))) (trodAll_mk0 (enc := enc) (P := Try.prog) (w := W') (base := 0) (spare := sp) (held := true)))))
  rw [List.append_nil] at this
  exact this

theorem over : Rows.moveLeftRow.holds Try.pinned (OpenSpec.ofChange Rows.moveLeftSpec) :=
  OpenClaim.holds_of_wide 3 Try.f3 rfl rfl rfl rfl rfl rfl rfl ⟨rfl, rfl, rfl, rfl, rfl⟩ rfl rfl rfl rfl rfl (by kernel_rfl) Try.func3 (by kernel_rfl)
    (of_decide_eq_true (by kernel_rfl)) (by unfold Func.isWrapper; first | (rw [if_pos (by decide +kernel)]; kernel_rfl) | (rw [if_neg (by decide +kernel)]; exact ⟨rfl, rfl⟩))
    (fun os started H enc _ => lifted os started H enc)
theorem proved : Rows.MoveLeftSaid :=
  over
#print axioms proved
end Go.Proofs.Ytkafejncffinmaa.moveLeft
