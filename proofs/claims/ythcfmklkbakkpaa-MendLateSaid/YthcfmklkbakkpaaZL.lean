/-
  Mendings that are the same; numbers that are picked.
  Mendings: copies in memory of their own.
  Mendings: copies in memory of their own, whole.
  slices.Sort, slices.Compact of ints that the run made.
  slices.Compact of ints that rise.
-/
import Derived.Test.YthcfmklkbakkpaaZK
set_option linter.unusedVariables false
set_option linter.unusedSimpArgs false
namespace Go.Proofs.Ythcfmklkbakkpaa
noncomputable section
open Go Go.RowKit Go.ChangeShapes
set_option maxRecDepth 100000
theorem LR {n : Nat} {h : Hp} {x m : Int} (h1 : 1 ≤ m) (h2 : m ≤ 1000000) : ∃ r, call AK (n + 1) 6 [.int .i64 x, .int .i64 m] h = .ok (.int .i64 r) h ∧ 0 ≤ r ∧ r < m := by
  have c1 : iLe m 0 = false := Na (by omega)
  have r1 : Mx .i64 (.int .i64 x) (.int .i64 m) h = .ok (.int .i64 (x.tmod m)) h := Hq (by omega)
  have b1 : x.tmod m < m := Int.tmod_lt_of_pos _ (by omega)
  have b2 : -m < x.tmod m := by
    have := Int.lt_tmod_of_pos x (show 0 < m by omega)
    omega
  by_cases c : x.tmod m < 0
  · have c2 : iLt (x.tmod m) 0 = true := Ku c
    have a1 : Jj .i64 (.int .i64 (x.tmod m)) (.int .i64 m) h = .ok (.int .i64 (x.tmod m + m)) h := by rw [Fe, RX (by omega) (by omega)]
    refine ⟨x.tmod m + m, ?_, by omega, by omega⟩
    rw [U5 rfl]
    unfold d6
    simp only [Ac, Af, Nat.succ_eq_add_one, Nat.zero_add, Nat.reduceAdd, sT, Nat.reduceLT, Nat.reduceEqDiff, if_true, if_false, reduceIte, AZ, AY, c1, KC, r1, c2, Bl, a1, Ao, Ax]
  · have c2 : iLt (x.tmod m) 0 = false := Ek c
    refine ⟨x.tmod m, ?_, by omega, b1⟩
    rw [U5 rfl]
    unfold d6
    simp only [Ac, Af, Nat.succ_eq_add_one, Nat.zero_add, Nat.reduceAdd, sT, Nat.reduceLT, Nat.reduceEqDiff, if_true, if_false, reduceIte, AZ, AY, c1, KC, r1, c2, Ao, Ax]
def slB : C := (AE (AC 13) (Am (AB 0))
(AE (AC 14) (AS iLt .i64 (AB 5) (AB 13))
(AO (AB 14)
(As (Ab 1 (BH (AE (AC 19) (A2 1 (AB 0) (AB 5))
(AE (AC 20) (AH (AB 19))
(AE (AC 23) (A2 1 (AB 1) (AB 5))
(AE (AC 24) (AH (AB 23))
(AE (AC 25) (Aj .free (AV 31 [(AB 20), (AB 24)]))
(AE (AC 26) (BF (AB 25))
(AO (AB 26)
(AE (AC 4) (AF (kV (.bool false)))
Ak)
AQ)))))))))
(AE (AC 16) (A9 .i64 (At .i64) (AB 5) (kV (.int .i64 1)))
(AE (AC 5) (AF (AB 16))
AQ)))
(A3 0))))
def slE : C := (AE (AC 4) (AF (kV (.bool true)))
Ak)
def slS : C := (As (Ab 0 (Ay (AE (AC 13) (Am (AB 0))
(AE (AC 14) (AS iLt .i64 (AB 5) (AB 13))
(AO (AB 14)
(As (Ab 1 (BH (AE (AC 19) (A2 1 (AB 0) (AB 5))
(AE (AC 20) (AH (AB 19))
(AE (AC 23) (A2 1 (AB 1) (AB 5))
(AE (AC 24) (AH (AB 23))
(AE (AC 25) (Aj .free (AV 31 [(AB 20), (AB 24)]))
(AE (AC 26) (BF (AB 25))
(AO (AB 26)
(AE (AC 4) (AF (kV (.bool false)))
Ak)
AQ)))))))))
(AE (AC 16) (A9 .i64 (At .i64) (AB 5) (kV (.int .i64 1)))
(AE (AC 5) (AF (AB 16))
AQ)))
(A3 0))))))
(AE (AC 4) (AF (kV (.bool true)))
Ak))
theorem Yb : slS = As (Ab 0 (Ay slB)) slE := rfl
def SQ : C := (AE (AC 4) (AF (kV (.bool false)))
(AE (AC 7) (Am (AB 0))
(AE (AC 9) (Am (AB 1))
(AE (AC 10) (AS iNe .i64 (AB 7) (AB 9))
(AO (AB 10)
(AE (AC 4) (AF (kV (.bool false)))
Ak)
(AE (AC 5) (AF (kV (.int .i64 0)))
slS))))))
def d20 : C := SQ
theorem Wx {n : Nat} {args : List Value} {h : Hp} (hl : Nat.ble (Bk args) 320 = true) : call AK (Nat.succ n) 20 args h = Bt [.t (AB 4)] (d20 (call AK n) (Av e0 0 args) h) := by
  have hb : AK.get 20 = some b20 := by kernel_rfl
  rw [BN hb]
  have hd : b20 = ⟨[.t (AB 4)], d20⟩ := by kernel_rfl
  rw [hd, BE hl]
theorem XS : d20 = SQ := rfl
theorem UK {n : Nat} {h : Hp} (W : h.Wf) {S S' : Nat → Prop} {u v : Value} {ls : List (List Nat)} (U : h.Shs S u ls) (V : h.Shs S' v ls) (hl : ls.length ≤ 900000) {e : Env} (s0 : AB 0 e = u) (s1 : AB 1 e = v) (s5 : AB 5 e = .int .i64 ((0 : Nat) : Int)) :
    ∃ e' h', Ay slB (call AK (n + 1)) e h = .exit 0 e' h' ∧ h.Ext h' := by
  refine B8 (I := fun i e' h' => h.Ext h' ∧ AB 0 e' = u ∧ AB 1 e' = v ∧ AB 5 e' = .int .i64 (i : Int) ∧ i ≤ ls.length)
    (Q := fun x => ∃ e' h', x = .exit 0 e' h' ∧ h.Ext h') ls.length (by omega) (fun i e' h' ⟨x, t0, t1, t5, hi⟩ => ?_) ⟨.refl W, s0, s1, s5, Nat.zero_le _⟩
  have U1 : h'.Shs S u ls := U.keep fun _ _ _ _ r => r.ext W x
  have ln := U1.len (g := h')
  by_cases hlt : i < ls.length
  · left
    have c1 := GC hlt
    have xm := x.marked
    obtain ⟨ws, w1, w2, w3⟩ := (U.keep fun _ _ _ _ r => r.ext W xm : h'.marked.Shs S u ls)
    obtain ⟨ys, y1, y2, y3⟩ := (V.keep fun _ _ _ _ r => r.ext W xm : h'.marked.Shs S' v ls)
    obtain ⟨a, g1, g2⟩ := w1.vals.at (i := i) (by rw [w2]; exact hlt)
    obtain ⟨b, g3, g4⟩ := y1.vals.at (i := i) (by rw [y2]; exact hlt)
    have k := dK (n := n) ((w3 i hlt).same (h' := h'.marked.quiet) rfl).vals ((y3 i hlt).same (h' := h'.marked.quiet) rfl).vals
    have q : ∀ (F : CallF) (e : Env), F = call AK (n + 1) → AB 20 e = ws.getD i noRes → AB 24 e = ys.getD i noRes → Aj .free (AV 31 [AB 20, AB 24]) F e h'.marked = .ok (.bool true) (h'.marked.back h'.marked.quiet) := fun F e hF h1 h2 => by
      subst hF
      refine Mv ?_
      rw [Ae, Ae, Al, h1, h2]; exact k
    have x2 : h.Ext (h'.marked.back h'.marked.quiet) := xm.back2 xm.quiet
    have ad := CY (h := h'.marked.back h'.marked.quiet) (i := i) (by omega)
    have hrun : ∃ e2, slB (call AK (n + 1)) e' h' = .norm e2 (h'.marked.back h'.marked.quiet) ∧ AB 0 e2 = u ∧ AB 1 e2 = v ∧ AB 5 e2 = .int .i64 ((i + 1 : Nat) : Int) := by
      unfold slB
      simp only [sT, Nat.reduceLT, Nat.reduceEqDiff, if_true, if_false, reduceIte, Ai, t0, t5, ln, AZ, AY, c1, Bc, BG, g1, AP, g2, t1, g3, g4, q, BP, BO, Bool.not_true, Bl, ad]
      exact ⟨_, rfl, by simp only [AG, Nat.reduceLT, Nat.reduceEqDiff, if_true, if_false, reduceIte]; exact t0, by simp only [AG, Nat.reduceLT, Nat.reduceEqDiff, if_true, if_false, reduceIte]; exact t1, by simp [AG]⟩
    obtain ⟨e2, p1, p2, p3, p4⟩ := hrun
    exact ⟨hlt, e2, _, p1, x2, p2, p3, p4, hlt⟩
  · right
    have c1 := EP (a := i) (b := ls.length) (by omega)
    have hrun : ∃ e2, slB (call AK (n + 1)) e' h' = .exit 0 e2 h' := by
      unfold slB
      simp only [sT, Nat.reduceLT, Nat.reduceEqDiff, if_true, if_false, reduceIte, Ai, t0, t5, ln, AZ, AY, c1]
      exact ⟨_, rfl⟩
    obtain ⟨e2, p1⟩ := hrun
    rw [p1]
    exact ⟨rfl, e2, h', rfl, x⟩
theorem dL {n : Nat} {h : Hp} (W : h.Wf) {S S' : Nat → Prop} {u v : Value} {ls : List (List Nat)} (U : h.Shs S u ls) (V : h.Shs S' v ls) (hl : ls.length ≤ 900000) : ∃ h', call AK (n + 2) 20 [u, v] h = .ok (.bool true) h' ∧ h.Ext h' := by
  have c1 : iNe (ls.length : Int) (ls.length : Int) = false := Dv rfl
  have l1 := U.len (g := h)
  have l2 := V.len (g := h)
  have pre : ∃ e1, SQ (call AK (n + 1)) (Av e0 0 [u, v]) h = slS (call AK (n + 1)) e1 h ∧ AB 0 e1 = u ∧ AB 1 e1 = v ∧ AB 5 e1 = .int .i64 ((0 : Nat) : Int) := by
    unfold SQ
    simp only [Ac, Af, Nat.succ_eq_add_one, Nat.zero_add, Nat.reduceAdd, Br, Bh, Bs, Ba, BM, Bz, AG, Nat.reduceLT, Nat.reduceEqDiff, if_true, if_false, reduceIte, Ai, l1, l2, AZ, AY, c1]
    exact ⟨_, rfl, by simp [AG], by simp [AG], by simp only [AG, Nat.reduceLT, Nat.reduceEqDiff, if_true, if_false, reduceIte]; rfl⟩
  obtain ⟨e1, p1, p2, p3, p4⟩ := pre
  obtain ⟨e2, h', q1, q2⟩ := UK (n := n) W U V hl p2 p3 p4
  refine ⟨h', ?_, q2⟩
  rw [Wx rfl, XS, p1, Yb]
  simp only [Be, BQ, q1, BJ, BB]
  unfold slE
  simp only [sT, Nat.reduceLT, Nat.reduceEqDiff, if_true, if_false, reduceIte, Ao, Ax]
theorem oX : ty4.k = .bool := by kernel_rfl
theorem Rv {F : CallF} {e : Env} {h : Hp} {x y : O} {k : Bool} (hx : x e = .bool k) (hy : y e = .bool k) : oEq ty4.k true x y F e h = .ok (.bool false) h := by
  show (match eqV ty4.k (x e) (y e) with | some r => okB (true != r) h | none => .no) = _
  rw [oX, hx, hy]
  cases k <;> exact FW
theorem Hp.Marks.atS {h : Hp} {S : Nat → Prop} {um : Value} {ms : List MM} (o : h.Marks S um ms) {i : Nat} (hi : i < ms.length) : ∃ b u, S b ∧ Cv 3 um (.int .i64 (i : Int)) h = .ok (.pointer (some ⟨b, i * 3, none⟩)) h ∧ loadN 3 ⟨b, i * 3, none⟩ h = .ok (CP (ms.getD i mm0) u) h ∧ h.VS S u (ints .i64 (ms.getD i mm0).ext) := by
  obtain ⟨b, el, us, rfl, h2, h3, h4, h5⟩ := o
  have hl := DC h3
  have hd := D5 h3 hi
  refine ⟨b, us.getD i noRes, h4, ?_, ?_, h5 i hi⟩
  · have := B6 (h := h) (n := ms.length) (c := ms.length) (es := 3) (b := b) (off := 0) (k := .i64) hi
    rwa [Nat.zero_add] at this
  · rw [h2.loadN (by omega), hd]; rfl
theorem Jb {h : Hp} (W : h.Wf) {n : Nat} {t : VT} {Z : List Value} (q : Qm) (hm : h.mark ≤ h.next) (hz : B5 .mt 0 Z = some t) (hn : Z.length = n) :
    ∃ h1, (∀ (F : CallF) (e : Env), Aj q (Au n t) F e h = .ok (pt h.next) h1) ∧ h1.Row h.next 0 Z ∧ h.Ext h1 ∧ h1.next = h.next + 1 ∧ h1.mark = h.mark := by
  have R : (h.quiet.push (.cells t n 0)).Row h.next 0 Z := Hp.Row.alloc W.quiet hz hn
  have x : h.quiet.Ext (h.quiet.push (.cells t n 0)) := (Hp.Ext.refl W.quiet).push _
  exact ⟨h.back (h.quiet.push (.cells t n 0)), fun F e => Gj (JS W.quiet) x hm, R.same rfl, Hp.Ext.back x, rfl, rfl⟩
def saB : C := (AE (AC 60) (AD 4 (AB 2))
(AE (AC 61) (AH (AB 60))
(AE (AC 62) (Am (AB 61))
(AE (AC 63) (AS iLt .i64 (AB 5) (AB 62))
(AO (AB 63)
(As (Ab 1 (BH (AE (AC 66) (AD 4 (AB 2))
(AE (AC 67) (AH (AB 66))
(AE (AC 69) (A2 3 (AB 67) (AB 5))
(AE (AC 70) (AL 3 (AB 69))
(AE (AC 71) (AD 4 (AB 3))
(AE (AC 72) (AH (AB 71))
(AE (AC 74) (A2 3 (AB 72) (AB 5))
(AE (AC 75) (AL 3 (AB 74))
(AE (AC 6) (Aj .strong (Au 3 F1))
(AE (AC 7) (Aj .strong (Au 3 F1))
(Bi (AB 6) [(AB 71), (AB 74)]
(cDo (FI (AB 6) (AM 3 (AB 6) (AB 70)))
(cDo (Aj .free (AM 3 (AB 7) (AB 75)))
(AE (AC 76) (AD 0 (AB 6))
(AE (AC 77) (AH (AB 76))
(AE (AC 78) (AD 0 (AB 7))
(AE (AC 79) (AH (AB 78))
(AE (AC 80) (AS iNe .i64 (AB 77) (AB 79))
(cG (AB 80) false (AC 82) (AD 1 (AB 6))
(cG (AB 80) false (AC 83) (AH (AB 82))
(cG (AB 80) false (AC 84) (AD 1 (AB 7))
(cG (AB 80) false (AC 85) (AH (AB 84))
(cG (AB 80) false (AC 86) (oEq ty4.k true (AB 83) (AB 85))
(AE (AC 87) (AW (AB 80) (kV (.bool true)) (AB 86))
(cG (AB 87) false (AC 89) (AD 2 (AB 6))
(cG (AB 87) false (AC 90) (AH (AB 89))
(cG (AB 87) false (AC 91) (AD 2 (AB 7))
(cG (AB 87) false (AC 92) (AH (AB 91))
(cG (AB 87) false (AC 93) (AV 19 [(AB 90), (AB 92)])
(cG (AB 87) false (AC 94) (BF (AB 93))
(AE (AC 95) (AW (AB 87) (kV (.bool true)) (AB 94))
(AO (AB 95)
(AE (AC 4) (AF (kV (.bool false)))
Ak)
AQ))))))))))))))))))))))))))))))))))
(AE (AC 65) (A9 .i64 (At .i64) (AB 5) (kV (.int .i64 1)))
(AE (AC 5) (AF (AB 65))
AQ)))
(A3 0))))))
def saE : C := (AE (AC 4) (AF (kV (.bool true)))
Ak)
def saS : C := (As (Ab 0 (Ay (AE (AC 60) (AD 4 (AB 2))
(AE (AC 61) (AH (AB 60))
(AE (AC 62) (Am (AB 61))
(AE (AC 63) (AS iLt .i64 (AB 5) (AB 62))
(AO (AB 63)
(As (Ab 1 (BH (AE (AC 66) (AD 4 (AB 2))
(AE (AC 67) (AH (AB 66))
(AE (AC 69) (A2 3 (AB 67) (AB 5))
(AE (AC 70) (AL 3 (AB 69))
(AE (AC 71) (AD 4 (AB 3))
(AE (AC 72) (AH (AB 71))
(AE (AC 74) (A2 3 (AB 72) (AB 5))
(AE (AC 75) (AL 3 (AB 74))
(AE (AC 6) (Aj .strong (Au 3 F1))
(AE (AC 7) (Aj .strong (Au 3 F1))
(Bi (AB 6) [(AB 71), (AB 74)]
(cDo (FI (AB 6) (AM 3 (AB 6) (AB 70)))
(cDo (Aj .free (AM 3 (AB 7) (AB 75)))
(AE (AC 76) (AD 0 (AB 6))
(AE (AC 77) (AH (AB 76))
(AE (AC 78) (AD 0 (AB 7))
(AE (AC 79) (AH (AB 78))
(AE (AC 80) (AS iNe .i64 (AB 77) (AB 79))
(cG (AB 80) false (AC 82) (AD 1 (AB 6))
(cG (AB 80) false (AC 83) (AH (AB 82))
(cG (AB 80) false (AC 84) (AD 1 (AB 7))
(cG (AB 80) false (AC 85) (AH (AB 84))
(cG (AB 80) false (AC 86) (oEq ty4.k true (AB 83) (AB 85))
(AE (AC 87) (AW (AB 80) (kV (.bool true)) (AB 86))
(cG (AB 87) false (AC 89) (AD 2 (AB 6))
(cG (AB 87) false (AC 90) (AH (AB 89))
(cG (AB 87) false (AC 91) (AD 2 (AB 7))
(cG (AB 87) false (AC 92) (AH (AB 91))
(cG (AB 87) false (AC 93) (AV 19 [(AB 90), (AB 92)])
(cG (AB 87) false (AC 94) (BF (AB 93))
(AE (AC 95) (AW (AB 87) (kV (.bool true)) (AB 94))
(AO (AB 95)
(AE (AC 4) (AF (kV (.bool false)))
Ak)
AQ))))))))))))))))))))))))))))))))))
(AE (AC 65) (A9 .i64 (At .i64) (AB 5) (kV (.int .i64 1)))
(AE (AC 5) (AF (AB 65))
AQ)))
(A3 0))))))))
(AE (AC 4) (AF (kV (.bool true)))
Ak))
theorem YZ : saS = As (Ab 0 (Ay saB)) saE := rfl
def SM : C := (AE (AC 2) (Bd (AB 0))
(AE (AC 3) (Bd (AB 1))
(AE (AC 4) (AF (kV (.bool false)))
(AE (AC 8) (AD 0 (AB 2))
(AE (AC 9) (AH (AB 8))
(AE (AC 10) (AD 0 (AB 3))
(AE (AC 11) (AH (AB 10))
(AE (AC 12) (AS iNe .i64 (AB 9) (AB 11))
(cG (AB 12) false (AC 14) (AD 1 (AB 2))
(cG (AB 12) false (AC 15) (AH (AB 14))
(cG (AB 12) false (AC 16) (AD 1 (AB 3))
(cG (AB 12) false (AC 17) (AH (AB 16))
(cG (AB 12) false (AC 18) (AS iNe .i64 (AB 15) (AB 17))
(AE (AC 19) (AW (AB 12) (kV (.bool true)) (AB 18))
(cG (AB 19) false (AC 21) (AD 2 (AB 2))
(cG (AB 19) false (AC 22) (AH (AB 21))
(cG (AB 19) false (AC 23) (AD 2 (AB 3))
(cG (AB 19) false (AC 24) (AH (AB 23))
(cG (AB 19) false (AC 25) (AS iNe .i64 (AB 22) (AB 24))
(AE (AC 26) (AW (AB 19) (kV (.bool true)) (AB 25))
(cG (AB 26) false (AC 28) (AD 3 (AB 2))
(cG (AB 26) false (AC 29) (AH (AB 28))
(cG (AB 26) false (AC 30) (AD 3 (AB 3))
(cG (AB 26) false (AC 31) (AH (AB 30))
(cG (AB 26) false (AC 32) (AS iNe .i64 (AB 29) (AB 31))
(AE (AC 33) (AW (AB 26) (kV (.bool true)) (AB 32))
(cG (AB 33) false (AC 35) (AD 4 (AB 2))
(cG (AB 33) false (AC 36) (AH (AB 35))
(cG (AB 33) false (AC 37) (Am (AB 36))
(cG (AB 33) false (AC 38) (AD 4 (AB 3))
(cG (AB 33) false (AC 39) (AH (AB 38))
(cG (AB 33) false (AC 40) (Am (AB 39))
(cG (AB 33) false (AC 41) (AS iNe .i64 (AB 37) (AB 40))
(AE (AC 42) (AW (AB 33) (kV (.bool true)) (AB 41))
(cG (AB 42) false (AC 44) (AD 5 (AB 2))
(cG (AB 42) false (AC 45) (AH (AB 44))
(cG (AB 42) false (AC 46) (AD 5 (AB 3))
(cG (AB 42) false (AC 47) (AH (AB 46))
(cG (AB 42) false (AC 48) (AV 19 [(AB 45), (AB 47)])
(cG (AB 42) false (AC 49) (BF (AB 48))
(AE (AC 50) (AW (AB 42) (kV (.bool true)) (AB 49))
(cG (AB 50) false (AC 52) (AD 6 (AB 2))
(cG (AB 50) false (AC 53) (AH (AB 52))
(cG (AB 50) false (AC 54) (AD 6 (AB 3))
(cG (AB 50) false (AC 55) (AH (AB 54))
(cG (AB 50) false (AC 56) (AV 20 [(AB 53), (AB 55)])
(cG (AB 50) false (AC 57) (BF (AB 56))
(AE (AC 58) (AW (AB 50) (kV (.bool true)) (AB 57))
(AO (AB 58)
(AE (AC 4) (AF (kV (.bool false)))
Ak)
(AE (AC 5) (AF (kV (.int .i64 0)))
saS))))))))))))))))))))))))))))))))))))))))))))))))))
def d11 : C := SM
theorem Wt {n : Nat} {args : List Value} {h : Hp} (hl : Nat.ble (Bk args) 320 = true) : call AK (Nat.succ n) 11 args h = Bt [.t (AB 4)] (d11 (call AK n) (Av e0 0 args) h) := by
  have hb : AK.get 11 = some b11 := by kernel_rfl
  rw [BN hb]
  have hd : b11 = ⟨[.t (AB 4)], d11⟩ := by kernel_rfl
  rw [hd, BE hl]
theorem XP : d11 = SM := rfl
theorem UG {n : Nat} {h : Hp} (W : h.Wf) {S S' : Nat → Prop} {m : MD} {um uw us um' uw' us' : Value} {b2 b3 : Nat} (R2 : h.Row b2 0 (mendL m um uw us)) (R3 : h.Row b3 0 (mendL m um' uw' us')) (M : h.Md S m um uw us) (M' : h.Md S' m um' uw' us') (hl : m.marks.length ≤ 255) (he : ∀ i, i < m.marks.length → (m.marks.getD i mm0).ext.length < 900000) {e : Env} (s2 : AB 2 e = pt b2) (s3 : AB 3 e = pt b3) (s5 : AB 5 e = .int .i64 ((0 : Nat) : Int)) :
    ∃ e' h', Ay saB (call AK (n + 1)) e h = .exit 0 e' h' ∧ h.Ext h' := by
  refine B8 (I := fun i e' h' => h.Ext h' ∧ AB 2 e' = pt b2 ∧ AB 3 e' = pt b3 ∧ AB 5 e' = .int .i64 (i : Int) ∧ i ≤ m.marks.length)
    (Q := fun x => ∃ e' h', x = .exit 0 e' h' ∧ h.Ext h') m.marks.length (by omega) (fun i e' h' ⟨x, t2, t3, t5, hi⟩ => ?_) ⟨.refl W, s2, s3, s5, Nat.zero_le _⟩
  obtain ⟨_, _, _, _, l4, _⟩ := An (R2.ext W x)
  have ln := (M.ext W x).marks.len (g := h')
  by_cases hlt : i < m.marks.length
  · left
    have c1 := GC hlt
    have xm := x.marked
    obtain ⟨_, _, _, _, p4, _⟩ := An (R2.ext W xm)
    obtain ⟨_, _, _, _, r4, _⟩ := An (R3.ext W xm)
    obtain ⟨b, u, sb, a1, a2, a3⟩ := ((M.lt W).ext W xm).marks.atS hlt
    obtain ⟨b', u', sb', a1', a2', a3'⟩ := ((M'.lt W).ext W xm).marks.atS hlt
    have sb' : b' < h.next := sb'.2
    have r3 := R3.lt W
    have big := W.big
    have z0 := x.next
    obtain ⟨g1, al1, Z1, x1, n1, mk1⟩ := Jb xm.wf .strong (Nat.le_refl _) (n := 3) Fy rfl
    have Y1 : h.Ext g1 := xm.trans x1
    have mm1 : g1.mark ≤ g1.next := by rw [mk1, n1]; exact Nat.le_succ _
    obtain ⟨g2, al2, Z2, x2, n2, mk2⟩ := Jb Y1.wf .strong mm1 (n := 3) Fy rfl
    have Y2 : h.Ext g2 := Y1.trans x2
    have hm0 : h'.marked.next = h'.next := rfl
    have ck : ∀ (k : C) (F : CallF) (e : Env), AB 6 e = pt h'.marked.next → AB 71 e = .pointer (some ⟨b3, 4, none⟩) → AB 74 e = .pointer (some ⟨b', i * 3, none⟩) → Bi (AB 6) [AB 71, AB 74] k F e g2 = k F e g2 := fun k F e e1 e2 e3 => bF e1 e2 e3 (by omega) (by omega)
    obtain ⟨g3, t3', Z3, Y3, n3, mk3, o3⟩ := Jl Y2 (Z1.ext Y1.wf x2) (by omega) (by omega) (CP (m.marks.getD i mm0) u) (n := 3) (off := 0) rfl (Nat.le_refl _) (HB a3.one.2.1)
    rw [A5 (by rfl)] at Z3
    obtain ⟨g4, t4', Z4, Y4, n4, mk4, o4⟩ := Df Y3 (o3 _ _ _ (by omega) Z2) (by omega) (by omega) (CP (m.marks.getD i mm0) u') (n := 3) (off := 0) rfl (Nat.le_refl _) (HB a3'.one.2.1)
    rw [A5 (by rfl)] at Z4
    have Z3' := o4 _ _ _ (by omega) Z3
    obtain ⟨q0, q1, q2, q3⟩ := CD (show g4.Row h'.marked.next 0 (markL (m.marks.getD i mm0) u) from Z3')
    obtain ⟨v0, v1, v2, v3⟩ := CD (show g4.Row g1.next 0 (markL (m.marks.getD i mm0) u') from Z4)
    have U := (((M.lt W).ext W Y4).marks.atS hlt)
    have E1 : g4.Vals u (ints .i64 (m.marks.getD i mm0).ext) := by
      refine (a3.keep fun c el L hc r => ?_).vals
      have hc : c < h.next := hc.2
      refine o4 _ _ _ (by omega) (o3 _ _ _ (by omega) ((r.ext xm.wf x1).ext Y1.wf x2))
    have E2 : g4.Vals u' (ints .i64 (m.marks.getD i mm0).ext) := by
      refine (a3'.keep fun c el L hc r => ?_).vals
      have hc : c < h.next := hc.2
      refine o4 _ _ _ (by omega) (o3 _ _ _ (by omega) ((r.ext xm.wf x1).ext Y1.wf x2))
    obtain ⟨g5, k1, k2⟩ := VH (n := n) E1 E2 (he i hlt)
    have Y5 : h.Ext g5 := by rcases k2 with rfl | rfl <;> first | exact Y4 | exact Y4.marked
    have f1 : iNe (m.marks.getD i mm0).kd (m.marks.getD i mm0).kd = false := Dv rfl
    have be : ∀ (F : CallF) (e : Env), AB 83 e = .bool (m.marks.getD i mm0).com → AB 85 e = .bool (m.marks.getD i mm0).com → oEq ty4.k true (AB 83) (AB 85) F e g4 = .ok (.bool false) g4 := fun F e e1 e2 => Rv e1 e2
    have ad := CY (h := g5) (i := i) (by omega)
    have hrun : ∃ e2, saB (call AK (n + 1)) e' h' = .norm e2 g5 ∧ AB 2 e2 = pt b2 ∧ AB 3 e2 = pt b3 ∧ AB 5 e2 = .int .i64 ((i + 1 : Nat) : Int) := by
      unfold saB
      simp only [sT, Nat.reduceLT, Nat.reduceEqDiff, if_true, if_false, reduceIte, gD, AJ, t2, t3, t5, AN, Nat.zero_add, AP, AX, l4, Ai, ln, AZ, AY, c1, Bc, p4, BG, a1, Aa, AU, a2, r4, a1', a2', al1, al2, ck, t3', t4', q0, v0, f1, q1, v1, be, q2, v2, Ap, Ae, Al, k1, BP, BO, Bool.not_true, Bl, ad]
      exact ⟨_, rfl, by simp only [AG, Nat.reduceLT, Nat.reduceEqDiff, if_true, if_false, reduceIte]; exact t2, by simp only [AG, Nat.reduceLT, Nat.reduceEqDiff, if_true, if_false, reduceIte]; exact t3, by simp [AG]⟩
    obtain ⟨e2, w1, w2, w3, w4⟩ := hrun
    exact ⟨hlt, e2, _, w1, Y5, w2, w3, w4, hlt⟩
  · right
    have c1 := EP (a := i) (b := m.marks.length) (by omega)
    have hrun : ∃ e2, saB (call AK (n + 1)) e' h' = .exit 0 e2 h' := by
      unfold saB
      simp only [sT, Nat.reduceLT, Nat.reduceEqDiff, if_true, if_false, reduceIte, AJ, t2, t5, AN, Nat.zero_add, AP, AX, l4, Ai, ln, AZ, AY, c1]
      exact ⟨_, rfl⟩
    obtain ⟨e2, p1⟩ := hrun
    rw [p1]
    exact ⟨rfl, e2, h', rfl, x⟩
theorem Ld {n : Nat} {h : Hp} (W : h.Wf) {S S' : Nat → Prop} {m : MD} {um uw us um' uw' us' : Value} (M : h.Md S m um uw us) (M' : h.Md S' m um' uw' us') (hr : RightP m) : ∃ h', call AK (n + 3) 11 [mendV m um uw us, mendV m um' uw' us'] h = .ok (.bool true) h' ∧ h.Ext h' := by
  have nb := hr.n1
  have wb : m.which.length ≤ 255 := by have := hr.sh.need; have := hr.need1; omega
  have sb : m.shards.length ≤ 255 := by have := hr.sh.len; omega
  obtain ⟨h1, bx, R2, x1, n1⟩ := Bw W (mendV m um uw us)
  obtain ⟨h2, by_, R3, x2, n2⟩ := Bw x1.wf (mendV m um' uw' us')
  have R2 := R2.ext x1.wf x2
  have y2 := x1.trans x2
  have M2 := M.ext W y2
  have M2' := M'.ext W y2
  obtain ⟨l0, l1, l2, l3, l4, l5, l6, l7⟩ := An R2
  obtain ⟨r0, r1, r2, r3, r4, r5, r6, r7⟩ := An R3
  obtain ⟨h3, k1, k1'⟩ := VH (n := n + 1) M2.which.vals M2'.which.vals (by omega)
  have x3 : h2.Ext h3 := by rcases k1' with rfl | rfl <;> first | exact .refl x2.wf | exact (Hp.Ext.refl x2.wf).marked
  have M3 := M2.ext x2.wf x3
  have M3' := M2'.ext x2.wf x3
  have R2' := R2.ext x2.wf x3
  have R3' := R3.ext x2.wf x3
  obtain ⟨_, _, _, _, _, _, p6, _⟩ := An R2'
  obtain ⟨_, _, _, _, _, _, q6, _⟩ := An R3'
  obtain ⟨h4, k2, x4⟩ := dL (n := n) x3.wf M3.shards M3'.shards (by omega)
  obtain ⟨e1', e1⟩ : ∃ e : Env, e = e := ⟨e0, rfl⟩
  have f0 : ∀ z : Int, iNe z z = false := fun z => Dv rfl
  have la := M2.marks.len (g := h2)
  have lb := M2'.marks.len (g := h2)
  have pre : ∃ e1, SM (call AK (n + 2)) (Av e0 0 [mendV m um uw us, mendV m um' uw' us']) h = saS (call AK (n + 2)) e1 h4 ∧ AB 2 e1 = pt h.next ∧ AB 3 e1 = pt h1.next ∧ AB 5 e1 = .int .i64 ((0 : Nat) : Int) := by
    unfold SM
    simp only [Ac, Af, Nat.succ_eq_add_one, Nat.zero_add, Nat.reduceAdd, Br, Bh, Bs, Ba, BM, Bz, AG, Nat.reduceLT, Nat.reduceEqDiff, if_true, if_false, reduceIte, gD, bx, by_, AJ, AN, AP, AX, l0, l1, l2, l3, l4, l5, r0, r1, r2, r3, r4, r5, AZ, AY, f0, Ai, la, lb, Ap, Ae, Al, k1, BP, BO, Bool.not_true, p6, q6, k2]
    exact ⟨_, rfl, by simp [AG], by simp [AG], by simp only [AG, Nat.reduceLT, Nat.reduceEqDiff, if_true, if_false, reduceIte]; rfl⟩
  obtain ⟨e1, p1, p2, p3, p4⟩ := pre
  obtain ⟨e2, h5, q1, x5⟩ := UG (n := n + 1) x4.wf (R2'.ext x3.wf x4) (R3'.ext x3.wf x4) (M3.ext x3.wf x4) (M3'.ext x3.wf x4) nb (fun i hi => by have := (hr.marks i hi).few; omega) p2 p3 p4
  refine ⟨h5, ?_, ((y2.trans x3).trans x4).trans x5⟩
  rw [Wt rfl, XP, p1, YZ]
  simp only [Be, BQ, q1, BJ, BB]
  unfold saE
  simp only [sT, Nat.reduceLT, Nat.reduceEqDiff, if_true, if_false, reduceIte, Ao, Ax]
end
end Go.Proofs.Ythcfmklkbakkpaa
set_option linter.unusedVariables false
set_option linter.unusedSimpArgs false
namespace Go.Proofs.Ythcfmklkbakkpaa
noncomputable section
open Go Go.RowKit Go.ChangeShapes
set_option maxRecDepth 100000
theorem Dq {h h' : Hp} {F : CallF} {f : Nat} {v : Value} {args : List Value} (q : Qm) (hF : F f args h.quiet = .ok v h') (x : h.quiet.Ext h') (hm : h.mark ≤ h.next) :
    ∃ g, (∀ (e : Env) (l : List O), vals e l = args → Aj q (AV f l) F e h = .ok v g) ∧ h.Ext g ∧ g.mark = h.mark ∧ g.bl = h'.bl ∧ g.next = h'.next :=
  ⟨h.back h', fun e l hl => Qz (by rw [hl]; exact hF) x hm, Hp.Ext.back x, rfl, rfl, rfl⟩
theorem DO {l : List Value} {off : Nat} {w : Value} (h : off < l.length) : over l off [w] = l.set off w := by
  unfold over
  rw [List.set_eq_take_append_cons_drop, if_pos h]
  simp
theorem JA : ∀ {ms : List MM} {us : List Value} {i : Nat} {w : Value}, us.length = ms.length → i < ms.length → (flatM ms us).set (i * 3 + 2) w = flatM ms (us.set i w)
  | [], _, _, _, _, hi => absurd hi (Nat.not_lt_zero _)
  | m :: ms, [], _, _, h, _ => by cases h
  | m :: ms, u :: us, 0, w, h, hi => rfl
  | m :: ms, u :: us, i + 1, w, h, hi => by
    simp only [List.length_cons] at h hi
    have e : (i + 1) * 3 + 2 = (i * 3 + 2) + 3 := by omega
    rw [e]
    show Value.int .i64 m.kd :: Value.bool m.com :: u :: (flatM ms us).set (i * 3 + 2) w = _
    rw [JA (ms := ms) (us := us) (i := i) (w := w) (by omega) (by omega)]; rfl
theorem I9 : ∀ {ms : List MM} {us : List Value}, us.length = ms.length → (∀ i, i < ms.length → Bn (us.getD i noRes) = true) → ∀ x ∈ flatM ms us, Bn x = true
  | [], _, _, _, x, hx => by cases hx
  | m :: ms, [], h, _, _, _ => by cases h
  | m :: ms, u :: us, h, ho, x, hx => by
    simp only [List.length_cons] at h
    unfold flatM at hx
    simp only [List.mem_cons] at hx
    rcases hx with rfl | rfl | rfl | hx
    · rfl
    · rfl
    · exact ho 0 (by simp)
    · exact I9 (ms := ms) (us := us) (by omega) (fun i hi => ho (i + 1) (by simpa using hi)) x hx
theorem DJ {l : List Value} {i j : Nat} {w d : Value} (hi : i < l.length) : (l.set i w).getD j d = if i = j then w else l.getD j d := by
  rw [List.getD_eq_getElem?_getD, List.getElem?_set]
  by_cases h : i = j
  · subst h
    rw [if_pos rfl, if_pos hi, if_pos rfl]; rfl
  · rw [if_neg h, if_neg h, List.getD_eq_getElem?_getD]
theorem gc : RP.k = .slice 56 := by kernel_rfl
theorem XH {n : Nat} {hB h : Hp} (WB : hB.Wf) (xB : hB.Ext h) {S : Nat → Prop} {um : Value} {ms : List MM} (M : hB.Marks S um ms) (h1 : 1 ≤ ms.length) (h2 : ms.length ≤ 255) :
    ∃ h' us, call AK (n + 1) 33 [um] h = .ok (.slice (some ⟨h'.next - 1, 0, none⟩) ms.length ms.length) h' ∧ h.Ext h' ∧ h.next < h'.next ∧ h'.Row (h'.next - 1) 57 (flatM ms us) ∧ us.length = ms.length ∧ ∀ i, i < ms.length → hB.VS S (us.getD i noRes) (ints .i64 (ms.getD i mm0).ext) := by
  obtain ⟨b, el, us, rfl, r0, h3, h4, h5⟩ := M
  have W := xB.wf
  have r := r0.ext WB xB
  have hl := DC h3
  have x1 := (Hp.Ext.refl W).pushRow 0 []
  have R := Hp.Row.new W 0 []
  have es := fun (e : Env) (t : List Value) => IC (F := call AK n) (e := e) (t := t) W
  have n1 : (h.pushRow 0 []).next = h.next + 1 := rfl
  generalize h.pushRow 0 [] = g at x1 R es n1
  have ne : ∀ e : Env, AB 0 e = .slice (some ⟨b, 0, none⟩) ms.length ms.length → oEq RP.k false (AB 0) (kV (.slice none 0 0)) (call AK n) e h = .ok (.bool false) h := fun e he => Hi (t := 0) gc he
  have hs : ∀ k, BL g 3 (.slice (some ⟨b, 0, none⟩) ms.length ms.length) ms.length k = k (flatM ms us) := fun k => by
    rw [(r.ext W x1).srcE (es := 3) (off := 0) (n := ms.length) (by omega), List.drop_zero, List.take_of_length_le (by omega)]
  obtain ⟨h6, a1, a2, a3, a4, a5⟩ := Ej (eb := 40) (en := 56) x1 R hs rfl hl (by omega) (Fv (I9 h3 fun i hi => (h5 i hi).one.2.1)) (by omega)
  have e0 : h6.next - 1 = g.next := by omega
  refine ⟨h6, us, ?_, a2, by omega, by rw [e0]; exact a3, h3, h5⟩
  rw [e0, XA rfl]
  unfold d33
  simp only [Ac, Af, Nat.succ_eq_add_one, Nat.zero_add, Nat.reduceAdd, sT, Nat.reduceLT, Nat.reduceEqDiff, if_true, if_false, reduceIte, ne, es, CC, a1, Ao, Ax]
structure Hp.Ow (h : Hp) (k K T : Nat) (m : MD) (um uw us : Value) : Prop where
  marks : ∃ b xs, um = .slice (some ⟨b, 0, none⟩) m.marks.length m.marks.length ∧ h.Row b 57 (flatM m.marks xs) ∧ xs.length = m.marks.length ∧ k ≤ b ∧ b < K ∧ ∀ i, i < m.marks.length → h.VS (fun b => K ≤ b ∧ b < T) (xs.getD i noRes) (ints .i64 (m.marks.getD i mm0).ext)
  which : h.Cl (fun b => k ≤ b ∧ b < K) 3 uw (ints .i64 m.which)
  shards : ∃ ws, h.Cl (fun b => k ≤ b ∧ b < K) 36 us ws ∧ ws.length = m.shards.length ∧ ∀ i, i < m.shards.length → h.VS (fun b => K ≤ b ∧ b < T) (ws.getD i noRes) ((m.shards.getD i []).map bv)
theorem Hp.Ow.md {h : Hp} {k K T : Nat} {m : MD} {um uw us : Value} (o : h.Ow k K T m um uw us) (hK : k ≤ K) : h.Md (fun b => k ≤ b) m um uw us := by
  obtain ⟨⟨b, xs, h1, h2, h3, h4, h5, h6⟩, w, ⟨ws, k1, k2, k3⟩⟩ := o
  exact ⟨⟨b, 57, xs, h1, h2, h3, h4, fun i hi => (h6 i hi).mono fun b hb => Nat.le_trans hK hb.1⟩, w.vs.mono fun b hb => hb.1, ⟨ws, k1.vs.mono fun b hb => hb.1, k2, fun i hi => (k3 i hi).mono fun b hb => Nat.le_trans hK hb.1⟩⟩
def owA : C := (AE (AC 21) (AS iLt .i64 (AB 20) (AB 19))
(AO (AB 21)
(As (Ab 1 (AE (AC 3) (AF (AB 20))
(BH (AE (AC 23) (AD 4 (AB 1))
(CR (AB 23) (Bi (AB 23) []
(AE (AC 24) (AH (AB 23))
(AE (AC 26) (AD 4 (AB 1))
(AE (AC 27) (AH (AB 26))
(AE (AC 29) (A2 3 (AB 27) (AB 3))
(AE (AC 30) (AD 2 (AB 29))
(AE (AC 31) (AH (AB 30))
(AE (AC 32) (Aj .weak (AV 34 [(AB 31)]))
(AE (AC 33) (A2 3 (AB 24) (AB 3))
(AE (AC 34) (AD 2 (AB 33))
(cDo (Aj .free (AM 1 (AB 34) (AB 32)))
AQ))))))))))))))))
(AE (AC 35) (A9 .i64 (At .i64) (AB 20) (kV (.int .i64 1)))
(AE (AC 20) (AF (AB 35))
AQ)))
(A3 0)))
def owB : C := (AE (AC 40) (AS iLt .i64 (AB 39) (AB 38))
(AO (AB 40)
(As (Ab 3 (AE (AC 4) (AF (AB 39))
(BH (AE (AC 42) (AD 6 (AB 1))
(CR (AB 42) (Bi (AB 42) []
(AE (AC 43) (AH (AB 42))
(AE (AC 45) (AD 6 (AB 1))
(AE (AC 46) (AH (AB 45))
(AE (AC 48) (A2 1 (AB 46) (AB 4))
(AE (AC 49) (AH (AB 48))
(AE (AC 50) (Aj .weak (AV 36 [(AB 49)]))
(AE (AC 51) (A2 1 (AB 43) (AB 4))
(cDo (Aj .free (AM 1 (AB 51) (AB 50)))
AQ))))))))))))))
(AE (AC 52) (A9 .i64 (At .i64) (AB 39) (kV (.int .i64 1)))
(AE (AC 39) (AF (AB 52))
AQ)))
(A3 2)))
def owE : C := (AE (AC 53) (AL 7 (AB 1))
(cDo (AM 7 (AB 2) (AB 53))
Ak))
def owM : C := (AE (AC 36) (AD 6 (AB 1))
(AE (AC 37) (AH (AB 36))
(AE (AC 38) (Am (AB 37))
(AE (AC 39) (AF (kV (.int .i64 0)))
(As (Ab 2 (Ay (AE (AC 40) (AS iLt .i64 (AB 39) (AB 38))
(AO (AB 40)
(As (Ab 3 (AE (AC 4) (AF (AB 39))
(BH (AE (AC 42) (AD 6 (AB 1))
(CR (AB 42) (Bi (AB 42) []
(AE (AC 43) (AH (AB 42))
(AE (AC 45) (AD 6 (AB 1))
(AE (AC 46) (AH (AB 45))
(AE (AC 48) (A2 1 (AB 46) (AB 4))
(AE (AC 49) (AH (AB 48))
(AE (AC 50) (Aj .weak (AV 36 [(AB 49)]))
(AE (AC 51) (A2 1 (AB 43) (AB 4))
(cDo (Aj .free (AM 1 (AB 51) (AB 50)))
AQ))))))))))))))
(AE (AC 52) (A9 .i64 (At .i64) (AB 39) (kV (.int .i64 1)))
(AE (AC 39) (AF (AB 52))
AQ)))
(A3 2)))))
(AE (AC 53) (AL 7 (AB 1))
(cDo (AM 7 (AB 2) (AB 53))
Ak)))))))
def dG : C := (AE (AC 36) (AD 6 (AB 1))
(AE (AC 37) (AH (AB 36))
(AE (AC 38) (Am (AB 37))
(AE (AC 39) (AF (kV (.int .i64 0)))
(As (Ab 2 (Ay owB))
owE)))))
theorem YT : owM = dG := rfl
def SN : C := (AE (AC 1) (Bd (AB 0))
(AE (AC 2) (Au 7 DB)
(BH (AE (AC 5) (AD 4 (AB 1))
(AE (AC 6) (AH (AB 5))
(AE (AC 7) (Aj .weak (AV 33 [(AB 6)]))
(AE (AC 8) (AD 5 (AB 1))
(CR (AB 8) (Bi (AB 8) []
(AE (AC 9) (AH (AB 8))
(AE (AC 10) (Aj .weak (AV 34 [(AB 9)]))
(AE (AC 11) (AD 6 (AB 1))
(CR (AB 11) (Bi (AB 11) []
(AE (AC 12) (AH (AB 11))
(AE (AC 13) (Aj .free (AV 35 [(AB 12)]))
(AE (AC 14) (AD 4 (AB 1))
(cDo (Aj .free (AM 1 (AB 14) (AB 7)))
(AE (AC 15) (AD 5 (AB 1))
(cDo (Aj .free (AM 1 (AB 15) (AB 10)))
(AE (AC 16) (AD 6 (AB 1))
(cDo (Aj .free (AM 1 (AB 16) (AB 13)))
(AE (AC 17) (AD 4 (AB 1))
(AE (AC 18) (AH (AB 17))
(AE (AC 19) (Am (AB 18))
(AE (AC 20) (AF (kV (.int .i64 0)))
(As (Ab 0 (Ay owA))
owM)))))))))))))))))))))))))))
def d15 : C := SN
theorem Wu {n : Nat} {args : List Value} {h : Hp} (hl : Nat.ble (Bk args) 320 = true) : call AK (Nat.succ n) 15 args h = Bt [.cN (AB 2) 7] (d15 (call AK n) (Av e0 0 args) h) := by
  have hb : AK.get 15 = some b15 := by kernel_rfl
  rw [BN hb]
  have hd : b15 = ⟨[.cN (AB 2) 7], d15⟩ := by kernel_rfl
  rw [hd, BE hl]
theorem XQ : d15 = SN := rfl
structure OwI (h hS h' : Hp) (K : Nat) (m : MD) (bM : Nat) (us0 : List Value) (xs : List Value) (i : Nat) : Prop where
  x : h.Ext h'
  nx : K ≤ h'.next
  row : h'.Row bM 57 (flatM m.marks xs)
  len : xs.length = m.marks.length
  done : ∀ j, j < i → h'.VS (fun b => K ≤ b) (xs.getD j noRes) (ints .i64 (m.marks.getD j mm0).ext)
  rest : ∀ j, i ≤ j → xs.getD j noRes = us0.getD j noRes
  keep : ∀ b el L, b < K → b ≠ bM → hS.Row b el L → h'.Row b el L
theorem Qt {n : Nat} {h hS : Hp} (W : h.Wf) {S : Nat → Prop} {m : MD} {v10 v13 : Value} {b1 bM K : Nat} {us0 : List Value} (x0 : h.Ext hS) (hKn : hS.next = K) (R1 : hS.Row b1 0 (mendL m (.slice (some ⟨bM, 0, none⟩) m.marks.length m.marks.length) v10 v13)) (RM : hS.Row bM 57 (flatM m.marks us0)) (hM : h.next ≤ bM) (hMK : bM < K) (hlen : us0.length = m.marks.length) (hV : ∀ i, i < m.marks.length → h.VS S (us0.getD i noRes) (ints .i64 (m.marks.getD i mm0).ext)) (hl : m.marks.length ≤ 255) (he : ∀ i, i < m.marks.length → (m.marks.getD i mm0).ext.length ≤ 50) {e : Env} {s2v : Value} (s1 : AB 1 e = pt b1) (s2 : AB 2 e = s2v) (s19 : AB 19 e = .int .i64 (m.marks.length : Int)) (s20 : AB 20 e = .int .i64 ((0 : Nat) : Int)) :
    ∃ e' h' xs, Ay owA (call AK (n + 1)) e hS = .exit 0 e' h' ∧ OwI h hS h' K m bM us0 xs m.marks.length ∧ AB 1 e' = pt b1 ∧ AB 2 e' = s2v := by
  have ne1 : b1 ≠ bM := EO R1 RM (by omega)
  have b1K : b1 < K := hKn ▸ R1.lt x0.wf
  refine B8 (I := fun i e' h' => ∃ xs, OwI h hS h' K m bM us0 xs i ∧ AB 1 e' = pt b1 ∧ AB 2 e' = s2v ∧ AB 19 e' = .int .i64 (m.marks.length : Int) ∧ AB 20 e' = .int .i64 (i : Int) ∧ i ≤ m.marks.length)
    (Q := fun x => ∃ e' h' xs, x = .exit 0 e' h' ∧ OwI h hS h' K m bM us0 xs m.marks.length ∧ AB 1 e' = pt b1 ∧ AB 2 e' = s2v) m.marks.length (by omega) (fun i e' h' ⟨xs, I, t1, t2, t19, t20, hi⟩ => ?_) ⟨us0, { x := x0, nx := Nat.le_of_eq hKn.symm, row := RM, len := hlen, done := fun j hj => absurd hj (Nat.not_lt_zero _), rest := fun j _ => rfl, keep := fun b el L _ _ r => r }, s1, s2, s19, s20, Nat.zero_le _⟩
  by_cases hlt : i < m.marks.length
  · left
    have c1 := GC hlt
    have nx := I.nx
    have Wh := I.x.wf
    have xm := I.x.marked
    have R1m : h'.marked.Row b1 0 (mendL m (.slice (some ⟨bM, 0, none⟩) m.marks.length m.marks.length) v10 v13) := (I.keep _ _ _ b1K ne1 R1).same rfl
    obtain ⟨_, _, _, _, l4, _⟩ := An R1m
    have hfl := DC I.len
    have hd := D5 I.len hlt
    have RMm : h'.marked.Row bM 57 (flatM m.marks xs) := I.row.same rfl
    have hold : b1 < h'.marked.mark := by show b1 < h'.next; omega
    have ix : Cv 3 (.slice (some ⟨bM, 0, none⟩) m.marks.length m.marks.length) (.int .i64 (i : Int)) h'.marked = .ok (.pointer (some ⟨bM, i * 3, none⟩)) h'.marked := by
      have := B6 (h := h'.marked) (n := m.marks.length) (c := m.marks.length) (es := 3) (b := bM) (off := 0) (k := .i64) hlt
      rwa [Nat.zero_add] at this
    have l2 : load1 ⟨bM, i * 3 + 2, none⟩ h'.marked = .ok (us0.getD i noRes) h'.marked := by
      rw [RMm.load1 (by omega)]
      have e := congrArg (fun l => l[2]?) hd
      simp only [List.getElem?_drop, markL, List.cons_append, List.nil_append, List.getElem?_cons_succ, List.getElem?_cons_zero] at e
      rw [List.getD_eq_getElem?_getD, e, ← I.rest i (Nat.le_refl _)]; rfl
    have V := (hV i hlt).ext W xm.quiet
    obtain ⟨h3, w, k1, x3, C3⟩ := Pd (n := n) xm.quiet.wf V.vals (Di _ _) (by rw [BW]; have := he i hlt; omega)
    obtain ⟨g, q, xg, gm, gb, gn⟩ := Dq .weak k1 x3 (Nat.le_refl _)
    have C3 : g.Cl (fun b => h'.next ≤ b ∧ b < h3.next) 3 w (ints .i64 (m.marks.getD i mm0).ext) := C3.same gb
    have ixg : Cv 3 (.slice (some ⟨bM, 0, none⟩) m.marks.length m.marks.length) (.int .i64 (i : Int)) g = .ok (.pointer (some ⟨bM, i * 3, none⟩)) g := by
      have := B6 (h := g) (n := m.marks.length) (c := m.marks.length) (es := 3) (b := bM) (off := 0) (k := .i64) hlt
      rwa [Nat.zero_add] at this
    have RMg := RMm.ext xm.wf xg
    have y : h.Ext g := xm.trans xg
    obtain ⟨wc, w1, _⟩ := C3.vs.one
    have big := W.big
    obtain ⟨g2, st, R4, y2, n2, mk2, o2⟩ := Df y RMg hM (by omega) w (n := 1) (off := i * 3 + 2) (by rw [wc]; rfl) (by omega) (by rw [wc]; show (bif Bn w then true else false) = true; rw [w1]; rfl)
    rw [wc, DO (by omega), JA I.len hlt] at R4
    have xn := xg.next
    have xn' : h'.next ≤ g.next := xn
    have ad := CY (h := g2) (i := i) (by omega)
    have hrun : ∃ e2, owA (call AK (n + 1)) e' h' = .norm e2 g2 ∧ AB 1 e2 = pt b1 ∧ AB 2 e2 = s2v ∧ AB 19 e2 = .int .i64 (m.marks.length : Int) ∧ AB 20 e2 = .int .i64 ((i + 1 : Nat) : Int) := by
      unfold owA
      simp only [sT, Nat.reduceLT, Nat.reduceEqDiff, if_true, if_false, reduceIte, AZ, AY, t20, t19, c1, Bc, AJ, t1, AN, Nat.zero_add, Fh, Dp hold, Eg, AP, AX, l4, BG, ix, l2, q, Ae, Al, ixg, st, Bl, ad]
      exact ⟨_, rfl, by simp only [AG, Nat.reduceLT, Nat.reduceEqDiff, if_true, if_false, reduceIte]; exact t1, by simp only [AG, Nat.reduceLT, Nat.reduceEqDiff, if_true, if_false, reduceIte]; exact t2, by simp only [AG, Nat.reduceLT, Nat.reduceEqDiff, if_true, if_false, reduceIte]; exact t19, by simp [AG]⟩
    obtain ⟨e2, p1, p2, p3, p4, p5⟩ := hrun
    refine ⟨hlt, e2, g2, p1, xs.set i w, { x := y2, nx := by omega, row := R4, len := by rw [List.length_set]; exact I.len, done := fun j hj => ?_, rest := fun j hj => ?_, keep := fun b el L hb hne r => ?_ }, p2, p3, p4, p5, hlt⟩
    · rw [DJ (by rw [I.len]; exact hlt)]
      by_cases hij : i = j
      · subst hij
        rw [if_pos rfl]
        refine (C3.vs.keep fun b el L hb r => o2 _ _ _ (by omega) r).mono fun b hb => by omega
      · rw [if_neg hij]
        refine (I.done j (by omega)).keep fun b el L hb r => o2 _ _ _ (by omega) ((r.same (h' := h'.marked) rfl).ext xm.wf xg)
    · rw [DJ (by rw [I.len]; exact hlt), if_neg (by omega)]
      exact I.rest j (by omega)
    · exact o2 _ _ _ hne (((I.keep b el L hb hne r).same (h' := h'.marked) rfl).ext xm.wf xg)
  · right
    have c1 := EP (a := i) (b := m.marks.length) (by omega)
    obtain rfl : i = m.marks.length := by omega
    have hrun : ∃ e2, owA (call AK (n + 1)) e' h' = .exit 0 e2 h' ∧ AB 1 e2 = pt b1 ∧ AB 2 e2 = s2v := by
      unfold owA
      simp only [sT, Nat.reduceLT, Nat.reduceEqDiff, if_true, if_false, reduceIte, AZ, AY, t20, t19, c1]
      exact ⟨_, rfl, by simp only [AG, Nat.reduceLT, Nat.reduceEqDiff, if_true, if_false, reduceIte]; exact t1, by simp only [AG, Nat.reduceLT, Nat.reduceEqDiff, if_true, if_false, reduceIte]; exact t2⟩
    obtain ⟨e2, p1, p2, p3⟩ := hrun
    rw [p1]
    exact ⟨rfl, e2, h', xs, rfl, I, p2, p3⟩
end
end Go.Proofs.Ythcfmklkbakkpaa
set_option linter.unusedVariables false
set_option linter.unusedSimpArgs false
namespace Go.Proofs.Ythcfmklkbakkpaa
noncomputable section
open Go Go.RowKit Go.ChangeShapes
set_option maxRecDepth 100000
structure OwJ (h hT h' : Hp) (K : Nat) (m : MD) (bS : Nat) (ws0 : List Value) (xs : List Value) (i : Nat) : Prop where
  x : h.Ext h'
  nx : hT.next ≤ h'.next
  row : h'.Row bS 37 xs
  len : xs.length = m.shards.length
  done : ∀ j, j < i → h'.VS (fun b => K ≤ b) (xs.getD j noRes) ((m.shards.getD j []).map bv)
  rest : ∀ j, i ≤ j → xs.getD j noRes = ws0.getD j noRes
  keep : ∀ b el L, b ≠ bS → hT.Row b el L → h'.Row b el L
theorem Qu {n : Nat} {h hT : Hp} (W : h.Wf) {S : Nat → Prop} {m : MD} {vm v10 : Value} {b1 bS K : Nat} {ws0 : List Value} (x0 : h.Ext hT) (hKn : K ≤ hT.next) (R1 : hT.Row b1 0 (mendL m vm v10 (.slice (some ⟨bS, 0, none⟩) m.shards.length m.shards.length))) (RS : hT.Row bS 37 ws0) (hS : h.next ≤ bS) (hSK : bS < K) (hlen : ws0.length = m.shards.length) (hV : ∀ i, i < m.shards.length → h.VS S (ws0.getD i noRes) ((m.shards.getD i []).map bv)) (hl : m.shards.length ≤ 255) (he : ∀ i, i < m.shards.length → (m.shards.getD i []).length ≤ 65536) {e : Env} {s2v : Value} (s1 : AB 1 e = pt b1) (s2 : AB 2 e = s2v) (s38 : AB 38 e = .int .i64 (m.shards.length : Int)) (s39 : AB 39 e = .int .i64 ((0 : Nat) : Int)) :
    ∃ e' h' xs, Ay owB (call AK (n + 1)) e hT = .exit 2 e' h' ∧ OwJ h hT h' K m bS ws0 xs m.shards.length ∧ AB 1 e' = pt b1 ∧ AB 2 e' = s2v := by
  have ne1 : b1 ≠ bS := EO R1 RS (by omega)
  have b1K := R1.lt x0.wf
  refine B8 (I := fun i e' h' => ∃ xs, OwJ h hT h' K m bS ws0 xs i ∧ AB 1 e' = pt b1 ∧ AB 2 e' = s2v ∧ AB 38 e' = .int .i64 (m.shards.length : Int) ∧ AB 39 e' = .int .i64 (i : Int) ∧ i ≤ m.shards.length)
    (Q := fun x => ∃ e' h' xs, x = .exit 2 e' h' ∧ OwJ h hT h' K m bS ws0 xs m.shards.length ∧ AB 1 e' = pt b1 ∧ AB 2 e' = s2v) m.shards.length (by omega) (fun i e' h' ⟨xs, I, t1, t2, t38, t39, hi⟩ => ?_) ⟨ws0, { x := x0, nx := Nat.le_refl _, row := RS, len := hlen, done := fun j hj => absurd hj (Nat.not_lt_zero _), rest := fun j _ => rfl, keep := fun b el L _ r => r }, s1, s2, s38, s39, Nat.zero_le _⟩
  by_cases hlt : i < m.shards.length
  · left
    have c1 := GC hlt
    have nx := I.nx
    have Wh := I.x.wf
    have xm := I.x.marked
    have R1m : h'.marked.Row b1 0 (mendL m vm v10 (.slice (some ⟨bS, 0, none⟩) m.shards.length m.shards.length)) := (I.keep _ _ _ ne1 R1).same rfl
    obtain ⟨_, _, _, _, _, _, l6, _⟩ := An R1m
    have RSm : h'.marked.Row bS 37 xs := I.row.same rfl
    have hold : b1 < h'.marked.mark := by show b1 < h'.next; omega
    have ix : ∀ g : Hp, Cv 1 (.slice (some ⟨bS, 0, none⟩) m.shards.length m.shards.length) (.int .i64 (i : Int)) g = .ok (.pointer (some ⟨bS, i, none⟩)) g := fun g => by
      have := B6 (h := g) (n := m.shards.length) (c := m.shards.length) (es := 1) (b := bS) (off := 0) (k := .i64) hlt
      rwa [Nat.zero_add, Nat.mul_one] at this
    have l2 : load1 ⟨bS, i, none⟩ h'.marked = .ok (ws0.getD i noRes) h'.marked := by
      rw [RSm.load1 (by rw [I.len]; exact hlt), I.rest i (Nat.le_refl _)]
    have V := (hV i hlt).ext W xm.quiet
    obtain ⟨h3, w, k1, x3, C3⟩ := Pc (n := n) xm.quiet.wf V.vals (Gt _) (by rw [List.length_map]; have := he i hlt; omega)
    obtain ⟨g, q, xg, gm, gb, gn⟩ := Dq .weak k1 x3 (Nat.le_refl _)
    have C3 : g.Cl (fun b => h'.next ≤ b ∧ b < h3.next) 5 w ((m.shards.getD i []).map bv) := C3.same gb
    have RSg := RSm.ext xm.wf xg
    have y : h.Ext g := xm.trans xg
    obtain ⟨wc, w1, _⟩ := C3.vs.one
    have big := W.big
    have hil : i < xs.length := by rw [I.len]; exact hlt
    obtain ⟨g2, st, R4, y2, n2, mk2, o2⟩ := Df y RSg hS (by omega) w (n := 1) (off := i) (by rw [wc]; rfl) (by omega) (by rw [wc]; show (bif Bn w then true else false) = true; rw [w1]; rfl)
    rw [wc, DO hil] at R4
    have xn := xg.next
    have xn' : h'.next ≤ g.next := xn
    have ad := CY (h := g2) (i := i) (by omega)
    have hrun : ∃ e2, owB (call AK (n + 1)) e' h' = .norm e2 g2 ∧ AB 1 e2 = pt b1 ∧ AB 2 e2 = s2v ∧ AB 38 e2 = .int .i64 (m.shards.length : Int) ∧ AB 39 e2 = .int .i64 ((i + 1 : Nat) : Int) := by
      unfold owB
      simp only [sT, Nat.reduceLT, Nat.reduceEqDiff, if_true, if_false, reduceIte, AZ, AY, t39, t38, c1, Bc, AJ, t1, AN, Nat.zero_add, Fh, Dp hold, Eg, AP, AX, l6, BG, ix, l2, q, Ae, Al, st, Bl, ad]
      exact ⟨_, rfl, by simp only [AG, Nat.reduceLT, Nat.reduceEqDiff, if_true, if_false, reduceIte]; exact t1, by simp only [AG, Nat.reduceLT, Nat.reduceEqDiff, if_true, if_false, reduceIte]; exact t2, by simp only [AG, Nat.reduceLT, Nat.reduceEqDiff, if_true, if_false, reduceIte]; exact t38, by simp [AG]⟩
    obtain ⟨e2, p1, p2, p3, p4, p5⟩ := hrun
    refine ⟨hlt, e2, g2, p1, xs.set i w, { x := y2, nx := by omega, row := R4, len := by rw [List.length_set]; exact I.len, done := fun j hj => ?_, rest := fun j hj => ?_, keep := fun b el L hne r => ?_ }, p2, p3, p4, p5, hlt⟩
    · rw [DJ hil]
      by_cases hij : i = j
      · subst hij
        rw [if_pos rfl]
        refine (C3.vs.keep fun b el L hb r => o2 _ _ _ (by omega) r).mono fun b hb => by omega
      · rw [if_neg hij]
        refine (I.done j (by omega)).keep fun b el L hb r => o2 _ _ _ (by omega) ((r.same (h' := h'.marked) rfl).ext xm.wf xg)
    · rw [DJ hil, if_neg (by omega)]
      exact I.rest j (by omega)
    · exact o2 _ _ _ hne (((I.keep b el L hne r).same (h' := h'.marked) rfl).ext xm.wf xg)
  · right
    have c1 := EP (a := i) (b := m.shards.length) (by omega)
    obtain rfl : i = m.shards.length := by omega
    have hrun : ∃ e2, owB (call AK (n + 1)) e' h' = .exit 2 e2 h' ∧ AB 1 e2 = pt b1 ∧ AB 2 e2 = s2v := by
      unfold owB
      simp only [sT, Nat.reduceLT, Nat.reduceEqDiff, if_true, if_false, reduceIte, AZ, AY, t39, t38, c1]
      exact ⟨_, rfl, by simp only [AG, Nat.reduceLT, Nat.reduceEqDiff, if_true, if_false, reduceIte]; exact t1, by simp only [AG, Nat.reduceLT, Nat.reduceEqDiff, if_true, if_false, reduceIte]; exact t2⟩
    obtain ⟨e2, p1, p2, p3⟩ := hrun
    rw [p1]
    exact ⟨rfl, e2, h', xs, rfl, I, p2, p3⟩
theorem Qv {F : CallF} {g : Hp} {e : Env} (s38 : AB 38 e = .int .i64 ((0 : Nat) : Int)) (s39 : AB 39 e = .int .i64 ((0 : Nat) : Int)) : ∃ e', Ay owB F e g = .exit 2 e' g ∧ AB 1 e' = AB 1 e ∧ AB 2 e' = AB 2 e := by
  refine B8 (I := fun i e' h' => h' = g ∧ e' = e) (Q := fun x => ∃ e', x = .exit 2 e' g ∧ AB 1 e' = AB 1 e ∧ AB 2 e' = AB 2 e) 1 (by omega) (fun i e' h' ⟨hh, he⟩ => ?_) ⟨rfl, rfl⟩
  subst hh; subst he
  right
  have c1 : iLt ((0 : Nat) : Int) ((0 : Nat) : Int) = false := rfl
  have hrun : ∃ e2, owB F e' h' = .exit 2 e2 h' ∧ AB 1 e2 = AB 1 e' ∧ AB 2 e2 = AB 2 e' := by
    unfold owB
    simp only [sT, Nat.reduceLT, Nat.reduceEqDiff, if_true, if_false, reduceIte, AZ, AY, s38, s39, c1]
    exact ⟨_, rfl, by simp [AG], by simp [AG]⟩
  obtain ⟨e2, p1, p2, p3⟩ := hrun
  rw [p1]
  exact ⟨rfl, e2, rfl, p2, p3⟩
theorem Kj {m : MD} {l : List Nat} (h : fitsM m l = true) : l.length ≤ 65536 := by
  unfold fitsM at h
  simp only [Bool.and_eq_true, decide_eq_true_eq] at h
  exact h.1
theorem Nz {n : Nat} {h : Hp} (W : h.Wf) {S : Nat → Prop} {m : MD} {um uw us : Value} (M : h.Md S m um uw us) (hr : RightP m) :
    ∃ h' um' uw' us' K, call AK (n + 2) 15 [mendV m um uw us] h = .ok (mendV m um' uw' us') h' ∧ h.Ext h' ∧ h'.Ow h.next K h'.next m um' uw' us' ∧ h.next ≤ K ∧ K ≤ h'.next := by
  have nb := hr.n1
  have na := hr.n0
  have wb : m.which.length ≤ 255 := by have := hr.sh.need; have := hr.need1; omega
  have sb : m.shards.length ≤ 255 := by have := hr.sh.len; omega
  have big := W.big
  obtain ⟨h1, bx, R1, x1, n1⟩ := Bw W (mendV m um uw us)
  have R1 : h1.Row h.next 0 (mendL m um uw us) := R1
  obtain ⟨h2, al, R2, x2, n2⟩ := Bq x1.wf (n := 7) D0 rfl
  have y2 := x1.trans x2
  have R1 := R1.ext x1.wf x2
  have xm := y2.marked
  have hmk : h2.marked.mark = h2.next := rfl
  have hnx : h2.marked.next = h2.next := rfl
  have R1m : h2.marked.Row h.next 0 (mendL m um uw us) := R1.same rfl
  have R2m : h2.marked.Row h1.next 0 [.int .i64 0, .int .i64 0, .int .i64 0, .int .i64 0, A6, A6, A6] := R2.same rfl
  generalize hg0 : h2.marked = g0 at xm hmk hnx R1m R2m
  obtain ⟨_, _, _, _, a4, _⟩ := An R1m
  obtain ⟨h3, us0, k1, x3, hlt3, R3, len0, V0⟩ := XH (n := n) W xm.quiet M.marks na nb
  obtain ⟨g1, q1, xg1, mk1, gb1, gn1⟩ := Dq .weak k1 x3 (by rw [hmk, hnx]; exact Nat.le_refl _)
  have R3 : g1.Row (h3.next - 1) 57 (flatM m.marks us0) := R3.same gb1
  have y3 := xm.trans xg1
  have R1a := R1m.ext xm.wf xg1
  obtain ⟨_, _, _, _, _, b5, _⟩ := An R1a
  have hlt3 : h2.next < h3.next := by rw [← hnx]; exact hlt3
  obtain ⟨h4, v10, k2, x4, C4⟩ := Pd (n := n) y3.quiet.wf (M.ext W y3.quiet).which.vals (Di _ _) (by rw [BW]; omega)
  obtain ⟨g2, q2, xg2, mk2, gb2, gn2⟩ := Dq .weak k2 x4 (by rw [mk1, hmk, gn1]; omega)
  have C4 : g2.Cl (fun b => g1.next ≤ b ∧ b < h4.next) 3 v10 (ints .i64 m.which) := C4.same gb2
  have y4 := y3.trans xg2
  have R1b := R1a.ext y3.wf xg2
  obtain ⟨_, _, _, _, _, _, c6, _⟩ := An R1b
  obtain ⟨ws, w1, w2, w3⟩ := M.shards
  have z4 := x4.next
  have z4 : g1.next ≤ h4.next := z4
  obtain ⟨h5, v13, k3, x5, C5⟩ := XI (n := n) y4.quiet.wf (w1.ext W y4.quiet).vals (Fv fun x hx => by
    obtain ⟨i, hi, rfl⟩ := List.mem_iff_getElem.1 hx
    have := (w3 i (by omega)).one.2.1
    rwa [List.getD_eq_getElem?_getD, List.getElem?_eq_getElem hi] at this) (by omega)
  obtain ⟨g3, q3, xg3, mk3, gb3, gn3⟩ := Dq .free k3 x5 (by rw [mk2, mk1, hmk, gn2]; omega)
  have C5 : g3.Cl (fun b => g2.next ≤ b ∧ b < h5.next) 36 v13 ws := C5.same gb3
  have y5 := y4.trans xg3
  have R1c := R1b.ext y4.wf xg3
  have z5 := x5.next
  have z5 : g2.next ≤ h5.next := z5
  obtain ⟨d10, e10, _⟩ := C4.vs.one
  obtain ⟨d13, e13, _⟩ := C5.vs.one
  obtain ⟨g4, t4, T4, y6, n4, mk4, o4⟩ := Df y5 R1c (Nat.le_refl _) big (.slice (some ⟨h3.next - 1, 0, none⟩) m.marks.length m.marks.length) (n := 1) (off := 4) rfl (by show 4 + 1 ≤ 7; omega) rfl
  obtain ⟨g5, t5, T5, y7, n5, mk5, o5⟩ := Df y6 T4 (Nat.le_refl _) big v10 (n := 1) (off := 5) (by rw [d10]; rfl) (by rw [ER (by show 4 + 1 ≤ 7; omega)]; show 5 + 1 ≤ 7; omega) (by rw [d10]; show (bif Bn v10 then true else false) = true; rw [e10]; rfl)
  rw [d10] at T5
  obtain ⟨g6, t6, T6, y8, n6, mk6, o6⟩ := Df y7 T5 (Nat.le_refl _) big v13 (n := 1) (off := 6) (by rw [d13]; rfl) (by show 6 + 1 ≤ 7; omega) (by rw [d13]; show (bif Bn v13 then true else false) = true; rw [e13]; rfl)
  rw [d13] at T6
  have T6 : g6.Row h.next 0 (mendL m (.slice (some ⟨h3.next - 1, 0, none⟩) m.marks.length m.marks.length) v10 v13) := T6
  have oo : ∀ b el L, b ≠ h.next → g3.Row b el L → g6.Row b el L := fun b el L hb r => o6 _ _ _ hb (o5 _ _ _ hb (o4 _ _ _ hb r))
  have z1 := x1.next
  have z2 := x2.next
  have M6 : g6.Row (h3.next - 1) 57 (flatM m.marks us0) := oo _ _ _ (by omega) ((R3.ext y3.wf xg2).ext y4.wf xg3)
  have W6 : g6.Cl (fun b => g1.next ≤ b ∧ b < h4.next) 3 v10 (ints .i64 m.which) := (C4.ext y4.wf xg3).keep fun b el L hb r => oo _ _ _ (by omega) r
  have S6 : g6.Cl (fun b => g2.next ≤ b ∧ b < h5.next) 36 v13 ws := C5.keep fun b el L hb r => oo _ _ _ (by omega) r
  have Z6 : g6.Row h1.next 0 [.int .i64 0, .int .i64 0, .int .i64 0, .int .i64 0, A6, A6, A6] := oo _ _ _ (by omega) (((R2m.ext xm.wf xg1).ext y3.wf xg2).ext y4.wf xg3)
  have hK : g6.next = h5.next := by omega
  obtain ⟨_, _, _, _, p4, _⟩ := An T6
  have old1 : h.next < g1.mark := by rw [mk1, hmk]; omega
  have old2 : h.next < g2.mark := by rw [mk2, mk1, hmk]; omega
  have lnM : ∀ g : Hp, lenSR (.slice (some ⟨h3.next - 1, 0, none⟩) m.marks.length m.marks.length) g = .ok (.int .i64 (m.marks.length : Int)) g := fun g => B1
  have pre : ∃ e1, SN (call AK (n + 1)) (Av e0 0 [mendV m um uw us]) h = Fa (Cb 0 (Ay owA (call AK (n + 1)) e1 g6)) owM (call AK (n + 1)) ∧ AB 1 e1 = pt h.next ∧ AB 2 e1 = pt h1.next ∧ AB 19 e1 = .int .i64 (m.marks.length : Int) ∧ AB 20 e1 = .int .i64 ((0 : Nat) : Int) := by
    unfold SN
    simp only [Ac, Af, Nat.succ_eq_add_one, Nat.zero_add, Nat.reduceAdd, Br, Ck, Be, BQ, Bs, Cm, BM, Bz, AG, Nat.reduceLT, Nat.reduceEqDiff, if_true, if_false, reduceIte, bx, al, Bc, hg0, AJ, AN, AP, AX, a4, q1, Ae, Al, Fh, Dp old1, Dp old2, Eg, b5, q2, c6, q3, t4, t5, t6, p4, Ai, lnM]
    exact ⟨_, rfl, by simp [AG], by simp [AG], by simp [AG], by simp only [AG, Nat.reduceLT, Nat.reduceEqDiff, if_true, if_false, reduceIte]; rfl⟩
  obtain ⟨e1, p1, s1, s2, s19, s20⟩ := pre
  obtain ⟨e2, g7, xs, q7, I, r1, r2⟩ := Qt (n := n) W (hS := g6) (K := g6.next) y8 rfl T6 M6 (by omega) (by omega) len0 V0 nb (fun i hi => (hr.marks i hi).few) s1 s2 s19 s20
  have nx7 := I.nx
  have T7 : g7.Row h.next 0 (mendL m (.slice (some ⟨h3.next - 1, 0, none⟩) m.marks.length m.marks.length) v10 v13) := I.keep _ _ _ (by omega) (by omega) T6
  have W7 : g7.Cl (fun b => g1.next ≤ b ∧ b < h4.next) 3 v10 (ints .i64 m.which) := W6.keep fun b el L hb r => I.keep _ _ _ (by omega) (by omega) r
  have S7 : g7.Cl (fun b => g2.next ≤ b ∧ b < h5.next) 36 v13 ws := S6.keep fun b el L hb r => I.keep _ _ _ (by omega) (by omega) r
  have Z7 := I.keep _ _ _ (show h1.next < g6.next by omega) (by omega) Z6
  obtain ⟨_, _, _, _, _, _, t6', _⟩ := An T7
  have two : ∃ e3 g8 ws', Cb 2 (Ay owB (call AK (n + 1)) (Env.set 39 (.int .i64 0) (Env.set 38 (.int .i64 (m.shards.length : Int)) (Env.set 37 v13 (Env.set 36 (.pointer (some ⟨h.next, 6, none⟩)) e2)))) g7) = .norm e3 g8 ∧ AB 1 e3 = pt h.next ∧ AB 2 e3 = pt h1.next ∧ h.Ext g8 ∧ g7.next ≤ g8.next ∧ (∀ b el L, ¬ (g2.next ≤ b ∧ b < h5.next) → g7.Row b el L → g8.Row b el L) ∧ g8.Cl (fun b => g2.next ≤ b ∧ b < h5.next) 36 v13 ws' ∧ ws'.length = m.shards.length ∧ ∀ i, i < m.shards.length → g8.VS (fun b => g6.next ≤ b) (ws'.getD i noRes) ((m.shards.getD i []).map bv) := by
    rcases Nat.eq_zero_or_pos m.shards.length with hz | hz
    · obtain ⟨e3, f1, f2, f3⟩ := Qv (F := call AK (n + 1)) (g := g7) (e := Env.set 39 (.int .i64 0) (Env.set 38 (.int .i64 (m.shards.length : Int)) (Env.set 37 v13 (Env.set 36 (.pointer (some ⟨h.next, 6, none⟩)) e2)))) (by simp only [AG, Nat.reduceLT, Nat.reduceEqDiff, if_true, if_false, reduceIte, hz]) (by simp only [AG, Nat.reduceLT, Nat.reduceEqDiff, if_true, if_false, reduceIte]; rfl)
      refine ⟨e3, g7, ws, by rw [f1, BJ], f2.trans (by simp only [AG, Nat.reduceLT, Nat.reduceEqDiff, if_true, if_false, reduceIte]; exact r1), f3.trans (by simp only [AG, Nat.reduceLT, Nat.reduceEqDiff, if_true, if_false, reduceIte]; exact r2), I.x, Nat.le_refl _, fun b el L _ r => r, S7, w2, fun i hi => by omega⟩
    · rcases S7 with ⟨_, hv⟩ | ⟨bS, el, hv, rS, hel, hbS, hb256⟩
      · rw [hv] at w2
        rw [← w2] at hz
        exact absurd hz (by simp)
      · have hel : el = 37 := by
          rcases hel with h | ⟨_, h⟩
          · exact h
          · rw [h] at w2; rw [← w2] at hz
            exact absurd hz (by simp)
        subst hel
        rw [w2] at hv
        rw [hv] at T7
        have hbS : g2.next ≤ bS ∧ bS < h5.next := hbS
        obtain ⟨e3, g8, xs', f1, J, f2, f3⟩ := Qu (n := n) (K := g6.next) W I.x nx7 T7 rS (by omega) (by omega) w2 w3 sb (fun i hi => Kj (hr.sh.each i (by rw [hr.sh.len]; exact hi)).2.2.2) (e := Env.set 39 (.int .i64 0) (Env.set 38 (.int .i64 (m.shards.length : Int)) (Env.set 37 v13 (Env.set 36 (.pointer (some ⟨h.next, 6, none⟩)) e2)))) (s2v := pt h1.next) (by simp only [AG, Nat.reduceLT, Nat.reduceEqDiff, if_true, if_false, reduceIte]; exact r1) (by simp only [AG, Nat.reduceLT, Nat.reduceEqDiff, if_true, if_false, reduceIte]; exact r2) (by simp [AG]) (by simp only [AG, Nat.reduceLT, Nat.reduceEqDiff, if_true, if_false, reduceIte]; rfl)
        have hxl := J.len
        refine ⟨e3, g8, xs', by rw [f1, BJ], f2, f3, J.x, J.nx, fun b el L hb r => J.keep _ _ _ (fun e => hb (e ▸ hbS)) r, .inr ⟨bS, 37, by rw [hxl]; exact hv, J.row, .inl rfl, hbS, hb256⟩, J.len, J.done⟩
  obtain ⟨e3, g8, ws', q8, s1', s2', y9, nx8, k8, C8, l8, V8⟩ := two
  have T8 := k8 _ _ _ (by omega) T7
  obtain ⟨_, _, _, _, _, _, _, t7'⟩ := An T8
  have Z8 := k8 _ _ _ (by omega) Z7
  obtain ⟨b10, b13⟩ : Bn v10 = true ∧ Bn v13 = true := ⟨e10, e13⟩
  have ha : Bj (mendL m (.slice (some ⟨h3.next - 1, 0, none⟩) m.marks.length m.marks.length) v10 v13) = true := by
    refine Fv fun x hx => ?_
    simp only [mendL, List.mem_cons, List.not_mem_nil, or_false] at hx
    rcases hx with rfl | rfl | rfl | rfl | rfl | rfl | rfl <;> first | rfl | assumption
  obtain ⟨g9, t9, T9, y10, n9, o9⟩ := Aw y9 Z8 (by omega) (by omega) (mendV m (.slice (some ⟨h3.next - 1, 0, none⟩) m.marks.length m.marks.length) v10 v13) (n := 7) (off := 0) rfl (Nat.le_refl _) ha
  rw [A5 (by rfl)] at T9
  have T9 : g9.Row h1.next 0 (mendL m (.slice (some ⟨h3.next - 1, 0, none⟩) m.marks.length m.marks.length) v10 v13) := T9
  have fin : ∃ e4, owE (call AK (n + 1)) e3 g8 = .ret e4 g9 ∧ AB 2 e4 = pt h1.next := by
    unfold owE
    simp only [sT, Nat.reduceLT, Nat.reduceEqDiff, if_true, if_false, reduceIte, s1', s2', Aa, AU, t7', Ad, t9]
    exact ⟨_, rfl, by simp only [AG, Nat.reduceLT, Nat.reduceEqDiff, if_true, if_false, reduceIte]; exact s2'⟩
  obtain ⟨e4, f4, s4⟩ := fin
  have lnS : lenSR v13 g7 = .ok (.int .i64 (m.shards.length : Int)) g7 := by
    rw [← w2]
    obtain ⟨a, c, hv, _⟩ := S7.vs.cap
    rw [hv]; exact B1
  refine ⟨g9, .slice (some ⟨h3.next - 1, 0, none⟩) m.marks.length m.marks.length, v10, v13, g6.next, ?_, y10, ⟨⟨h3.next - 1, xs, rfl, o9 _ _ _ (by omega) (k8 _ _ _ (by omega) I.row), I.len, by omega, by omega, fun i hi => ((I.done i hi).keep fun b el L hb r => o9 _ _ _ (by omega) (k8 _ _ _ (by omega) r)).lt y10.wf⟩, ?_, ⟨ws', ?_, l8, fun i hi => ((V8 i hi).keep fun b el L hb r => o9 _ _ _ (by omega) r).lt y10.wf⟩⟩, by omega, by omega⟩
  · rw [Wu rfl, XQ, p1, q7]
    simp only [BJ, BB]
    rw [YT]
    unfold dG
    simp only [Br, Bs, AG, Nat.reduceLT, Nat.reduceEqDiff, if_true, if_false, reduceIte, AJ, r1, AN, Nat.zero_add, AP, AX, t6', Ai, lnS, BM, Bz, Be, BQ, q8, BB, f4]
    rw [Ao, Da (v := mendV m (.slice (some ⟨h3.next - 1, 0, none⟩) m.marks.length m.marks.length) v10 v13) (h' := g9) (by rw [s4, AU]; exact (An T9).2.2.2.2.2.2.2)]
  · exact (W7.keep fun b el L hb r => o9 _ _ _ (by omega) (k8 _ _ _ (by omega) r)).mono fun b hb => by omega
  · exact (C8.keep fun b el L hb r => o9 _ _ _ (by omega) r).mono fun b hb => by omega
end
end Go.Proofs.Ythcfmklkbakkpaa
set_option linter.unusedVariables false
set_option linter.unusedSimpArgs false
namespace Go.Proofs.Ythcfmklkbakkpaa
noncomputable section
open Go Go.RowKit Go.ChangeShapes
set_option maxRecDepth 100000
theorem MV (zs : List Int) : (zs.mergeSort leZ).Pairwise (fun a b => a ≤ b) := by
  have := List.pairwise_mergeSort (le := leZ) (fun a b c h1 h2 => by unfold leZ at *; simp only [decide_eq_true_eq] at *; omega) (fun a b => by unfold leZ; simp only [Bool.or_eq_true, decide_eq_true_eq]; omega) zs
  exact this.imp fun h => by unfold leZ at h; simpa using h
theorem UL {n : Nat} {h0 h : Hp} (x0 : h0.Ext h) {b : Nat} {zs : List Int} (r : h.Row b 4 (ints .i64 zs)) (hb : h0.next ≤ b) (h256 : 256 ≤ b) (hz : 0 < zs.length) (hl : zs.length ≤ 5500000000000) :
    ∃ h' ys, call AK (n + 1) 50 [.slice (some ⟨b, 0, none⟩) zs.length zs.length] h = .ok noRes h' ∧ h0.Ext h' ∧ h'.Row b 4 (ints .i64 ys) ∧ ys.length = zs.length ∧ ys.Pairwise (fun a b => a ≤ b) ∧ (∀ y ∈ ys, y ∈ zs) ∧ h'.next = h.next ∧ ∀ b' el L, b' ≠ b → h.Row b' el L → h'.Row b' el L := by
  have W := x0.wf
  obtain ⟨cc, hcc, hl'⟩ := r.rowOf
  have hil : (ints .i64 zs).length = zs.length := BW
  have hml : (zs.mergeSort leZ).length = zs.length := List.length_mergeSort ..
  have hml2 : ((zs.mergeSort leZ).map (Value.int .i64)).length = zs.length := by rw [List.length_map, hml]
  have st := r.store W h256 (off := 0) (vs := (zs.mergeSort leZ).map (.int .i64)) (by omega) (Di .i64 _)
  have R2 := r.wr_self W (off := 0) (vs := (zs.mergeSort leZ).map (.int .i64)) (by omega)
  rw [Qs (by omega)] at R2
  refine ⟨h.wr b 0 ((zs.mergeSort leZ).map (.int .i64)), zs.mergeSort leZ, ?_, r.wr_ext x0 hb (off := 0) (vs := (zs.mergeSort leZ).map (.int .i64)) (by omega), R2, hml, MV zs, fun y hy => (List.mem_mergeSort).1 hy, r.wr_next (off := 0) (vs := (zs.mergeSort leZ).map (.int .i64)) (by omega), fun b' el' L hne r' => r.wr_other W (off := 0) (vs := (zs.mergeSort leZ).map (.int .i64)) (by omega) r' hne⟩
  rw [BN Jd]
  show RH (some ⟨b, 0, none⟩) zs.length h = _
  obtain ⟨k, hk⟩ : ∃ k, zs.length = k + 1 := ⟨zs.length - 1, by omega⟩
  rw [hk]
  show Lk ⟨b, 0, none⟩ (k + 1) h = _
  rw [← hk]
  unfold Lk
  rw [hcc]
  simp only
  have e1 : Nat.ble (0 + zs.length) (ints .i64 zs).length = true := Az.2 (by omega)
  have e2 : Nat.ble zs.length 8796093022208 = true := Az.2 (by omega)
  have e3 : rowL cc 0 zs.length = zs.map (.int .i64) := by
    rw [Is.rowL hl' 0 zs.length (by omega), List.drop_zero, List.take_of_length_le (by omega)]; rfl
  rw [e1, e2, e3, Kx]
  show CM ⟨b, 0, none⟩ ((zs.mergeSort leZ).map (.int .i64)) h Co = _
  rw [st]; rfl
theorem RJ {n : Nat} {h : Hp} : call AK (n + 1) 50 [A6] h = .ok noRes h := by
  rw [BN Jd]; rfl
theorem Il {h : Hp} {b l hh m : Nat} (hl : l < m) : CW (some ⟨b, 0, none⟩) 1 l hh m h = .ok (.slice (some ⟨b, l, none⟩) (hh - l) (m - l)) h := by
  unfold CW
  simp only [A0]
  have e1 : Nat.beq m l = false := by
    cases e : Nat.beq m l
    · rfl
    · have := A1.1 e; omega
  simp only [e1]
  have e2 : Nat.mul l 1 = l := Nat.mul_one l
  cases l with
  | zero => rfl
  | succ l =>
    simp only [e2]
    show R.ok (.slice (some ⟨b, Nat.add 0 (Nat.succ l), none⟩) _ _) h = _
    rw [Nat.add_eq, Nat.zero_add]; rfl
theorem KX {F : CallF} {e : Env} {h : Hp} {x y : O} {b N C l : Nat} {L : List Value} (r : h.Row b 4 L) (hx : x e = .slice (some ⟨b, 0, none⟩) N C) (hy : y e = .int .i64 (l : Int)) (hl : l ≤ N) : Ct 3 1 x (some y) none none F e h = CW (some ⟨b, 0, none⟩) 1 l N C h := by
  show (match x e with | .slice a n c => EW e n c (some y) none none (fun l hh m => F8 3 1 a false l hh m h) | _ => .no) = _
  rw [hx]
  show (match C9 (y e) with | .ok L => (bif Nat.ble L N then F8 3 1 (some ⟨b, 0, none⟩) false L N C h else .no) | .no => .no) = _
  rw [hy, Fo]
  simp only
  rw [Az.2 hl]
  show F8 3 1 (some ⟨b, 0, none⟩) false l N C h = _
  unfold F8
  cases l with
  | zero => rfl
  | succ l =>
    obtain ⟨cc, hc, _⟩ := r.rowOf
    have : F3 3 (some ⟨b, 0, none⟩) h = true := by
      unfold F3
      simp only [hc]
      rfl
    show (bif F3 3 (some ⟨b, 0, none⟩) h then _ else _) = _
    rw [this]; rfl
theorem P3 {zs : List Int} {i : Nat} {z : Int} : (ints .i64 zs).set i (.int .i64 z) = ints .i64 (zs.set i z) := by
  unfold ints
  rw [List.map_set]
theorem Pr {l : List Int} {i j : Nat} {w : Int} (hi : i < l.length) : (l.set i w).getD j 0 = if i = j then w else l.getD j 0 := by
  rw [List.getD_eq_getElem?_getD, List.getElem?_set]
  by_cases h : i = j
  · subst h
    rw [if_pos rfl, if_pos hi, if_pos rfl]; rfl
  · rw [if_neg h, if_neg h, List.getD_eq_getElem?_getD]
def KK (zs ys : List Int) (k : Nat) : Prop := (∀ i j, i < j → j < k → ys.getD i 0 < ys.getD j 0) ∧ ∀ i, i < k → ys.getD i 0 ∈ zs
def cpI : C := (AE (AC 31) (Am (AB 4))
(AE (AC 32) (AS iLt .i64 (AB 5) (AB 31))
(AO (AB 32)
(As (Ab 3 (BH (AE (AC 37) (A2 1 (AB 4) (AB 5))
(AE (AC 38) (AH (AB 37))
(AE (AC 41) (DF Int.sub .i64 (AB 5) (kV (.int .i64 1)))
(AE (AC 42) (A2 1 (AB 4) (AB 41))
(AE (AC 43) (AH (AB 42))
(AE (AC 44) (AS iNe .i64 (AB 38) (AB 43))
(AO (AB 44)
(AE (AC 49) (A2 1 (AB 4) (AB 5))
(AE (AC 50) (AH (AB 49))
(AE (AC 51) (A2 1 (AB 0) (AB 3))
(cDo (AM 1 (AB 51) (AB 50))
(AE (AC 53) (A9 .i64 (At .i64) (AB 3) (kV (.int .i64 1)))
(AE (AC 3) (AF (AB 53))
AQ))))))
AQ)))))))))
(AE (AC 34) (A9 .i64 (At .i64) (AB 5) (kV (.int .i64 1)))
(AE (AC 5) (AF (AB 34))
AQ)))
(A3 2))))
def cpF : C := (AE (AC 56) (Ct 3 1 (AB 0) (some (AB 3)) none none)
(cDo (GE ty3.zero (AB 56))
(AE (AC 59) (Ct 3 1 (AB 0) none (some (AB 3)) none)
(AE (AC 2) (AF (AB 59))
Ak))))
def cpO : C := (AE (AC 12) (Am (AB 0))
(AE (AC 13) (AS iLt .i64 (AB 3) (AB 12))
(AO (AB 13)
(As (Ab 1 (BH (AE (AC 18) (A2 1 (AB 0) (AB 3))
(AE (AC 19) (AH (AB 18))
(AE (AC 22) (DF Int.sub .i64 (AB 3) (kV (.int .i64 1)))
(AE (AC 23) (A2 1 (AB 0) (AB 22))
(AE (AC 24) (AH (AB 23))
(AE (AC 25) (AS iEq .i64 (AB 19) (AB 24))
(AO (AB 25)
(AE (AC 28) (Ct 3 1 (AB 0) (some (AB 3)) none none)
(AE (AC 4) (AF (AB 28))
(AE (AC 5) (AF (kV (.int .i64 1)))
(As (Ab 2 (Ay (AE (AC 31) (Am (AB 4))
(AE (AC 32) (AS iLt .i64 (AB 5) (AB 31))
(AO (AB 32)
(As (Ab 3 (BH (AE (AC 37) (A2 1 (AB 4) (AB 5))
(AE (AC 38) (AH (AB 37))
(AE (AC 41) (DF Int.sub .i64 (AB 5) (kV (.int .i64 1)))
(AE (AC 42) (A2 1 (AB 4) (AB 41))
(AE (AC 43) (AH (AB 42))
(AE (AC 44) (AS iNe .i64 (AB 38) (AB 43))
(AO (AB 44)
(AE (AC 49) (A2 1 (AB 4) (AB 5))
(AE (AC 50) (AH (AB 49))
(AE (AC 51) (A2 1 (AB 0) (AB 3))
(cDo (AM 1 (AB 51) (AB 50))
(AE (AC 53) (A9 .i64 (At .i64) (AB 3) (kV (.int .i64 1)))
(AE (AC 3) (AF (AB 53))
AQ))))))
AQ)))))))))
(AE (AC 34) (A9 .i64 (At .i64) (AB 5) (kV (.int .i64 1)))
(AE (AC 5) (AF (AB 34))
AQ)))
(A3 2))))))
(AE (AC 56) (Ct 3 1 (AB 0) (some (AB 3)) none none)
(cDo (GE ty3.zero (AB 56))
(AE (AC 59) (Ct 3 1 (AB 0) none (some (AB 3)) none)
(AE (AC 2) (AF (AB 59))
Ak))))))))
AQ)))))))))
(AE (AC 15) (A9 .i64 (At .i64) (AB 3) (kV (.int .i64 1)))
(AE (AC 3) (AF (AB 15))
AQ)))
(A3 0))))
def SJ : C := (AE (AC 12) (Am (AB 0))
(AE (AC 13) (AS iLt .i64 (AB 3) (AB 12))
(AO (AB 13)
(As (Ab 1 (BH (AE (AC 18) (A2 1 (AB 0) (AB 3))
(AE (AC 19) (AH (AB 18))
(AE (AC 22) (DF Int.sub .i64 (AB 3) (kV (.int .i64 1)))
(AE (AC 23) (A2 1 (AB 0) (AB 22))
(AE (AC 24) (AH (AB 23))
(AE (AC 25) (AS iEq .i64 (AB 19) (AB 24))
(AO (AB 25)
(AE (AC 28) (Ct 3 1 (AB 0) (some (AB 3)) none none)
(AE (AC 4) (AF (AB 28))
(AE (AC 5) (AF (kV (.int .i64 1)))
(As (Ab 2 (Ay cpI))
cpF))))
AQ)))))))))
(AE (AC 15) (A9 .i64 (At .i64) (AB 3) (kV (.int .i64 1)))
(AE (AC 3) (AF (AB 15))
AQ)))
(A3 0))))
theorem MA : cpO = SJ := rfl
def OH : C := (AE (AC 2) (AF (kV (.slice none 0 0)))
(AE (AC 7) (Am (AB 0))
(AE (AC 8) (AS iLt .i64 (AB 7) (kV (.int .i64 2)))
(AO (AB 8)
(AE (AC 2) (AF (AB 0))
Ak)
(AE (AC 3) (AF (kV (.int .i64 1)))
(As (Ab 0 (Ay cpO))
(AE (AC 2) (AF (AB 0))
Ak)))))))
def d51 : C := OH
theorem L7 {n : Nat} {args : List Value} {h : Hp} (hl : Nat.ble (Bk args) 320 = true) : call AK (Nat.succ n) 51 args h = Bt [.t (AB 2)] (d51 (call AK n) (Av e0 0 args) h) := by
  have hb : AK.get 51 = some b51 := by kernel_rfl
  rw [BN hb]
  have hd : b51 = ⟨[.t (AB 2)], d51⟩ := by kernel_rfl
  rw [hd, BE hl]
theorem MH : d51 = OH := rfl
theorem Ns {zs : List Int} (hs : zs.Pairwise (fun a b => a ≤ b)) {i j : Nat} (hij : i < j) (hj : j < zs.length) : zs.getD i 0 ≤ zs.getD j 0 := by
  rw [List.getD_eq_getElem?_getD, List.getD_eq_getElem?_getD, List.getElem?_eq_getElem hj, List.getElem?_eq_getElem (by omega)]
  exact List.pairwise_iff_getElem.1 hs i j (by omega) hj hij
theorem FU {zs : List Int} {i : Nat} (hi : i < zs.length) : zs.getD i 0 ∈ zs := by
  rw [List.getD_eq_getElem?_getD, List.getElem?_eq_getElem hi]
  exact List.getElem_mem hi
theorem Pg {F : CallF} {h0 h : Hp} (x0 : h0.Ext h) {b k0 : Nat} {zs : List Int} (hs : zs.Pairwise (fun a b => a ≤ b)) (r : h.Row b 4 (ints .i64 zs)) (hb : h0.next ≤ b) (h256 : 256 ≤ b) (hk0 : 0 < k0) (hk1 : k0 < zs.length) (hl : zs.length < 5500000000000) (hup : KK zs zs k0) (hdup : zs.getD (k0 - 1) 0 = zs.getD k0 0)
    {e : Env} (s0 : AB 0 e = .slice (some ⟨b, 0, none⟩) zs.length zs.length) (s3 : AB 3 e = .int .i64 (k0 : Int)) (s4 : AB 4 e = .slice (some ⟨b, k0, none⟩) (zs.length - k0) (zs.length - k0)) (s5 : AB 5 e = .int .i64 ((1 : Nat) : Int)) :
    ∃ e' h' ys k, Ay cpI F e h = .exit 2 e' h' ∧ h0.Ext h' ∧ h'.Row b 4 (ints .i64 ys) ∧ ys.length = zs.length ∧ KK zs ys k ∧ 0 < k ∧ k < zs.length ∧ AB 0 e' = .slice (some ⟨b, 0, none⟩) zs.length zs.length ∧ AB 3 e' = .int .i64 (k : Int) ∧ (∀ b' el L, b' ≠ b → h.Row b' el L → h'.Row b' el L) ∧ h'.next = h.next := by
  refine B8 (I := fun i e' h' => ∃ ys k, h0.Ext h' ∧ h'.Row b 4 (ints .i64 ys) ∧ ys.length = zs.length ∧ KK zs ys k ∧ 0 < k ∧ k ≤ k0 + i ∧ i + 1 ≤ zs.length - k0 ∧ ys.getD (k - 1) 0 = zs.getD (k0 + i) 0 ∧ (∀ j, k0 + i ≤ j → ys.getD j 0 = zs.getD j 0) ∧ AB 0 e' = .slice (some ⟨b, 0, none⟩) zs.length zs.length ∧ AB 3 e' = .int .i64 (k : Int) ∧ AB 4 e' = .slice (some ⟨b, k0, none⟩) (zs.length - k0) (zs.length - k0) ∧ AB 5 e' = .int .i64 ((i + 1 : Nat) : Int) ∧ (∀ b' el L, b' ≠ b → h.Row b' el L → h'.Row b' el L) ∧ h'.next = h.next)
    (Q := fun x => ∃ e' h' ys k, x = .exit 2 e' h' ∧ h0.Ext h' ∧ h'.Row b 4 (ints .i64 ys) ∧ ys.length = zs.length ∧ KK zs ys k ∧ 0 < k ∧ k < zs.length ∧ AB 0 e' = .slice (some ⟨b, 0, none⟩) zs.length zs.length ∧ AB 3 e' = .int .i64 (k : Int) ∧ (∀ b' el L, b' ≠ b → h.Row b' el L → h'.Row b' el L) ∧ h'.next = h.next) (zs.length - k0) (by omega) (fun i e' h' ⟨ys, k, x, r', hy, up, p0, pk, hi, hlast, hrest, t0, t3, t4, t5, fr, nx⟩ => ?_)
    ⟨zs, k0, x0, r, rfl, hup, hk0, by omega, by omega, hdup, fun j _ => rfl, s0, s3, s4, s5, fun _ _ _ _ r => r, rfl⟩
  have ln : ∀ g : Hp, lenSR (.slice (some ⟨b, k0, none⟩) (zs.length - k0) (zs.length - k0)) g = .ok (.int .i64 ((zs.length - k0 : Nat) : Int)) g := fun g => B1
  by_cases hlt : i + 1 < zs.length - k0
  · left
    have c1 := GC hlt
    have W := x.wf
    have xm := x.marked
    have rm : h'.marked.Row b 4 (ints .i64 ys) := r'.same rfl
    have hyl : (ints .i64 ys).length = zs.length := BW.trans hy
    have i1 : Cv 1 (.slice (some ⟨b, k0, none⟩) (zs.length - k0) (zs.length - k0)) (.int .i64 ((i + 1 : Nat) : Int)) h'.marked = .ok (.pointer (some ⟨b, k0 + (i + 1) * 1, none⟩)) h'.marked := B6 hlt
    have i2 : Cv 1 (.slice (some ⟨b, k0, none⟩) (zs.length - k0) (zs.length - k0)) (.int .i64 ((i : Nat) : Int)) h'.marked = .ok (.pointer (some ⟨b, k0 + i * 1, none⟩)) h'.marked := B6 (by omega)
    have l1 : load1 ⟨b, k0 + (i + 1) * 1, none⟩ h'.marked = .ok (.int .i64 (zs.getD (k0 + (i + 1)) 0)) h'.marked := by
      rw [rm.load1 (by omega), Nat.mul_one, Fl (by omega), hrest _ (by omega)]
    have l2 : load1 ⟨b, k0 + i * 1, none⟩ h'.marked = .ok (.int .i64 (zs.getD (k0 + i) 0)) h'.marked := by
      rw [rm.load1 (by omega), Nat.mul_one, Fl (by omega), hrest _ (by omega)]
    have ar : Lu Int.sub .i64 (.int .i64 ((i + 1 : Nat) : Int)) (.int .i64 1) h'.marked = .ok (.int .i64 ((i : Nat) : Int)) h'.marked := by
      have : Int.sub ((i + 1 : Nat) : Int) 1 = ((i : Nat) : Int) := by show ((i + 1 : Nat) : Int) - 1 = _; omega
      rw [He, this, Cg (by omega)]
    have hmono := Ns hs (i := k0 + i) (j := k0 + (i + 1)) (by omega) (by omega)
    by_cases hc : zs.getD (k0 + (i + 1)) 0 = zs.getD (k0 + i) 0
    · have f1 : iNe (zs.getD (k0 + (i + 1)) 0) (zs.getD (k0 + i) 0) = false := Dv hc
      have ad := CY (h := h'.marked) (i := i + 1) (by omega)
      have hrun : ∃ e2, cpI F e' h' = .norm e2 h'.marked ∧ AB 0 e2 = .slice (some ⟨b, 0, none⟩) zs.length zs.length ∧ AB 3 e2 = .int .i64 (k : Int) ∧ AB 4 e2 = .slice (some ⟨b, k0, none⟩) (zs.length - k0) (zs.length - k0) ∧ AB 5 e2 = .int .i64 ((i + 1 + 1 : Nat) : Int) := by
        unfold cpI
        simp only [sT, Nat.reduceLT, Nat.reduceEqDiff, if_true, if_false, reduceIte, Ai, t4, ln, AZ, AY, t5, c1, Bc, BG, i1, AP, AX, l1, E3, ar, i2, l2, f1, Bl, ad]
        exact ⟨_, rfl, by simp only [AG, Nat.reduceLT, Nat.reduceEqDiff, if_true, if_false, reduceIte]; exact t0, by simp only [AG, Nat.reduceLT, Nat.reduceEqDiff, if_true, if_false, reduceIte]; exact t3, by simp only [AG, Nat.reduceLT, Nat.reduceEqDiff, if_true, if_false, reduceIte]; exact t4, by simp [AG]⟩
      obtain ⟨e2, q1, q2, q3, q4, q5⟩ := hrun
      exact ⟨by omega, e2, _, q1, ys, k, xm, rm, hy, up, p0, by omega, by omega, by rw [hlast]; exact hc.symm, fun j hj => hrest j (by omega), q2, q3, q4, q5, fun b' el L hne r => (fr b' el L hne r).same rfl, nx⟩
    · have f1 : iNe (zs.getD (k0 + (i + 1)) 0) (zs.getD (k0 + i) 0) = true := F4 hc
      have hkl : k < zs.length := by omega
      have i3 : Cv 1 (.slice (some ⟨b, 0, none⟩) zs.length zs.length) (.int .i64 (k : Int)) h'.marked = .ok (.pointer (some ⟨b, 0 + k * 1, none⟩)) h'.marked := B6 hkl
      rw [Nat.zero_add, Nat.mul_one] at i3
      obtain ⟨g2, st, R2, y2, n2, o2⟩ := Aw xm rm hb h256 (.int .i64 (zs.getD (k0 + (i + 1)) 0)) (n := 1) (off := k) rfl (by omega) rfl
      rw [Bv, DO (by omega), P3] at R2
      have ad := CY (h := g2) (i := k) (by omega)
      have ad2 := CY (h := g2) (i := i + 1) (by omega)
      have hrun : ∃ e2, cpI F e' h' = .norm e2 g2 ∧ AB 0 e2 = .slice (some ⟨b, 0, none⟩) zs.length zs.length ∧ AB 3 e2 = .int .i64 ((k + 1 : Nat) : Int) ∧ AB 4 e2 = .slice (some ⟨b, k0, none⟩) (zs.length - k0) (zs.length - k0) ∧ AB 5 e2 = .int .i64 ((i + 1 + 1 : Nat) : Int) := by
        unfold cpI
        simp only [sT, Nat.reduceLT, Nat.reduceEqDiff, if_true, if_false, reduceIte, Ai, t0, t3, t4, ln, AZ, AY, t5, c1, Bc, BG, i1, AP, AX, l1, E3, ar, i2, l2, f1, i3, Ad, st, Bl, ad, ad2]
        exact ⟨_, rfl, by simp only [AG, Nat.reduceLT, Nat.reduceEqDiff, if_true, if_false, reduceIte]; exact t0, by simp [AG], by simp only [AG, Nat.reduceLT, Nat.reduceEqDiff, if_true, if_false, reduceIte]; exact t4, by simp [AG]⟩
      obtain ⟨e2, q1, q2, q3, q4, q5⟩ := hrun
      have hset : ∀ j, (ys.set k (zs.getD (k0 + (i + 1)) 0)).getD j 0 = if k = j then zs.getD (k0 + (i + 1)) 0 else ys.getD j 0 := fun j => Pr (by omega)
      refine ⟨by omega, e2, _, q1, ys.set k (zs.getD (k0 + (i + 1)) 0), k + 1, y2, R2, by rw [List.length_set]; exact hy, ⟨fun a c hac hck => ?_, fun a ha => ?_⟩, by omega, by omega, by omega, ?_, fun j hj => ?_, q2, q3, q4, q5, fun b' el L hne r => o2 _ _ _ hne ((fr b' el L hne r).same rfl), n2.trans nx⟩
      · rw [hset, hset, if_neg (show ¬ k = a by omega)]
        by_cases hkc : k = c
        · rw [if_pos hkc]
          have h1 : ys.getD a 0 ≤ ys.getD (k - 1) 0 := by
            by_cases hak : a = k - 1
            · rw [hak]; exact Int.le_refl _
            · exact Int.le_of_lt (up.1 a (k - 1) (by omega) (by omega))
          rw [hlast] at h1
          omega
        · rw [if_neg hkc]
          exact up.1 a c hac (by omega)
      · rw [hset]
        by_cases hka : k = a
        · rw [if_pos hka]; exact FU (by omega)
        · rw [if_neg hka]; exact up.2 a (by omega)
      · rw [hset, if_pos (by omega)]
      · rw [hset, if_neg (by omega)]
        exact hrest j (by omega)
  · right
    have c1 := EP (a := i + 1) (b := zs.length - k0) (by omega)
    have hrun : ∃ e2, cpI F e' h' = .exit 2 e2 h' ∧ AB 0 e2 = .slice (some ⟨b, 0, none⟩) zs.length zs.length ∧ AB 3 e2 = .int .i64 (k : Int) := by
      unfold cpI
      simp only [sT, Nat.reduceLT, Nat.reduceEqDiff, if_true, if_false, reduceIte, Ai, t4, ln, AZ, AY, t5, c1]
      exact ⟨_, rfl, by simp only [AG, Nat.reduceLT, Nat.reduceEqDiff, if_true, if_false, reduceIte]; exact t0, by simp only [AG, Nat.reduceLT, Nat.reduceEqDiff, if_true, if_false, reduceIte]; exact t3⟩
    obtain ⟨e2, q1, q2, q3⟩ := hrun
    rw [q1]
    exact ⟨rfl, e2, h', ys, k, rfl, x, r', hy, up, p0, by omega, q2, q3, fr, nx⟩
end
end Go.Proofs.Ythcfmklkbakkpaa
set_option linter.unusedVariables false
set_option linter.unusedSimpArgs false
namespace Go.Proofs.Ythcfmklkbakkpaa
noncomputable section
open Go Go.RowKit Go.ChangeShapes
set_option maxRecDepth 100000
def Pf (zero : List Value) (v : Value) (h : Hp) : R := match v with
  | .slice none _ _ => Co h
  | .slice (some a) n _ => match n with
    | 0 => Co h
    | Nat.succ k => CM a (BI zero (Nat.succ k)) h Co
  | _ => .no
theorem OZ {F : CallF} {e : Env} {h : Hp} {z : List Value} {x : O} : GE z x F e h = Pf z (x e) h := rfl
theorem gi : ty3.zero = [.int .i64 0] := by kernel_rfl
theorem Q3 : ∀ n : Nat, BI ty3.zero n = ints .i64 (List.replicate n 0)
  | 0 => rfl
  | n + 1 => by
    show ty3.zero ++ BI ty3.zero n = _
    rw [Q3 n, gi, List.replicate_succ]; rfl
theorem XM {F : CallF} {h0 h : Hp} (x0 : h0.Ext h) {b k N : Nat} {ys : List Int} (r : h.Row b 4 (ints .i64 ys)) (hN : ys.length = N) (hb : h0.next ≤ b) (h256 : 256 ≤ b) (hk : 0 < k) (hkl : k < N) {e : Env} (s0 : AB 0 e = .slice (some ⟨b, 0, none⟩) N N) (s3 : AB 3 e = .int .i64 (k : Int)) :
    ∃ e' h' ys', cpF F e h = .ret e' h' ∧ h0.Ext h' ∧ h'.Row b 4 (ints .i64 ys') ∧ ys'.length = N ∧ (∀ i, i < k → ys'.getD i 0 = ys.getD i 0) ∧ AB 2 e' = .slice (some ⟨b, 0, none⟩) k N ∧ (∀ b' el L, b' ≠ b → h.Row b' el L → h'.Row b' el L) ∧ h'.next = h.next := by
  have W := x0.wf
  have hil : (ints .i64 ys).length = N := BW.trans hN
  have hrl : (ints .i64 (List.replicate (N - k) (0 : Int))).length = N - k := by rw [BW, List.length_replicate]
  have k1 : ∀ (F : CallF) (e : Env), AB 0 e = .slice (some ⟨b, 0, none⟩) N N → AB 3 e = .int .i64 (k : Int) → Ct 3 1 (AB 0) (some (AB 3)) none none F e h = .ok (.slice (some ⟨b, k, none⟩) (N - k) (N - k)) h := fun F e e1 e2 => (KX r e1 e2 (by omega)).trans (Il hkl)
  have st := r.store W h256 (off := k) (vs := ints .i64 (List.replicate (N - k) 0)) (by omega) (Di .i64 _)
  have cl : Pf ty3.zero (.slice (some ⟨b, k, none⟩) (N - k) (N - k)) h = .ok noRes (h.wr b k (ints .i64 (List.replicate (N - k) 0))) := by
    obtain ⟨c, hc⟩ : ∃ c, N - k = c + 1 := ⟨N - k - 1, by omega⟩
    rw [hc] at st ⊢
    show CM ⟨b, k, none⟩ (BI ty3.zero (c + 1)) h Co = _
    rw [Q3, st]; rfl
  have R2 := r.wr_self W (off := k) (vs := ints .i64 (List.replicate (N - k) 0)) (by omega)
  have e1 : over (ints .i64 ys) k (ints .i64 (List.replicate (N - k) 0)) = ints .i64 (ys.take k ++ List.replicate (N - k) 0) := by
    unfold over
    rw [hrl, List.drop_of_length_le (by omega), List.append_nil]
    unfold ints
    rw [List.map_append, List.map_take]
  rw [e1] at R2
  have y2 := r.wr_ext x0 hb (off := k) (vs := ints .i64 (List.replicate (N - k) 0)) (by omega)
  have n2 := r.wr_next (off := k) (vs := ints .i64 (List.replicate (N - k) 0)) (by omega)
  have o2 := fun b' el L (hne : b' ≠ b) (r' : h.Row b' el L) => r.wr_other W (off := k) (vs := ints .i64 (List.replicate (N - k) 0)) (by omega) r' hne
  generalize h.wr b k (ints .i64 (List.replicate (N - k) 0)) = g at cl R2 y2 n2 o2
  have k2 : ∀ (F : CallF) (e : Env), AB 0 e = .slice (some ⟨b, 0, none⟩) N N → AB 3 e = .int .i64 (k : Int) → Ct 3 1 (AB 0) none (some (AB 3)) none F e g = .ok (.slice (some ⟨b, 0, none⟩) k N) g := fun F e e1 e2 => GQ e1 e2 (by omega)
  have hrun : ∃ e2, cpF F e h = .ret e2 g ∧ AB 2 e2 = .slice (some ⟨b, 0, none⟩) k N := by
    unfold cpF
    simp only [sT, Nat.reduceLT, Nat.reduceEqDiff, if_true, if_false, reduceIte, s0, s3, k1, OZ, cl, k2]
    exact ⟨_, rfl, by simp [AG]⟩
  obtain ⟨e2, q1, q2⟩ := hrun
  refine ⟨e2, g, _, q1, y2, R2, by rw [List.length_append, List.length_take, List.length_replicate]; omega, fun i hi => ?_, q2, o2, n2⟩
  rw [List.getD_eq_getElem?_getD, List.getElem?_append_left (by rw [List.length_take]; omega), List.getElem?_take, if_pos hi, List.getD_eq_getElem?_getD]
theorem Ph {F : CallF} {h0 h : Hp} (x0 : h0.Ext h) {b : Nat} {zs : List Int} (hs : zs.Pairwise (fun a b => a ≤ b)) (r : h.Row b 4 (ints .i64 zs)) (hb : h0.next ≤ b) (h256 : 256 ≤ b) (hl : zs.length < 5500000000000) (hl1 : 1 < zs.length) {e : Env} (s0 : AB 0 e = .slice (some ⟨b, 0, none⟩) zs.length zs.length) (s3 : AB 3 e = .int .i64 ((1 : Nat) : Int)) :
    ∃ e' h' ys k, h0.Ext h' ∧ h'.Row b 4 (ints .i64 ys) ∧ ys.length = zs.length ∧ KK zs ys k ∧ 0 < k ∧ k ≤ zs.length ∧ (∀ b' el L, b' ≠ b → h.Row b' el L → h'.Row b' el L) ∧ h'.next = h.next ∧ ((Ay cpO F e h = .ret e' h' ∧ AB 2 e' = .slice (some ⟨b, 0, none⟩) k zs.length) ∨ (Ay cpO F e h = .exit 0 e' h' ∧ k = zs.length ∧ AB 0 e' = .slice (some ⟨b, 0, none⟩) zs.length zs.length)) := by
  refine B8 (I := fun i e' h' => (h' = h ∨ h' = h.marked) ∧ KK zs zs (i + 1) ∧ i + 1 ≤ zs.length ∧ AB 0 e' = .slice (some ⟨b, 0, none⟩) zs.length zs.length ∧ AB 3 e' = .int .i64 ((i + 1 : Nat) : Int))
    (Q := fun x => ∃ e' h' ys k, h0.Ext h' ∧ h'.Row b 4 (ints .i64 ys) ∧ ys.length = zs.length ∧ KK zs ys k ∧ 0 < k ∧ k ≤ zs.length ∧ (∀ b' el L, b' ≠ b → h.Row b' el L → h'.Row b' el L) ∧ h'.next = h.next ∧ ((x = .ret e' h' ∧ AB 2 e' = .slice (some ⟨b, 0, none⟩) k zs.length) ∨ (x = .exit 0 e' h' ∧ k = zs.length ∧ AB 0 e' = .slice (some ⟨b, 0, none⟩) zs.length zs.length))) zs.length (by omega) (fun i e' h' ⟨hh, up, hi, t0, t3⟩ => ?_)
    ⟨.inl rfl, ⟨fun i j hij hj => by omega, fun i hi => FU (by omega)⟩, by omega, s0, s3⟩
  have hm : h'.marked = h.marked := by rcases hh with rfl | rfl <;> rfl
  have hbl : h'.bl = h.bl := by rcases hh with rfl | rfl <;> rfl
  have hx : h0.Ext h' := by rcases hh with rfl | rfl <;> first | exact x0 | exact x0.marked
  have hnx : h'.next = h.next := by rcases hh with rfl | rfl <;> rfl
  have ln : ∀ g : Hp, lenSR (.slice (some ⟨b, 0, none⟩) zs.length zs.length) g = .ok (.int .i64 (zs.length : Int)) g := fun g => B1
  have xm := x0.marked
  have rm : h.marked.Row b 4 (ints .i64 zs) := r.same rfl
  have hil : (ints .i64 zs).length = zs.length := BW
  by_cases hlt : i + 1 < zs.length
  · have c1 := GC hlt
    have i1 : Cv 1 (.slice (some ⟨b, 0, none⟩) zs.length zs.length) (.int .i64 ((i + 1 : Nat) : Int)) h.marked = .ok (.pointer (some ⟨b, 0 + (i + 1) * 1, none⟩)) h.marked := B6 hlt
    have i2 : Cv 1 (.slice (some ⟨b, 0, none⟩) zs.length zs.length) (.int .i64 ((i : Nat) : Int)) h.marked = .ok (.pointer (some ⟨b, 0 + i * 1, none⟩)) h.marked := B6 (by omega)
    have l1 : load1 ⟨b, 0 + (i + 1) * 1, none⟩ h.marked = .ok (.int .i64 (zs.getD (i + 1) 0)) h.marked := by
      rw [rm.load1 (by omega), Nat.mul_one, Nat.zero_add, Fl (by omega)]
    have l2 : load1 ⟨b, 0 + i * 1, none⟩ h.marked = .ok (.int .i64 (zs.getD i 0)) h.marked := by
      rw [rm.load1 (by omega), Nat.mul_one, Nat.zero_add, Fl (by omega)]
    have ar : Lu Int.sub .i64 (.int .i64 ((i + 1 : Nat) : Int)) (.int .i64 1) h.marked = .ok (.int .i64 ((i : Nat) : Int)) h.marked := by
      have : Int.sub ((i + 1 : Nat) : Int) 1 = ((i : Nat) : Int) := by show ((i + 1 : Nat) : Int) - 1 = _; omega
      rw [He, this, Cg (by omega)]
    have hmono := Ns hs (i := i) (j := i + 1) (by omega) hlt
    by_cases hc : zs.getD (i + 1) 0 = zs.getD i 0
    · right
      have f1 : iEq (zs.getD (i + 1) 0) (zs.getD i 0) = true := Cu hc
      have kc : ∀ (F : CallF) (e : Env), AB 0 e = .slice (some ⟨b, 0, none⟩) zs.length zs.length → AB 3 e = .int .i64 ((i + 1 : Nat) : Int) → Ct 3 1 (AB 0) (some (AB 3)) none none F e h.marked = .ok (.slice (some ⟨b, i + 1, none⟩) (zs.length - (i + 1)) (zs.length - (i + 1))) h.marked := fun F e e1 e2 => (KX rm e1 e2 (by omega)).trans (Il hlt)
      have pre : ∃ e1, cpO F e' h' = Fa (Cb 1 (Fa (Cb 2 (Ay cpI F e1 h.marked)) cpF F)) (AE (AC 15) (A9 .i64 (At .i64) (AB 3) (kV (.int .i64 1))) (AE (AC 3) (AF (AB 15)) AQ)) F ∧ AB 0 e1 = .slice (some ⟨b, 0, none⟩) zs.length zs.length ∧ AB 3 e1 = .int .i64 ((i + 1 : Nat) : Int) ∧ AB 4 e1 = .slice (some ⟨b, i + 1, none⟩) (zs.length - (i + 1)) (zs.length - (i + 1)) ∧ AB 5 e1 = .int .i64 ((1 : Nat) : Int) := by
        rw [MA]
        unfold SJ
        simp only [Br, Bh, Be, BQ, Bs, B3, BM, Bz, AG, Nat.reduceLT, Nat.reduceEqDiff, if_true, if_false, reduceIte, Ai, t0, ln, AZ, AY, t3, c1, Bc, hm, BG, i1, AP, AX, l1, E3, ar, i2, l2, f1, kc]
        exact ⟨_, rfl, by simp only [AG, Nat.reduceLT, Nat.reduceEqDiff, if_true, if_false, reduceIte]; exact t0, by simp only [AG, Nat.reduceLT, Nat.reduceEqDiff, if_true, if_false, reduceIte]; exact t3, by simp [AG], by simp only [AG, Nat.reduceLT, Nat.reduceEqDiff, if_true, if_false, reduceIte]; rfl⟩
      obtain ⟨e1, p, p0, p3, p4, p5⟩ := pre
      obtain ⟨e2, h2, ys, k, q1, x2, R2, hy, up2, k0, kl, q0, q3, fr, nx⟩ := Pg (F := F) (k0 := i + 1) xm hs rm hb h256 (by omega) hlt hl up (by show zs.getD (i + 1 - 1) 0 = _; rw [Nat.add_sub_cancel]; exact hc.symm) p0 p3 p4 p5
      obtain ⟨e3, h3, ys', w1, x3, R3, hy3, same, w2, fr3, nx3⟩ := XM (F := F) x2 R2 hy hb h256 k0 kl q0 q3
      rw [p, q1]
      simp only [BJ, BB, w1, C2, Ds]
      refine ⟨rfl, e3, h3, ys', k, x3, R3, hy3, ⟨fun a c hac hck => ?_, fun a ha => ?_⟩, k0, by omega, fun b' el L hne r' => fr3 _ _ _ hne (fr _ _ _ hne (r'.same rfl)), nx3.trans nx, .inl ⟨rfl, w2⟩⟩
      · rw [same a (by omega), same c hck]; exact up2.1 a c hac hck
      · rw [same a ha]; exact up2.2 a ha
    · left
      have f1 : iEq (zs.getD (i + 1) 0) (zs.getD i 0) = false := Cj hc
      have ad := CY (h := h.marked) (i := i + 1) (by omega)
      have hrun : ∃ e2, cpO F e' h' = .norm e2 h.marked ∧ AB 0 e2 = .slice (some ⟨b, 0, none⟩) zs.length zs.length ∧ AB 3 e2 = .int .i64 ((i + 1 + 1 : Nat) : Int) := by
        rw [MA]
        unfold SJ
        simp only [sT, Nat.reduceLT, Nat.reduceEqDiff, if_true, if_false, reduceIte, Ai, t0, ln, AZ, AY, t3, c1, Bc, hm, BG, i1, AP, AX, l1, E3, ar, i2, l2, f1, Bl, ad]
        exact ⟨_, rfl, by simp only [AG, Nat.reduceLT, Nat.reduceEqDiff, if_true, if_false, reduceIte]; exact t0, by simp [AG]⟩
      obtain ⟨e2, q1, q2, q3⟩ := hrun
      refine ⟨by omega, e2, h.marked, q1, .inr rfl, ⟨fun a c hac hck => ?_, fun a ha => FU (by omega)⟩, by omega, q2, q3⟩
      by_cases hc2 : c < i + 1
      · exact up.1 a c hac hc2
      · obtain rfl : c = i + 1 := by omega
        have h1 : zs.getD a 0 ≤ zs.getD i 0 := by
          by_cases hai : a = i
          · rw [hai]; exact Int.le_refl _
          · exact Int.le_of_lt (up.1 a i (by omega) (by omega))
        omega
  · right
    have c1 := EP (a := i + 1) (b := zs.length) (by omega)
    have hrun : ∃ e2, cpO F e' h' = .exit 0 e2 h' ∧ AB 0 e2 = .slice (some ⟨b, 0, none⟩) zs.length zs.length := by
      rw [MA]
      unfold SJ
      simp only [sT, Nat.reduceLT, Nat.reduceEqDiff, if_true, if_false, reduceIte, Ai, t0, ln, AZ, AY, t3, c1]
      exact ⟨_, rfl, by simp only [AG, Nat.reduceLT, Nat.reduceEqDiff, if_true, if_false, reduceIte]; exact t0⟩
    obtain ⟨e2, q1, q2⟩ := hrun
    rw [q1]
    have hiz : i + 1 = zs.length := by omega
    exact ⟨rfl, e2, h', zs, zs.length, hx, r.same hbl, rfl, hiz ▸ up, by omega, Nat.le_refl _, fun b' el L _ r' => r'.same hbl, hnx, .inr ⟨rfl, rfl, q2⟩⟩
theorem L9 {n : Nat} {h0 h : Hp} (x0 : h0.Ext h) {b : Nat} {zs : List Int} (hs : zs.Pairwise (fun a b => a ≤ b)) (r : h.Row b 4 (ints .i64 zs)) (hb : h0.next ≤ b) (h256 : 256 ≤ b) (hl : zs.length < 5500000000000) (hz : 0 < zs.length) :
    ∃ h' ys k, call AK (n + 1) 51 [.slice (some ⟨b, 0, none⟩) zs.length zs.length] h = .ok (.slice (some ⟨b, 0, none⟩) k zs.length) h' ∧ h0.Ext h' ∧ h'.Row b 4 (ints .i64 ys) ∧ ys.length = zs.length ∧ KK zs ys k ∧ 0 < k ∧ k ≤ zs.length ∧ (∀ b' el L, b' ≠ b → h.Row b' el L → h'.Row b' el L) ∧ h'.next = h.next := by
  have ln : ∀ g : Hp, lenSR (.slice (some ⟨b, 0, none⟩) zs.length zs.length) g = .ok (.int .i64 (zs.length : Int)) g := fun g => B1
  by_cases h1 : zs.length < 2
  · have c1 : iLt (zs.length : Int) 2 = true := Ku (by omega)
    refine ⟨h, zs, zs.length, ?_, x0, r, rfl, ⟨fun i j hij hj => by omega, fun i hi => FU hi⟩, hz, Nat.le_refl _, fun _ _ _ _ r => r, rfl⟩
    rw [L7 rfl, MH]
    unfold OH
    simp only [Ac, Af, Nat.succ_eq_add_one, Nat.zero_add, Nat.reduceAdd, sT, Nat.reduceLT, Nat.reduceEqDiff, if_true, if_false, reduceIte, Ai, ln, AZ, AY, c1, Ao, Ax]
  · have c1 : iLt (zs.length : Int) 2 = false := Ek (by omega)
    have pre : ∃ e1, OH (call AK n) (Av e0 0 [.slice (some ⟨b, 0, none⟩) zs.length zs.length]) h = Fa (Cb 0 (Ay cpO (call AK n) e1 h)) (AE (AC 2) (AF (AB 0)) Ak) (call AK n) ∧ AB 0 e1 = .slice (some ⟨b, 0, none⟩) zs.length zs.length ∧ AB 3 e1 = .int .i64 ((1 : Nat) : Int) := by
      unfold OH
      simp only [Ac, Af, Nat.succ_eq_add_one, Nat.zero_add, Nat.reduceAdd, Br, Bh, Be, BQ, Bs, Ba, BM, Bz, AG, Nat.reduceLT, Nat.reduceEqDiff, if_true, if_false, reduceIte, Ai, ln, AZ, AY, c1]
      exact ⟨_, rfl, by simp [AG], by simp only [AG, Nat.reduceLT, Nat.reduceEqDiff, if_true, if_false, reduceIte]; rfl⟩
    obtain ⟨e1, p, p0, p3⟩ := pre
    obtain ⟨e2, h', ys, k, x, R2, hy, up, k0, kl, fr, nx, q⟩ := Ph (F := call AK n) x0 hs r hb h256 hl (by omega) p0 p3
    refine ⟨h', ys, k, ?_, x, R2, hy, up, k0, kl, fr, nx⟩
    rw [L7 rfl, MH, p]
    rcases q with ⟨q1, q2⟩ | ⟨q1, q2, q3⟩
    · rw [q1]
      simp only [C2, Ds, Ao, Ax, q2]
    · rw [q1, q2]
      simp only [BJ, BB, sT, Nat.reduceLT, Nat.reduceEqDiff, if_true, if_false, reduceIte, q3, Ao, Ax]
end
end Go.Proofs.Ythcfmklkbakkpaa
