/-
  Searches through placements, are they right, what hinders: whatever they are handed.
  Placements of the document (cooperageref09): Index, Right, All: what these functions give, whatever they are handed.
  place.Move: what it gives, whatever it is handed.
  place.Move: the whole, whatever it is handed.
  Maps of numbers to 1: what is looked up in them, what is put into them.
  move.Begin: what it gives, where no placement hinders and the stripes rise.
  move.Begin: what it gives, whatever it is handed.
  Move of the document (cooperageref09): what it gives, whatever it is handed.
  Move of the document (cooperageref09), whole.
-/
import Derived.Test.YtkafejncffinmaaZF
set_option linter.unusedVariables false
set_option linter.unusedSimpArgs false
namespace Go.Proofs.Ytkafejncffinmaa
noncomputable section
open Go
set_option maxRecDepth 100000
def fnB : C := (cOp (AC 9) (AL iLt .i64 (AB 8) (AB 7))
(AP (AB 9)
(Ar (AX 1 (cOp (AC 5) (AD (AB 8))
(cOp (AC 14) (A9 2 (AB 0) (AB 5))
(cOp (AC 15) (Aa 2 (AB 14))
(cOp (AC 16) (CN (AB 1) [(AB 15)])
(AP (AB 16)
(cOp (AC 4) (AD (AB 5))
Ae)
Ac))))))
(cOp (AC 18) (A4 .i64 (Ai .i64) (AB 8) (kV (.int .i64 1)))
(cOp (AC 8) (AD (AB 18))
Ac)))
(A7 0)))
def fnE : C := (cOp (AC 4) (AD (kV (.int .i64 (-1))))
Ae)
def fnS : C := (Ar (AX 0 (Ao (cOp (AC 9) (AL iLt .i64 (AB 8) (AB 7))
(AP (AB 9)
(Ar (AX 1 (cOp (AC 5) (AD (AB 8))
(cOp (AC 14) (A9 2 (AB 0) (AB 5))
(cOp (AC 15) (Aa 2 (AB 14))
(cOp (AC 16) (CN (AB 1) [(AB 15)])
(AP (AB 16)
(cOp (AC 4) (AD (AB 5))
Ae)
Ac))))))
(cOp (AC 18) (A4 .i64 (Ai .i64) (AB 8) (kV (.int .i64 1)))
(cOp (AC 8) (AD (AB 18))
Ac)))
(A7 0)))))
(cOp (AC 4) (AD (kV (.int .i64 (-1))))
Ae))
theorem RL : fnS = Ar (AX 0 (Ao fnB)) fnE := rfl
def UH : C := (cOp (AC 4) (AD (kV (.int .i64 0)))
(cOp (AC 7) (Af (AB 0))
(cOp (AC 8) (AD (kV (.int .i64 0)))
fnS)))
def d53 : C := UH
theorem Qq {n : Nat} {args : List Value} {h : Hp} (hl : Nat.ble (Bk args) 320 = true) : call AG (Nat.succ n) 53 args h = Bs [.t (AB 4)] (d53 (call AG n) (Ak e0 0 args) h) := by
  have hb : AG.get 53 = some b53 := by kernel_rfl
  rw [BM hb]
  have hd : b53 = ⟨[.t (AB 4)], d53⟩ := by kernel_rfl
  rw [hd, BC hl]
theorem RE : d53 = UH := rfl
theorem RM {F : CallF} {h : Hp} (W : h.Wf) {v : Value} {ws : List Pw} (d : h.PlI v ws) (hl : ws.length ≤ 1000) {fv : Value} {P : Pw → Prop} (hcall : ∀ g, h.Ext g → ∀ x ∈ ws, ∃ r g', HL F fv [plV x.1 x.2.1] g = .ok (.bool r) g' ∧ g.Ext g' ∧ (r = true ↔ P x))
    {e : Env} (s0 : AB 0 e = v) (s1 : AB 1 e = fv) (s7 : AB 7 e = .int .i64 (ws.length : Int)) (s8 : AB 8 e = .int .i64 0) :
    (∃ e' h', Ao fnB F e h = .exit 0 e' h' ∧ h.Ext h' ∧ ∀ x ∈ ws, ¬ P x) ∨ (∃ e' h' i, Ao fnB F e h = .ret e' h' ∧ h.Ext h' ∧ AB 4 e' = .int .i64 ((i : Nat) : Int) ∧ ∃ x ∈ ws, P x) := by
  refine Bo (I := fun i e' h' => h.Ext h' ∧ AB 0 e' = v ∧ AB 1 e' = fv ∧ AB 7 e' = .int .i64 (ws.length : Int) ∧ AB 8 e' = .int .i64 (i : Int) ∧ i ≤ ws.length ∧ ∀ x ∈ ws.take i, ¬ P x)
    (Q := fun y => (∃ e' h', y = .exit 0 e' h' ∧ h.Ext h' ∧ ∀ x ∈ ws, ¬ P x) ∨ (∃ e' h' i, y = .ret e' h' ∧ h.Ext h' ∧ AB 4 e' = .int .i64 ((i : Nat) : Int) ∧ ∃ x ∈ ws, P x)) ws.length (by omega) (fun i e' h' ⟨x, t0, t1, t7, t8, hi, hno⟩ => ?_) ⟨.refl W, s0, s1, s7, s8, Nat.zero_le _, fun x hx => by cases hx⟩
  by_cases hlt : i < ws.length
  · have hx : ws[i]? = some ws[i] := List.getElem?_eq_getElem hlt
    obtain ⟨a, ci, ld⟩ := (d.ext W x).at hx
    obtain ⟨r, g', k1, k2, k3⟩ := hcall h' x ws[i] (List.getElem_mem hlt)
    have c1 : iLt (i : Int) (ws.length : Int) = true := by rw [As]; simp; omega
    have htk : ws.take (i + 1) = ws.take i ++ [ws[i]] := by rw [List.take_add_one, hx]; rfl
    have hmem : ws[i] ∈ ws := List.getElem_mem hlt
    generalize ws[i] = y at ld k1 k3 htk hmem
    cases r with
    | true =>
      right
      have hrun : ∃ e2, fnB F e' h' = .ret e2 g' ∧ AB 4 e2 = .int .i64 (i : Int) := by
        unfold fnB
        simp only [sT, Nat.reduceLT, Nat.reduceEqDiff, if_true, if_false, reduceIte, AO, AN, t8, t7, c1, BV, t0, ci, Ay, Aw, ld, Cc, t1, AV, Ad, k1]
        exact ⟨_, rfl, by simp [AE]⟩
      obtain ⟨e2, r1, r2⟩ := hrun
      rw [r1]
      exact ⟨rfl, .inr ⟨e2, g', i, rfl, x.trans k2, r2, y, hmem, k3.1 rfl⟩⟩
    | false =>
      left
      have a3 : Ci .i64 (.int .i64 (i : Int)) (.int .i64 1) g' = .ok (.int .i64 ((i + 1 : Nat) : Int)) g' := by
        have : (i : Int) + 1 = ((i + 1 : Nat) : Int) := by omega
        rw [Bc, this, BJ (by omega)]
      have hrun : ∃ e2, fnB F e' h' = .norm e2 g' ∧ AB 0 e2 = v ∧ AB 1 e2 = fv ∧ AB 7 e2 = .int .i64 (ws.length : Int) ∧ AB 8 e2 = .int .i64 ((i + 1 : Nat) : Int) := by
        unfold fnB
        simp only [sT, Nat.reduceLT, Nat.reduceEqDiff, if_true, if_false, reduceIte, AO, AN, t8, t7, c1, BV, t0, ci, Ay, Aw, ld, Cc, t1, AV, Ad, k1, Bb, a3]
        exact ⟨_, rfl, by simp only [AE, Nat.reduceLT, Nat.reduceEqDiff, if_true, if_false, reduceIte]; exact t0, by simp only [AE, Nat.reduceLT, Nat.reduceEqDiff, if_true, if_false, reduceIte]; exact t1, by simp only [AE, Nat.reduceLT, Nat.reduceEqDiff, if_true, if_false, reduceIte]; exact t7, by simp [AE]⟩
      obtain ⟨e2, r1, r2, r3, r4, r5⟩ := hrun
      refine ⟨hlt, e2, g', r1, x.trans k2, r2, r3, r4, r5, hlt, fun z hz => ?_⟩
      rw [htk] at hz
      rcases List.mem_append.1 hz with hz | hz
      · exact hno z hz
      · rw [List.mem_singleton.1 hz]
        exact fun hp => by have := k3.2 hp; cases this
  · right
    have c1 : iLt (i : Int) (ws.length : Int) = false := by rw [As]; simp; omega
    have hrun : ∃ e2, fnB F e' h' = .exit 0 e2 h' := by
      unfold fnB
      simp only [sT, Nat.reduceLT, Nat.reduceEqDiff, if_true, if_false, reduceIte, AO, AN, t8, t7, c1]
      exact ⟨_, rfl⟩
    obtain ⟨e2, r1⟩ := hrun
    rw [r1]
    rw [List.take_of_length_le (by omega)] at hno
    exact ⟨rfl, .inl ⟨e2, h', rfl, x, hno⟩⟩
theorem Qs {m : Nat} {h : Hp} (W : h.Wf) {v : Value} {ws : List Pw} (d : h.PlI v ws) (hl : ws.length ≤ 1000) {fv : Value} {P : Pw → Prop} (hcall : ∀ g, h.Ext g → ∀ x ∈ ws, ∃ r g', HL (call AG m) fv [plV x.1 x.2.1] g = .ok (.bool r) g' ∧ g.Ext g' ∧ (r = true ↔ P x)) :
    ∃ r h', call AG (m + 2) 48 [v, fv] h = .ok (.bool r) h' ∧ h.Ext h' ∧ (r = true ↔ ∃ x ∈ ws, P x) := by
  have ln : ∀ g : Hp, Ca v g = .ok (.int .i64 (ws.length : Int)) g := fun _ => d.len
  have pre : ∃ e1, UH (call AG m) (Ak e0 0 [v, fv]) h = fnS (call AG m) e1 h ∧ AB 0 e1 = v ∧ AB 1 e1 = fv ∧ AB 7 e1 = .int .i64 (ws.length : Int) ∧ AB 8 e1 = .int .i64 0 := by
    unfold UH
    simp only [AK, AM, Nat.succ_eq_add_one, Nat.zero_add, Nat.reduceAdd, BX, BZ, A5, Br, AE, Nat.reduceLT, Nat.reduceEqDiff, if_true, if_false, reduceIte, Al, ln]
    exact ⟨_, rfl, by simp [AE], by simp [AE], by simp [AE], by simp [AE]⟩
  obtain ⟨e1, p1, p0, pp1, p7, p8⟩ := pre
  rcases RM W d hl hcall p0 pp1 p7 p8 with ⟨e2, h', q1, q2, q3⟩ | ⟨e2, h', i, q1, q2, q3, q4⟩
  · have k1 : call AG (m + 1) 53 [v, fv] h = .ok (.int .i64 (-1)) h' := by
      rw [Qq rfl, RE, p1, RL]
      simp only [BI, Aq, q1, BA, BH]
      unfold fnE
      simp only [sT, Nat.reduceLT, Nat.reduceEqDiff, if_true, if_false, reduceIte, AZ, Ap]
    have c1 : iGe (-1) 0 = false := rfl
    refine ⟨false, h', ?_, q2, ⟨(fun h => by cases h), fun ⟨x, hx, hp⟩ => (q3 x hx hp).elim⟩⟩
    rw [Qo rfl]
    unfold d48
    simp only [AK, AM, Nat.succ_eq_add_one, Nat.zero_add, Nat.reduceAdd, sT, Nat.reduceLT, Nat.reduceEqDiff, if_true, if_false, reduceIte, Ah, AV, Ad, k1, AO, AN, c1, AZ, Ap]
  · have k1 : call AG (m + 1) 53 [v, fv] h = .ok (.int .i64 (i : Int)) h' := by
      rw [Qq rfl, RE, p1, RL]
      simp only [BI, Aq, q1, BL, Bw, AZ, Ap, q3]
    have c1 : iGe (i : Int) 0 = true := by rw [Cl]; simp
    refine ⟨true, h', ?_, q2, ⟨fun _ => q4, fun _ => rfl⟩⟩
    rw [Qo rfl]
    unfold d48
    simp only [AK, AM, Nat.succ_eq_add_one, Nat.zero_add, Nat.reduceAdd, sT, Nat.reduceLT, Nat.reduceEqDiff, if_true, if_false, reduceIte, Ah, AV, Ad, k1, AO, AN, c1, AZ, Ap]
def Eu (ws : List Pw) : Prop := 1 ≤ ws.length ∧ ws.length ≤ 1000 ∧ ∀ x ∈ ws, okP x.1 x.2.2
theorem dS {n : Nat} {h : Hp} (W : h.Wf) {v : Value} {ws : List Pw} (d : h.PlI v ws) (D : h.NdV ws) (hl : ws.length ≤ 1000) : ∃ r h', call AG (n + 7) 47 [v] h = .ok (.bool r) h' ∧ h.Ext h' ∧ (r = true ↔ Eu ws) := by
  obtain ⟨r, h', k1, k2, k3⟩ := Qs (m := n + 4) W d hl (fv := .func (.func 51) #[] #[]) (P := fun x => ¬ okP x.1 x.2.2) (fun g x y hy => XP (n := n) x.wf ((D y hy).ext W x))
  have c2 : iLe (ws.length : Int) 1000 = true := by rw [HZ]; simp; omega
  by_cases hp : 1 ≤ ws.length
  · have c1 : iGe (ws.length : Int) 1 = true := by rw [Cl]; simp; omega
    refine ⟨!r, h', ?_, k2, ?_⟩
    · rw [Qn rfl]
      unfold d47
      simp only [AK, AM, Nat.succ_eq_add_one, Nat.zero_add, Nat.reduceAdd, sT, Nat.reduceLT, Nat.reduceEqDiff, if_true, if_false, reduceIte, gD, Al, d.len, AO, AN, c1, c2, Ah, AV, Ad, k1, Bf, Be, AZ, Ap]
    · have : (!r) = true ↔ ¬ r = true := by cases r <;> simp
      rw [this, k3]
      refine ⟨fun h => ⟨hp, hl, fun x hx => Classical.byContradiction fun hn => h ⟨x, hx, hn⟩⟩, fun h ⟨x, hx, hn⟩ => hn (h.2.2 x hx)⟩
  · have c1 : iGe (ws.length : Int) 1 = false := by rw [Cl]; simp; omega
    refine ⟨false, h, ?_, .refl W, ⟨(fun h => by cases h), fun h => (hp h.1).elim⟩⟩
    rw [Qn rfl]
    unfold d47
    simp only [AK, AM, Nat.succ_eq_add_one, Nat.zero_add, Nat.reduceAdd, sT, Nat.reduceLT, Nat.reduceEqDiff, if_true, if_false, reduceIte, gD, Al, d.len, AO, AN, c1, AZ, Ap]
theorem Oj {n : Nat} {h : Hp} (f : Int) : call AG (n + 1) 45 [.int .i64 f] h = .ok (.bool (decide (0 ≤ f ∧ f < 256))) h := by
  rw [Ym rfl]
  unfold d45
  by_cases h1 : 0 ≤ f
  · have c1 : iGe f 0 = true := by rw [Cl]; simp; omega
    by_cases h2 : f < 256
    · have c2 : iLt f 256 = true := by rw [As]; simp; omega
      rw [decide_eq_true ⟨h1, h2⟩]
      simp only [AK, AM, Nat.succ_eq_add_one, Nat.zero_add, Nat.reduceAdd, sT, Nat.reduceLT, Nat.reduceEqDiff, if_true, if_false, reduceIte, gD, AO, AN, c1, c2, AZ, Ap]
    · have c2 : iLt f 256 = false := by rw [As]; simp; omega
      rw [decide_eq_false (fun x => h2 x.2)]
      simp only [AK, AM, Nat.succ_eq_add_one, Nat.zero_add, Nat.reduceAdd, sT, Nat.reduceLT, Nat.reduceEqDiff, if_true, if_false, reduceIte, gD, AO, AN, c1, c2, AZ, Ap]
  · have c1 : iGe f 0 = false := by rw [Cl]; simp; omega
    rw [decide_eq_false (fun x => h1 x.1)]
    simp only [AK, AM, Nat.succ_eq_add_one, Nat.zero_add, Nat.reduceAdd, sT, Nat.reduceLT, Nat.reduceEqDiff, if_true, if_false, reduceIte, gD, AO, AN, c1, AZ, Ap]
def hdT : C := (cOp (AC 8) (AL iGe .i64 (AB 7) (kV (.int .i64 0)))
(cG (AB 8) true (AC 10) (Aa 2 (AB 3))
(cG (AB 8) true (AC 11) (AH (AB 2))
(cG (AB 8) true (AC 12) (AQ 11 [(AB 10), (AB 11)])
(cG (AB 8) true (AC 13) (AL iGe .i64 (AB 12) (kV (.int .i64 0)))
(cG (AB 8) true (AC 14) (AD (AB 13))
(cG (AB 14) false (AC 15) (AF 0 (AB 3))
(cG (AB 14) false (AC 16) (AH (AB 15))
(cG (AB 14) false (AC 17) (AL iGe .i64 (AB 16) (kV (.int .i64 1099511627776)))
(cG (AB 8) true (AC 18) (AS (AB 14) (kV (.bool true)) (AB 17))
(cOp (AC 19) (AS (AB 8) (AB 18) (kV (.bool false)))
(cOp (AC 4) (AD (AB 19))
Ae))))))))))))
def UG : C := (cOp (AC 3) (Bu (AB 0))
(cOp (AC 4) (AD (kV (.bool false)))
(cOp (AC 5) (Aa 2 (AB 3))
(cOp (AC 6) (AH (AB 1))
(cOp (AC 7) (AQ 11 [(AB 5), (AB 6)])
hdT)))))
def d46 : C := UG
theorem Ql {n : Nat} {args : List Value} {h : Hp} (hl : Nat.ble (Bk args) 320 = true) : call AG (Nat.succ n) 46 args h = Bs [.t (AB 4)] (d46 (call AG n) (Ak e0 0 args) h) := by
  have hb : AG.get 46 = some b46 := by kernel_rfl
  rw [BM hb]
  have hd : b46 = ⟨[.t (AB 4)], d46⟩ := by kernel_rfl
  rw [hd, BC hl]
theorem RB : d46 = UG := rfl
theorem eR {F : CallF} {h : Hp} {e : Env} {x : Int} (s7 : AB 7 e = .int .i64 x) (c1 : iGe x 0 = false) : ∃ e', hdT F e h = .ret e' h ∧ AB 4 e' = .bool false := by
  unfold hdT
  simp only [sT, Nat.reduceLT, Nat.reduceEqDiff, if_true, if_false, reduceIte, gD, s7, AO, AN, c1]
  exact ⟨_, rfl, by simp [AE]⟩
theorem Zu {F : CallF} {h h2 : Hp} {e : Env} {A b5 : Nat} {x y ep to_ : Int} {p : Value} {c d : Bool} (s7 : AB 7 e = .int .i64 x) (c1 : iGe x 0 = true) (s3 : AB 3 e = .pointer (some ⟨A, 0, none⟩)) (s2 : AB 2 e = .pointer (some ⟨b5, 0, none⟩)) (l2 : loadN 2 ⟨A, 0, none⟩ h = .ok p h) (l5 : load1 ⟨b5, 0, none⟩ h = .ok (.int .i64 to_) h)
    (k2 : F 11 [p, .int .i64 to_] h = .ok (.int .i64 y) h2) (c2 : iGe y 0 = c) (l3 : load1 ⟨A, 0, none⟩ h2 = .ok (.int .i64 ep) h2) (c3 : iGe ep 1099511627776 = d) : ∃ e', hdT F e h = .ret e' h2 ∧ AB 4 e' = .bool (c || d) := by
  unfold hdT
  cases c
  · simp only [sT, Nat.reduceLT, Nat.reduceEqDiff, if_true, if_false, reduceIte, gD, s7, AO, AN, c1, Ay, s3, Aw, l2, Ab, s2, Am, l5, Ah, AV, Ad, k2, c2, AW, Aj, Nat.zero_add, l3, c3]
    exact ⟨_, rfl, by simp only [AE, Nat.reduceLT, Nat.reduceEqDiff, if_true, if_false, reduceIte]; rfl⟩
  · simp only [sT, Nat.reduceLT, Nat.reduceEqDiff, if_true, if_false, reduceIte, gD, s7, AO, AN, c1, Ay, s3, Aw, l2, Ab, s2, Am, l5, Ah, AV, Ad, k2, c2]
    exact ⟨_, rfl, by simp only [AE, Nat.reduceLT, Nat.reduceEqDiff, if_true, if_false, reduceIte]; rfl⟩
def Gv (fr to_ : Int) (x : Pw) : Prop := fr ∈ x.2.2 ∧ (to_ ∈ x.2.2 ∨ 1099511627776 ≤ x.1)
theorem Rm {n : Nat} {h : Hp} (W : h.Wf) {b4 b5 : Nat} {x : Pw} {from_ to_ : Int} (o : h.Nod x.2.1 x.2.2) (hz : 0 < x.2.2.length) (hl : x.2.2.length < 900000) (r4 : h.Row b4 0 [.int .i64 from_]) (r5 : h.Row b5 0 [.int .i64 to_]) :
    ∃ r h', call AG (n + 3) 46 [plV x.1 x.2.1, .pointer (some ⟨b4, 0, none⟩), .pointer (some ⟨b5, 0, none⟩)] h = .ok (.bool r) h' ∧ h.Ext h' ∧ (r = true ↔ Gv from_ to_ x) := by
  obtain ⟨ep, w, zs⟩ := x
  have R := Hp.Row.new W 0 [.int .i64 ep, w]
  have x1 := DK W (ep := ep) (w := w)
  have hbx : ∀ e : Env, AB 0 e = plV ep w → Bu (AB 0) (call AG (n + 2)) e h = .ok (.pointer (some ⟨h.next, 0, none⟩)) (h.pushRow 0 [.int .i64 ep, w]) := fun e he => GY W he
  have o1 := o.ext W x1
  have r41 := r4.ext W x1
  have r51 := r5.ext W x1
  have hl : zs.length < 900000 := hl
  have hz : 0 < zs.length := hz
  have o1 : (h.pushRow 0 [.int .i64 ep, w]).Nod w zs := o1
  generalize h.pushRow 0 [.int .i64 ep, w] = g at R x1 hbx o1 r41 r51
  have l0 : loadN 2 ⟨h.next, 0, none⟩ g = .ok (plV ep w) g := R.loadN (by simp)
  have l4 : load1 ⟨b4, 0, none⟩ g = .ok (.int .i64 from_) g := r41.load1 (off := 0) (by simp)
  have k1 := Hg (n := n) (x := from_) x1.wf (ep := ep) (o1.vals hz) hl
  have y2 := DK x1.wf (ep := ep) (w := w)
  have x2 := x1.trans y2
  have o2 := o1.ext x1.wf y2
  have R2 := R.ext x1.wf y2
  have r52 := r51.ext x1.wf y2
  generalize g.pushRow 0 [.int .i64 ep, w] = g2 at k1 x2 o2 R2 r52 y2
  have l2 : loadN 2 ⟨h.next, 0, none⟩ g2 = .ok (plV ep w) g2 := R2.loadN (by simp)
  have l5 : load1 ⟨b5, 0, none⟩ g2 = .ok (.int .i64 to_) g2 := r52.load1 (off := 0) (by simp)
  have k2 := Hg (n := n) (x := to_) x2.wf (ep := ep) (o2.vals hz) hl
  have x3 := x2.trans (DK x2.wf (ep := ep) (w := w))
  have R3 := R2.ext x2.wf (DK x2.wf (ep := ep) (w := w))
  generalize g2.pushRow 0 [.int .i64 ep, w] = g3 at k2 x3 R3
  have l3 : load1 ⟨h.next, 0, none⟩ g3 = .ok (.int .i64 ep) g3 := R3.load1 (off := 0) (by simp)
  have pre : ∃ e1, UG (call AG (n + 2)) (Ak e0 0 [plV ep w, .pointer (some ⟨b4, 0, none⟩), .pointer (some ⟨b5, 0, none⟩)]) h = hdT (call AG (n + 2)) e1 g2 ∧ AB 7 e1 = .int .i64 (C1 from_ 0 zs) ∧ AB 3 e1 = .pointer (some ⟨h.next, 0, none⟩) ∧ AB 2 e1 = .pointer (some ⟨b5, 0, none⟩) := by
    unfold UG
    simp only [AK, AM, Nat.succ_eq_add_one, Nat.zero_add, Nat.reduceAdd, BX, BZ, A5, Br, AE, Nat.reduceLT, Nat.reduceEqDiff, if_true, if_false, reduceIte, hbx, Ay, Aw, l0, Ab, Am, l4, Ah, AV, Ad, k1]
    exact ⟨_, rfl, by simp [AE], by simp [AE], by simp [AE]⟩
  obtain ⟨e1, p1, p7, p3, p2⟩ := pre
  by_cases hf : from_ ∈ zs
  · have c1 : iGe (C1 from_ 0 zs) 0 = true := by rw [FU]; simpa using hf
    obtain ⟨e2, q1, q2⟩ := Zu p7 c1 p3 p2 l2 l5 k2 (FU to_ zs) l3 (Cl ep 1099511627776)
    refine ⟨decide (to_ ∈ zs) || decide (1099511627776 ≤ ep), g3, ?_, x3, ?_⟩
    · rw [Ql rfl, RB, p1, q1]
      simp only [AZ, Ap, q2]
    · show _ ↔ from_ ∈ zs ∧ (to_ ∈ zs ∨ 1099511627776 ≤ ep)
      rw [Bool.or_eq_true, decide_eq_true_eq, decide_eq_true_eq]
      exact ⟨fun h => ⟨hf, h⟩, fun h => h.2⟩
  · have c1 : iGe (C1 from_ 0 zs) 0 = false := by rw [FU]; simpa using hf
    obtain ⟨e2, q1, q2⟩ := eR (F := call AG (n + 2)) (h := g2) p7 c1
    refine ⟨false, g2, ?_, x2, ⟨(fun h => by cases h), fun h => (hf h.1).elim⟩⟩
    rw [Ql rfl, RB, p1, q1]
    simp only [AZ, Ap, q2]
end
end Go.Proofs.Ytkafejncffinmaa
set_option linter.unusedVariables false
set_option linter.unusedSimpArgs false
namespace Go.Proofs.Ytkafejncffinmaa
noncomputable section
open Go
set_option maxRecDepth 100000
def Ko : C := (cOp (AC 7) (AF 1 (AB 2))
(cOp (AC 8) (AH (AB 7))
(cOp (AC 9) (Af (AB 8))
(cOp (AC 10) (AL iLt .i64 (AB 5) (AB 9))
(AP (AB 10)
(Ar (AX 1 (cOp (AC 13) (AF 1 (AB 2))
(cOp (AC 14) (AH (AB 13))
(cOp (AC 16) (A9 1 (AB 14) (AB 5))
(cOp (AC 17) (AH (AB 16))
(cOp (AC 19) (AL iEq .i64 (AB 17) (AB 1))
(AP (AB 19)
(cOp (AC 4) (AD (AB 5))
Ae)
Ac)))))))
(cOp (AC 12) (A4 .i64 (Ai .i64) (AB 5) (kV (.int .i64 1)))
(cOp (AC 5) (AD (AB 12))
Ac)))
(A7 0))))))
def eT : C := (cOp (AC 4) (AD (kV (.int .i64 (-1))))
Ae)
def aA : C := (Ar (AX 0 (Ao (cOp (AC 7) (AF 1 (AB 2))
(cOp (AC 8) (AH (AB 7))
(cOp (AC 9) (Af (AB 8))
(cOp (AC 10) (AL iLt .i64 (AB 5) (AB 9))
(AP (AB 10)
(Ar (AX 1 (cOp (AC 13) (AF 1 (AB 2))
(cOp (AC 14) (AH (AB 13))
(cOp (AC 16) (A9 1 (AB 14) (AB 5))
(cOp (AC 17) (AH (AB 16))
(cOp (AC 19) (AL iEq .i64 (AB 17) (AB 1))
(AP (AB 19)
(cOp (AC 4) (AD (AB 5))
Ae)
Ac)))))))
(cOp (AC 12) (A4 .i64 (Ai .i64) (AB 5) (kV (.int .i64 1)))
(cOp (AC 5) (AD (AB 12))
Ac)))
(A7 0))))))))
(cOp (AC 4) (AD (kV (.int .i64 (-1))))
Ae))
theorem Ur : aA = Ar (AX 0 (Ao Ko)) eT := rfl
def UE : C := (cOp (AC 2) (Bu (AB 0))
(cOp (AC 4) (AD (kV (.int .i64 0)))
(cOp (AC 5) (AD (kV (.int .i64 0)))
aA)))
def d41 : C := UE
theorem Yi {n : Nat} {args : List Value} {h : Hp} (hl : Nat.ble (Bk args) 320 = true) : call AG (Nat.succ n) 41 args h = Bs [.t (AB 4)] (d41 (call AG n) (Ak e0 0 args) h) := by
  have hb : AG.get 41 = some b41 := by kernel_rfl
  rw [BM hb]
  have hd : b41 = ⟨[.t (AB 4)], d41⟩ := by kernel_rfl
  rw [hd, BC hl]
theorem Y3 : d41 = UE := rfl
theorem Ro {F : CallF} {h : Hp} {A : Nat} {ep : Int} {u : Value} {zs : List Int} {x : Int} (V : h.Vals u (ints .i64 zs)) (RA : h.Row A 0 [.int .i64 ep, u]) (hl : zs.length < 900000) {e : Env} (s2 : AB 2 e = .pointer (some ⟨A, 0, none⟩)) (s1 : AB 1 e = .int .i64 x) (s5 : AB 5 e = .int .i64 0) :
    (∃ e', Ao Ko F e h = .exit 0 e' h ∧ C1 x 0 zs = -1) ∨ (∃ e', Ao Ko F e h = .ret e' h ∧ AB 4 e' = .int .i64 (C1 x 0 zs)) := by
  have la : Cu (.pointer (some ⟨A, 1, none⟩)) h = .ok u h := by rw [Am]; exact RA.load1 (off := 1) (by simp)
  refine Bo (I := fun i e' h' => h' = h ∧ AB 2 e' = .pointer (some ⟨A, 0, none⟩) ∧ AB 1 e' = .int .i64 x ∧ AB 5 e' = .int .i64 (i : Int) ∧ i ≤ zs.length ∧ C1 x 0 zs = C1 x i (zs.drop i))
    (Q := fun y => (∃ e', y = .exit 0 e' h ∧ C1 x 0 zs = -1) ∨ (∃ e', y = .ret e' h ∧ AB 4 e' = .int .i64 (C1 x 0 zs))) zs.length (by omega) (fun i e' h' ⟨hh, t2, t1, t5, hi, hr⟩ => ?_)
    ⟨rfl, s2, s1, s5, Nat.zero_le _, rfl⟩
  subst hh
  by_cases hlt : i < zs.length
  · obtain ⟨a, g1, g2⟩ := V.int hlt
    rw [Gk hlt] at hr
    generalize zs.getD i 0 = z at g2 hr
    have hr : C1 x 0 zs = if x = z then (i : Int) else C1 x (i + 1) (zs.drop (i + 1)) := hr
    have c1 : iLt (i : Int) (zs.length : Int) = true := by rw [As]; simp; omega
    by_cases hx : x = z
    · right
      have c2 : iEq z x = true := by rw [B6]; simpa using hx.symm
      have hrun : ∃ e2, Ko F e' h' = .ret e2 h' ∧ AB 4 e2 = .int .i64 (i : Int) := by
        unfold Ko
        simp only [sT, Nat.reduceLT, Nat.reduceEqDiff, if_true, if_false, reduceIte, AW, t2, Aj, Nat.zero_add, Ab, la, Al, V.ilen, AO, AN, t5, c1, BV, g1, g2, t1, c2]
        exact ⟨_, rfl, by simp [AE]⟩
      obtain ⟨e2, r1, r2⟩ := hrun
      rw [r1]
      refine ⟨rfl, .inr ⟨e2, rfl, ?_⟩⟩
      rw [r2, hr, if_pos hx]
    · left
      have c2 : iEq z x = false := by rw [B6]; simpa using fun h => hx h.symm
      have a3 : Ci .i64 (.int .i64 (i : Int)) (.int .i64 1) h' = .ok (.int .i64 ((i + 1 : Nat) : Int)) h' := by
        have : (i : Int) + 1 = ((i + 1 : Nat) : Int) := by omega
        rw [Bc, this, BJ (by omega)]
      have hrun : ∃ e2, Ko F e' h' = .norm e2 h' ∧ AB 2 e2 = .pointer (some ⟨A, 0, none⟩) ∧ AB 1 e2 = .int .i64 x ∧ AB 5 e2 = .int .i64 ((i + 1 : Nat) : Int) := by
        unfold Ko
        simp only [sT, Nat.reduceLT, Nat.reduceEqDiff, if_true, if_false, reduceIte, AW, t2, Aj, Nat.zero_add, Ab, la, Al, V.ilen, AO, AN, t5, c1, BV, g1, g2, t1, c2, Bb, a3]
        exact ⟨_, rfl, by simp only [AE, Nat.reduceLT, Nat.reduceEqDiff, if_true, if_false, reduceIte]; exact t2, by simp only [AE, Nat.reduceLT, Nat.reduceEqDiff, if_true, if_false, reduceIte]; exact t1, by simp [AE]⟩
      obtain ⟨e2, r1, r2, r3, r4⟩ := hrun
      rw [if_neg hx] at hr
      exact ⟨hlt, e2, h', r1, rfl, r2, r3, r4, hlt, hr⟩
  · right
    have c1 : iLt (i : Int) (zs.length : Int) = false := by rw [As]; simp; omega
    have hrun : ∃ e2, Ko F e' h' = .exit 0 e2 h' := by
      unfold Ko
      simp only [sT, Nat.reduceLT, Nat.reduceEqDiff, if_true, if_false, reduceIte, AW, t2, Aj, Nat.zero_add, Ab, la, Al, V.ilen, AO, AN, t5, c1]
      exact ⟨_, rfl⟩
    obtain ⟨e2, r1⟩ := hrun
    rw [r1]
    refine ⟨rfl, .inl ⟨e2, rfl, ?_⟩⟩
    rw [hr, List.drop_of_length_le (by omega)]; rfl
theorem Ha {n : Nat} {h : Hp} (W : h.Wf) {ep : Int} {w : Value} {zs : List Int} {x : Int} (V : h.Vals w (ints .i64 zs)) (hl : zs.length < 900000) : call AG (n + 1) 41 [plV ep w, .int .i64 x] h = .ok (.int .i64 (C1 x 0 zs)) (h.pushRow 0 [.int .i64 ep, w]) := by
  have R := Hp.Row.new W 0 [.int .i64 ep, w]
  have x1 := DK W (ep := ep) (w := w)
  have hbx : ∀ e : Env, AB 0 e = plV ep w → Bu (AB 0) (call AG n) e h = .ok (.pointer (some ⟨h.next, 0, none⟩)) (h.pushRow 0 [.int .i64 ep, w]) := fun e he => GY W he
  have V1 := V.ext W x1
  generalize h.pushRow 0 [.int .i64 ep, w] = h1 at R x1 hbx V1
  have pre : ∃ e1, UE (call AG n) (Ak e0 0 [plV ep w, .int .i64 x]) h = aA (call AG n) e1 h1 ∧ AB 2 e1 = .pointer (some ⟨h.next, 0, none⟩) ∧ AB 1 e1 = .int .i64 x ∧ AB 5 e1 = .int .i64 0 := by
    unfold UE
    simp only [AK, AM, Nat.succ_eq_add_one, Nat.zero_add, Nat.reduceAdd, BX, BZ, A5, Br, AE, Nat.reduceLT, Nat.reduceEqDiff, if_true, if_false, reduceIte, hbx]
    exact ⟨_, rfl, by simp [AE], by simp [AE], by simp [AE]⟩
  obtain ⟨e1, p1, p2, p3, p4⟩ := pre
  rw [Yi rfl, Y3, p1, Ur]
  rcases Ro (F := call AG n) V1 R hl p2 p3 p4 with ⟨e2, q1, q2⟩ | ⟨e2, q1, q2⟩
  · simp only [BI, Aq, q1, BA, BH]
    unfold eT
    simp only [sT, Nat.reduceLT, Nat.reduceEqDiff, if_true, if_false, reduceIte, AZ, Ap, q2]
  · simp only [BI, Aq, q1, BL, Bw, AZ, Ap, q2]
def rtI : C := (cOp (AC 59) (AL iLt .i64 (AB 6) (AB 5))
(AP (AB 59)
(Ar (AX 3 (Bx (cOp (AC 62) (AF 1 (AB 2))
(cOp (AC 63) (AH (AB 62))
(cOp (AC 65) (A9 1 (AB 63) (AB 6))
(cOp (AC 66) (AH (AB 65))
(cOp (AC 67) (AF 1 (AB 2))
(cOp (AC 68) (AH (AB 67))
(cOp (AC 70) (A9 1 (AB 68) (AB 5))
(cOp (AC 71) (AH (AB 70))
(cOp (AC 72) (AL iEq .i64 (AB 66) (AB 71))
(AP (AB 72)
(cOp (AC 4) (AD (kV (.bool false)))
Ae)
Ac))))))))))))
(cOp (AC 61) (A4 .i64 (Ai .i64) (AB 6) (kV (.int .i64 1)))
(cOp (AC 6) (AD (AB 61))
Ac)))
(A7 2)))
def rtL : C := (AX 2 (Ao (cOp (AC 59) (AL iLt .i64 (AB 6) (AB 5))
(AP (AB 59)
(Ar (AX 3 (Bx (cOp (AC 62) (AF 1 (AB 2))
(cOp (AC 63) (AH (AB 62))
(cOp (AC 65) (A9 1 (AB 63) (AB 6))
(cOp (AC 66) (AH (AB 65))
(cOp (AC 67) (AF 1 (AB 2))
(cOp (AC 68) (AH (AB 67))
(cOp (AC 70) (A9 1 (AB 68) (AB 5))
(cOp (AC 71) (AH (AB 70))
(cOp (AC 72) (AL iEq .i64 (AB 66) (AB 71))
(AP (AB 72)
(cOp (AC 4) (AD (kV (.bool false)))
Ae)
Ac))))))))))))
(cOp (AC 61) (A4 .i64 (Ai .i64) (AB 6) (kV (.int .i64 1)))
(cOp (AC 6) (AD (AB 61))
Ac)))
(A7 2)))))
theorem Sv : rtL = AX 2 (Ao rtI) := rfl
def rtB : C := (cOp (AC 36) (AF 1 (AB 2))
(cOp (AC 37) (AH (AB 36))
(cOp (AC 38) (Af (AB 37))
(cOp (AC 39) (AL iLt .i64 (AB 5) (AB 38))
(AP (AB 39)
(Ar (AX 1 (cOp (AC 42) (AF 1 (AB 2))
(cOp (AC 43) (AH (AB 42))
(cOp (AC 45) (A9 1 (AB 43) (AB 5))
(cOp (AC 46) (AH (AB 45))
(cOp (AC 47) (AL iLt .i64 (AB 46) (kV (.int .i64 0)))
(cG (AB 47) false (AC 49) (AF 1 (AB 2))
(cG (AB 47) false (AC 50) (AH (AB 49))
(cG (AB 47) false (AC 51) (AD (AB 5))
(cG (AB 47) false (AC 52) (A9 1 (AB 50) (AB 51))
(cG (AB 47) false (AC 53) (AH (AB 52))
(cG (AB 47) false (AC 54) (AD (AB 1))
(cG (AB 47) false (AC 55) (AL iGe .i64 (AB 53) (AB 54))
(cOp (AC 56) (AS (AB 47) (kV (.bool true)) (AB 55))
(AP (AB 56)
(cOp (AC 4) (AD (kV (.bool false)))
Ae)
(cOp (AC 6) (AD (kV (.int .i64 0)))
rtL))))))))))))))))
(cOp (AC 41) (A4 .i64 (Ai .i64) (AB 5) (kV (.int .i64 1)))
(cOp (AC 5) (AD (AB 41))
Ac)))
(A7 0))))))
def rtE : C := (cOp (AC 4) (AD (kV (.bool true)))
Ae)
def rtS : C := (Ar (AX 0 (Ao (cOp (AC 36) (AF 1 (AB 2))
(cOp (AC 37) (AH (AB 36))
(cOp (AC 38) (Af (AB 37))
(cOp (AC 39) (AL iLt .i64 (AB 5) (AB 38))
(AP (AB 39)
(Ar (AX 1 (cOp (AC 42) (AF 1 (AB 2))
(cOp (AC 43) (AH (AB 42))
(cOp (AC 45) (A9 1 (AB 43) (AB 5))
(cOp (AC 46) (AH (AB 45))
(cOp (AC 47) (AL iLt .i64 (AB 46) (kV (.int .i64 0)))
(cG (AB 47) false (AC 49) (AF 1 (AB 2))
(cG (AB 47) false (AC 50) (AH (AB 49))
(cG (AB 47) false (AC 51) (AD (AB 5))
(cG (AB 47) false (AC 52) (A9 1 (AB 50) (AB 51))
(cG (AB 47) false (AC 53) (AH (AB 52))
(cG (AB 47) false (AC 54) (AD (AB 1))
(cG (AB 47) false (AC 55) (AL iGe .i64 (AB 53) (AB 54))
(cOp (AC 56) (AS (AB 47) (kV (.bool true)) (AB 55))
(AP (AB 56)
(cOp (AC 4) (AD (kV (.bool false)))
Ae)
(cOp (AC 6) (AD (kV (.int .i64 0)))
(AX 2 (Ao (cOp (AC 59) (AL iLt .i64 (AB 6) (AB 5))
(AP (AB 59)
(Ar (AX 3 (Bx (cOp (AC 62) (AF 1 (AB 2))
(cOp (AC 63) (AH (AB 62))
(cOp (AC 65) (A9 1 (AB 63) (AB 6))
(cOp (AC 66) (AH (AB 65))
(cOp (AC 67) (AF 1 (AB 2))
(cOp (AC 68) (AH (AB 67))
(cOp (AC 70) (A9 1 (AB 68) (AB 5))
(cOp (AC 71) (AH (AB 70))
(cOp (AC 72) (AL iEq .i64 (AB 66) (AB 71))
(AP (AB 72)
(cOp (AC 4) (AD (kV (.bool false)))
Ae)
Ac))))))))))))
(cOp (AC 61) (A4 .i64 (Ai .i64) (AB 6) (kV (.int .i64 1)))
(cOp (AC 6) (AD (AB 61))
Ac)))
(A7 2)))))))))))))))))))))
(cOp (AC 41) (A4 .i64 (Ai .i64) (AB 5) (kV (.int .i64 1)))
(cOp (AC 5) (AD (AB 41))
Ac)))
(A7 0))))))))
(cOp (AC 4) (AD (kV (.bool true)))
Ae))
theorem Sw : rtS = Ar (AX 0 (Ao rtB)) rtE := rfl
def Ka : C := (cOp (AC 2) (Bu (AB 0))
(cOp (AC 4) (AD (kV (.bool false)))
(cOp (AC 8) (AL iLt .i64 (AB 1) (kV (.int .i64 1)))
(cG (AB 8) false (AC 10) (AD (AB 1))
(cG (AB 8) false (AC 11) (AL iGt .i64 (AB 10) (kV (.int .i64 256)))
(cOp (AC 12) (AS (AB 8) (kV (.bool true)) (AB 11))
(cG (AB 12) false (AC 14) (AF 0 (AB 2))
(cG (AB 12) false (AC 15) (AH (AB 14))
(cG (AB 12) false (AC 16) (AL iLt .i64 (AB 15) (kV (.int .i64 1)))
(cOp (AC 17) (AS (AB 12) (kV (.bool true)) (AB 16))
(cG (AB 17) false (AC 19) (AF 0 (AB 2))
(cG (AB 17) false (AC 20) (AH (AB 19))
(cG (AB 17) false (AC 21) (AL iGt .i64 (AB 20) (kV (.int .i64 1099511627776)))
(cOp (AC 22) (AS (AB 17) (kV (.bool true)) (AB 21))
(cG (AB 22) false (AC 24) (AF 1 (AB 2))
(cG (AB 22) false (AC 25) (AH (AB 24))
(cG (AB 22) false (AC 26) (Af (AB 25))
(cG (AB 22) false (AC 27) (AL iLt .i64 (AB 26) (kV (.int .i64 1)))
(cOp (AC 28) (AS (AB 22) (kV (.bool true)) (AB 27))
(cG (AB 28) false (AC 30) (AF 1 (AB 2))
(cG (AB 28) false (AC 31) (AH (AB 30))
(cG (AB 28) false (AC 32) (Af (AB 31))
(cG (AB 28) false (AC 33) (AL iGt .i64 (AB 32) (kV (.int .i64 255)))
(cOp (AC 34) (AS (AB 28) (kV (.bool true)) (AB 33))
(AP (AB 34)
(cOp (AC 4) (AD (kV (.bool false)))
Ae)
(cOp (AC 5) (AD (kV (.int .i64 0)))
rtS))))))))))))))))))))))))))
def d54 : C := Ka
theorem Qr {n : Nat} {args : List Value} {h : Hp} (hl : Nat.ble (Bk args) 320 = true) : call AG (Nat.succ n) 54 args h = Bs [.t (AB 4)] (d54 (call AG n) (Ak e0 0 args) h) := by
  have hb : AG.get 54 = some b54 := by kernel_rfl
  rw [BM hb]
  have hd : b54 = ⟨[.t (AB 4)], d54⟩ := by kernel_rfl
  rw [hd, BC hl]
theorem RF : d54 = Ka := rfl
theorem Sx {F : CallF} {h0 h : Hp} (hh0 : h = h0 ∨ h = h0.marked) {A i : Nat} {ep : Int} {u : Value} {zs : List Int} (V0 : h0.Vals u (ints .i64 zs)) (RA0 : h0.Row A 0 [.int .i64 ep, u]) (hl : zs.length ≤ 255) (hi : i < zs.length) {e : Env} (s2 : AB 2 e = .pointer (some ⟨A, 0, none⟩)) (s1 : AB 1 e = .int .i64 256) (s5 : AB 5 e = .int .i64 (i : Int)) (s6 : AB 6 e = .int .i64 0) :
    (∃ e' h', Ao rtI F e h = .exit 2 e' h' ∧ (h' = h0 ∨ h' = h0.marked) ∧ AB 2 e' = .pointer (some ⟨A, 0, none⟩) ∧ AB 1 e' = .int .i64 256 ∧ AB 5 e' = .int .i64 (i : Int) ∧ zs.getD i 0 ∉ zs.take i) ∨ (∃ e' h', Ao rtI F e h = .ret e' h' ∧ (h' = h0 ∨ h' = h0.marked) ∧ AB 4 e' = .bool false ∧ zs.getD i 0 ∈ zs.take i) := by
  refine Bo (I := fun k e' h' => (h' = h0 ∨ h' = h0.marked) ∧ AB 2 e' = .pointer (some ⟨A, 0, none⟩) ∧ AB 1 e' = .int .i64 256 ∧ AB 5 e' = .int .i64 (i : Int) ∧ AB 6 e' = .int .i64 (k : Int) ∧ k ≤ i ∧ zs.getD i 0 ∉ zs.take k)
    (Q := fun y => (∃ e' h', y = .exit 2 e' h' ∧ (h' = h0 ∨ h' = h0.marked) ∧ AB 2 e' = .pointer (some ⟨A, 0, none⟩) ∧ AB 1 e' = .int .i64 256 ∧ AB 5 e' = .int .i64 (i : Int) ∧ zs.getD i 0 ∉ zs.take i) ∨ (∃ e' h', y = .ret e' h' ∧ (h' = h0 ∨ h' = h0.marked) ∧ AB 4 e' = .bool false ∧ zs.getD i 0 ∈ zs.take i)) i (by omega) (fun k e' h' ⟨hh, t2, t1, t5, t6, hk, hno⟩ => ?_)
    ⟨hh0, s2, s1, s5, s6, Nat.zero_le _, by simp⟩
  have hm : h'.marked = h0.marked := by rcases hh with rfl | rfl <;> rfl
  have V : h0.marked.Vals u (ints .i64 zs) := V0.same rfl
  have RA : h0.marked.Row A 0 [.int .i64 ep, u] := RA0.same rfl
  have la : Cu (.pointer (some ⟨A, 1, none⟩)) h0.marked = .ok u h0.marked := by rw [Am]; exact RA.load1 (off := 1) (by simp)
  by_cases hlt : k < i
  · obtain ⟨a, g1, g2⟩ := V.int (i := k) (by omega)
    obtain ⟨b, g3, g4⟩ := V.int (i := i) hi
    have htk : zs.take (k + 1) = zs.take k ++ [zs.getD k 0] := by
      rw [List.take_add_one, List.getD_eq_getElem?_getD, List.getElem?_eq_getElem (by omega)]; rfl
    have hmem : zs.getD k 0 ∈ zs.take i := by
      rw [List.getD_eq_getElem?_getD, List.getElem?_eq_getElem (show k < zs.length by omega)]
      exact List.mem_take_iff_getElem.2 ⟨k, by omega, rfl⟩
    have c1 : iLt (k : Int) (i : Int) = true := by rw [As]; simp; omega
    generalize zs.getD k 0 = z at g2 htk hmem
    generalize zs.getD i 0 = y at g4 hno ⊢
    by_cases hx : z = y
    · right
      have c2 : iEq z y = true := by rw [B6]; simpa using hx
      have hrun : ∃ e2, rtI F e' h' = .ret e2 h0.marked ∧ AB 4 e2 = .bool false := by
        unfold rtI
        simp only [sT, Nat.reduceLT, Nat.reduceEqDiff, if_true, if_false, reduceIte, AO, AN, t6, t5, c1, Cw, hm, AW, t2, Aj, Nat.zero_add, Ab, la, BV, g1, g2, g3, g4, c2]
        exact ⟨_, rfl, by simp [AE]⟩
      obtain ⟨e2, r1, r2⟩ := hrun
      rw [r1]
      exact ⟨rfl, .inr ⟨e2, _, rfl, .inr rfl, r2, hx ▸ hmem⟩⟩
    · left
      have c2 : iEq z y = false := by rw [B6]; simpa using hx
      have a3 : Ci .i64 (.int .i64 (k : Int)) (.int .i64 1) h0.marked = .ok (.int .i64 ((k + 1 : Nat) : Int)) h0.marked := by
        have : (k : Int) + 1 = ((k + 1 : Nat) : Int) := by omega
        rw [Bc, this, BJ (by omega)]
      have hrun : ∃ e2, rtI F e' h' = .norm e2 h0.marked ∧ AB 2 e2 = .pointer (some ⟨A, 0, none⟩) ∧ AB 1 e2 = .int .i64 256 ∧ AB 5 e2 = .int .i64 (i : Int) ∧ AB 6 e2 = .int .i64 ((k + 1 : Nat) : Int) := by
        unfold rtI
        simp only [sT, Nat.reduceLT, Nat.reduceEqDiff, if_true, if_false, reduceIte, AO, AN, t6, t5, c1, Cw, hm, AW, t2, Aj, Nat.zero_add, Ab, la, BV, g1, g2, g3, g4, c2, Bb, a3]
        exact ⟨_, rfl, by simp only [AE, Nat.reduceLT, Nat.reduceEqDiff, if_true, if_false, reduceIte]; exact t2, by simp only [AE, Nat.reduceLT, Nat.reduceEqDiff, if_true, if_false, reduceIte]; exact t1, by simp only [AE, Nat.reduceLT, Nat.reduceEqDiff, if_true, if_false, reduceIte]; exact t5, by simp [AE]⟩
      obtain ⟨e2, r1, r2, r3, r4, r5⟩ := hrun
      refine ⟨hlt, e2, _, r1, .inr rfl, r2, r3, r4, r5, hlt, ?_⟩
      rw [htk]
      intro h
      rcases List.mem_append.1 h with h | h
      · exact hno h
      · exact hx (List.mem_singleton.1 h).symm
  · right
    have c1 : iLt (k : Int) (i : Int) = false := by rw [As]; simp; omega
    have hrun : ∃ e2, rtI F e' h' = .exit 2 e2 h' ∧ AB 2 e2 = .pointer (some ⟨A, 0, none⟩) ∧ AB 1 e2 = .int .i64 256 ∧ AB 5 e2 = .int .i64 (i : Int) := by
      unfold rtI
      simp only [sT, Nat.reduceLT, Nat.reduceEqDiff, if_true, if_false, reduceIte, AO, AN, t6, t5, c1]
      exact ⟨_, rfl, by simp only [AE, Nat.reduceLT, Nat.reduceEqDiff, if_true, if_false, reduceIte]; exact t2, by simp only [AE, Nat.reduceLT, Nat.reduceEqDiff, if_true, if_false, reduceIte]; exact t1, by simp only [AE, Nat.reduceLT, Nat.reduceEqDiff, if_true, if_false, reduceIte]; exact t5⟩
    obtain ⟨e2, r1, r2, r3, r4⟩ := hrun
    rw [r1]
    have : k = i := by omega
    subst this
    exact ⟨rfl, .inl ⟨e2, h', rfl, hh, r2, r3, r4, hno⟩⟩
theorem WJ {F : CallF} {h : Hp} {A : Nat} {ep : Int} {w : Value} {zs : List Int} (V0 : h.Vals w (ints .i64 zs)) (RA0 : h.Row A 0 [.int .i64 ep, w]) (hl : zs.length ≤ 255) {e : Env} (s1 : AB 1 e = .int .i64 256) (s2 : AB 2 e = .pointer (some ⟨A, 0, none⟩)) (s5 : AB 5 e = .int .i64 0) :
    (∃ e' h', Ao rtB F e h = .exit 0 e' h' ∧ (h' = h ∨ h' = h.marked) ∧ ∀ i, i < zs.length → 0 ≤ zs.getD i 0 ∧ zs.getD i 0 < 256 ∧ zs.getD i 0 ∉ zs.take i) ∨ (∃ e' h', Ao rtB F e h = .ret e' h' ∧ (h' = h ∨ h' = h.marked) ∧ AB 4 e' = .bool false ∧ ¬ ∀ i, i < zs.length → 0 ≤ zs.getD i 0 ∧ zs.getD i 0 < 256 ∧ zs.getD i 0 ∉ zs.take i) := by
  refine Bo (I := fun i e' h' => (h' = h ∨ h' = h.marked) ∧ AB 1 e' = .int .i64 256 ∧ AB 2 e' = .pointer (some ⟨A, 0, none⟩) ∧ AB 5 e' = .int .i64 (i : Int) ∧ i ≤ zs.length ∧ ∀ j, j < i → 0 ≤ zs.getD j 0 ∧ zs.getD j 0 < 256 ∧ zs.getD j 0 ∉ zs.take j)
    (Q := fun y => (∃ e' h', y = .exit 0 e' h' ∧ (h' = h ∨ h' = h.marked) ∧ ∀ i, i < zs.length → 0 ≤ zs.getD i 0 ∧ zs.getD i 0 < 256 ∧ zs.getD i 0 ∉ zs.take i) ∨ (∃ e' h', y = .ret e' h' ∧ (h' = h ∨ h' = h.marked) ∧ AB 4 e' = .bool false ∧ ¬ ∀ i, i < zs.length → 0 ≤ zs.getD i 0 ∧ zs.getD i 0 < 256 ∧ zs.getD i 0 ∉ zs.take i)) zs.length (by omega) (fun i e' h' ⟨hh, t1, t2, t5, hi, hj⟩ => ?_) ⟨.inl rfl, s1, s2, s5, Nat.zero_le _, fun j hj => by omega⟩
  have hbl : h'.bl = h.bl := by rcases hh with rfl | rfl <;> rfl
  have hm : ∀ g : Hp, g = h' ∨ g = h'.marked → g = h ∨ g = h.marked := fun g hg => by
    rcases hh with rfl | rfl
    · exact hg
    · rcases hg with rfl | rfl
      · exact .inr rfl
      · exact .inr rfl
  have V := V0.same hbl
  have RA := RA0.same hbl
  have la : Cu (.pointer (some ⟨A, 1, none⟩)) h' = .ok w h' := by rw [Am]; exact RA.load1 (off := 1) (by simp)
  by_cases hlt : i < zs.length
  · obtain ⟨a, g1, g2⟩ := V.int hlt
    have c1 : iLt (i : Int) (zs.length : Int) = true := by rw [As]; simp; omega
    by_cases z0 : zs.getD i 0 < 0
    · right
      have c2 : iLt (zs.getD i 0) 0 = true := by rw [As]; simpa using z0
      have hrun : ∃ e2, rtB F e' h' = .ret e2 h' ∧ AB 4 e2 = .bool false := by
        unfold rtB
        simp only [sT, Nat.reduceLT, Nat.reduceEqDiff, if_true, if_false, reduceIte, gD, AW, t2, Aj, Nat.zero_add, Ab, la, Al, V.ilen, AO, AN, t5, c1, BV, g1, g2, c2]
        exact ⟨_, rfl, by simp [AE]⟩
      obtain ⟨e2, r1, r2⟩ := hrun
      rw [r1]
      exact ⟨rfl, .inr ⟨e2, _, rfl, hh, r2, fun h => by have := h i hlt; omega⟩⟩
    have c2 : iLt (zs.getD i 0) 0 = false := by rw [As]; simpa using z0
    by_cases z1 : 256 ≤ zs.getD i 0
    · right
      have c3 : iGe (zs.getD i 0) 256 = true := by rw [Cl]; simpa using z1
      have hrun : ∃ e2, rtB F e' h' = .ret e2 h' ∧ AB 4 e2 = .bool false := by
        unfold rtB
        simp only [sT, Nat.reduceLT, Nat.reduceEqDiff, if_true, if_false, reduceIte, gD, AW, t2, Aj, Nat.zero_add, Ab, la, Al, V.ilen, AO, AN, t5, c1, BV, g1, g2, c2, t1, c3]
        exact ⟨_, rfl, by simp [AE]⟩
      obtain ⟨e2, r1, r2⟩ := hrun
      rw [r1]
      exact ⟨rfl, .inr ⟨e2, _, rfl, hh, r2, fun h => by have := h i hlt; omega⟩⟩
    have c3 : iGe (zs.getD i 0) 256 = false := by rw [Cl, decide_eq_false]; exact z1
    have pre : ∃ e2, rtB F e' h' = Hi (DT 1 (rtL F e2 h')) (cOp (AC 41) (A4 .i64 (Ai .i64) (AB 5) (kV (.int .i64 1))) (cOp (AC 5) (AD (AB 41)) Ac)) F ∧ AB 2 e2 = .pointer (some ⟨A, 0, none⟩) ∧ AB 1 e2 = .int .i64 256 ∧ AB 5 e2 = .int .i64 (i : Int) ∧ AB 6 e2 = .int .i64 0 := by
      unfold rtB
      simp only [sT, Nat.reduceLT, Nat.reduceEqDiff, if_true, if_false, reduceIte, gD, AW, t2, Aj, Nat.zero_add, Ab, la, Al, V.ilen, AO, AN, t5, c1, BV, g1, g2, c2, t1, c3]
      exact ⟨_, rfl, by simp only [AE, Nat.reduceLT, Nat.reduceEqDiff, if_true, if_false, reduceIte]; exact t2, by simp only [AE, Nat.reduceLT, Nat.reduceEqDiff, if_true, if_false, reduceIte]; exact t1, by simp only [AE, Nat.reduceLT, Nat.reduceEqDiff, if_true, if_false, reduceIte]; exact t5, by simp [AE]⟩
    obtain ⟨e2, p1, p2, p3, p4, p5⟩ := pre
    rcases Sx (F := F) (h0 := h') (.inl rfl) V RA hl hlt p2 p3 p4 p5 with ⟨e3, h3, q1, q2, q3, q4, q5, q6⟩ | ⟨e3, h3, q1, q2, q3, q4⟩
    · left
      have a3 : Ci .i64 (.int .i64 (i : Int)) (.int .i64 1) h3 = .ok (.int .i64 ((i + 1 : Nat) : Int)) h3 := by
        have : (i : Int) + 1 = ((i + 1 : Nat) : Int) := by omega
        rw [Bc, this, BJ (by omega)]
      have hrun : ∃ e4, rtB F e' h' = .norm e4 h3 ∧ AB 1 e4 = .int .i64 256 ∧ AB 2 e4 = .pointer (some ⟨A, 0, none⟩) ∧ AB 5 e4 = .int .i64 ((i + 1 : Nat) : Int) := by
        rw [p1, Sv]
        simp only [Aq, q1, BA, Ce, BH, BX, BZ, Bb, q5, Br, a3, A5, FA, AE, Nat.reduceLT, Nat.reduceEqDiff, if_true, if_false, reduceIte]
        exact ⟨_, rfl, by simp only [AE, Nat.reduceLT, Nat.reduceEqDiff, if_true, if_false, reduceIte]; exact q4, by simp only [AE, Nat.reduceLT, Nat.reduceEqDiff, if_true, if_false, reduceIte]; exact q3, by simp [AE]⟩
      obtain ⟨e4, r1, r2, r3, r4⟩ := hrun
      refine ⟨hlt, e4, h3, r1, hm h3 q2, r2, r3, r4, hlt, fun j h1 => ?_⟩
      rcases Nat.lt_or_eq_of_le (Nat.le_of_lt_succ h1) with h2 | h2
      · exact hj j h2
      · rw [h2]; exact ⟨Int.not_lt.1 z0, Int.not_le.1 z1, q6⟩
    · right
      have hrun : rtB F e' h' = .ret e3 h3 := by
        rw [p1, Sv]
        simp only [Aq, q1, BL, Bw]
      rw [hrun]
      exact ⟨rfl, .inr ⟨e3, h3, rfl, hm h3 q2, q3, fun h => (h i hlt).2.2 q4⟩⟩
  · right
    have c1 : iLt (i : Int) (zs.length : Int) = false := by rw [As]; simp; omega
    have hrun : ∃ e2, rtB F e' h' = .exit 0 e2 h' := by
      unfold rtB
      simp only [sT, Nat.reduceLT, Nat.reduceEqDiff, if_true, if_false, reduceIte, AW, t2, Aj, Nat.zero_add, Ab, la, Al, V.ilen, AO, AN, t5, c1]
      exact ⟨_, rfl⟩
    obtain ⟨e2, r1⟩ := hrun
    rw [r1]
    have : i = zs.length := by omega
    subst this
    exact ⟨rfl, .inl ⟨e2, h', rfl, hh, hj⟩⟩
theorem Nv {n : Nat} {h : Hp} (W : h.Wf) {ep : Int} {w : Value} {zs : List Int} (V : h.Nod w zs) : ∃ r h', call AG (n + 1) 54 [plV ep w, .int .i64 256] h = .ok (.bool r) h' ∧ h.Ext h' ∧ (r = true ↔ okP ep zs) := by
  have R := Hp.Row.new W 0 [.int .i64 ep, w]
  have x1 := DK W (ep := ep) (w := w)
  have hbx : ∀ e : Env, AB 0 e = plV ep w → Bu (AB 0) (call AG n) e h = .ok (.pointer (some ⟨h.next, 0, none⟩)) (h.pushRow 0 [.int .i64 ep, w]) := fun e he => GY W he
  have o1 := V.ext W x1
  generalize h.pushRow 0 [.int .i64 ep, w] = g at R x1 hbx o1
  have l0 : load1 ⟨h.next, 0, none⟩ g = .ok (.int .i64 ep) g := R.load1 (off := 0) (by simp)
  have l1 : load1 ⟨h.next, 1, none⟩ g = .ok w g := R.load1 (off := 1) (by simp)
  have c1 : iLt 256 1 = false := rfl
  have c2 : iGt 256 256 = false := rfl
  have no : ¬ okP ep zs → (∃ e1 g', Ka (call AG n) (Ak e0 0 [plV ep w, .int .i64 256]) h = .ret e1 g' ∧ AB 4 e1 = .bool false ∧ h.Ext g') → ∃ r h', call AG (n + 1) 54 [plV ep w, .int .i64 256] h = .ok (.bool r) h' ∧ h.Ext h' ∧ (r = true ↔ okP ep zs) := fun hn ⟨e1, g', q1, q2, q3⟩ => ⟨false, g', by
    rw [Qr rfl, RF, q1]
    simp only [AZ, Ap, q2], q3, ⟨(fun h => by cases h), fun h => (hn h).elim⟩⟩
  by_cases z1 : ep < 1
  · refine no (fun h => by have := h.1; omega) ?_
    have c3 : iLt ep 1 = true := by rw [As]; simpa using z1
    unfold Ka
    simp only [AK, AM, Nat.succ_eq_add_one, Nat.zero_add, Nat.reduceAdd, sT, Nat.reduceLT, Nat.reduceEqDiff, if_true, if_false, reduceIte, gD, hbx, AO, AN, c1, c2, AW, Aj, Ab, Am, l0, c3]
    exact ⟨_, _, rfl, by simp [AE], x1⟩
  have c3 : iLt ep 1 = false := by rw [As]; simp; omega
  by_cases z2 : 1099511627776 < ep
  · refine no (fun h => by have := h.2.1; omega) ?_
    have c4 : iGt ep 1099511627776 = true := by rw [BS]; simpa using z2
    unfold Ka
    simp only [AK, AM, Nat.succ_eq_add_one, Nat.zero_add, Nat.reduceAdd, sT, Nat.reduceLT, Nat.reduceEqDiff, if_true, if_false, reduceIte, gD, hbx, AO, AN, c1, c2, AW, Aj, Ab, Am, l0, c3, c4]
    exact ⟨_, _, rfl, by simp [AE], x1⟩
  have c4 : iGt ep 1099511627776 = false := by rw [BS]; simp; omega
  by_cases z3 : zs.length < 1
  · refine no (fun h => by have := h.2.2.1; omega) ?_
    have c5 : iLt (zs.length : Int) 1 = true := by rw [As]; simp; omega
    unfold Ka
    simp only [AK, AM, Nat.succ_eq_add_one, Nat.zero_add, Nat.reduceAdd, sT, Nat.reduceLT, Nat.reduceEqDiff, if_true, if_false, reduceIte, gD, hbx, AO, AN, c1, c2, AW, Aj, Ab, Am, l0, l1, c3, c4, Al, o1.ilen, c5]
    exact ⟨_, _, rfl, by simp [AE], x1⟩
  have c5 : iLt (zs.length : Int) 1 = false := by rw [As]; simp; omega
  by_cases z4 : 255 < zs.length
  · refine no (fun h => by have := h.2.2.2.1; omega) ?_
    have c6 : iGt (zs.length : Int) 255 = true := by rw [BS]; simp; omega
    unfold Ka
    simp only [AK, AM, Nat.succ_eq_add_one, Nat.zero_add, Nat.reduceAdd, sT, Nat.reduceLT, Nat.reduceEqDiff, if_true, if_false, reduceIte, gD, hbx, AO, AN, c1, c2, AW, Aj, Ab, Am, l0, l1, c3, c4, Al, o1.ilen, c5, c6]
    exact ⟨_, _, rfl, by simp [AE], x1⟩
  have c6 : iGt (zs.length : Int) 255 = false := by rw [BS]; simp; omega
  have pre : ∃ e1, Ka (call AG n) (Ak e0 0 [plV ep w, .int .i64 256]) h = rtS (call AG n) e1 g ∧ AB 1 e1 = .int .i64 256 ∧ AB 2 e1 = .pointer (some ⟨h.next, 0, none⟩) ∧ AB 5 e1 = .int .i64 0 := by
    unfold Ka
    simp only [AK, AM, Nat.succ_eq_add_one, Nat.zero_add, Nat.reduceAdd, BX, Bj, BZ, Ba, A5, Br, AE, Nat.reduceLT, Nat.reduceEqDiff, if_true, if_false, reduceIte, gD, hbx, AO, AN, c1, c2, AW, Aj, Ab, Am, l0, l1, c3, c4, Al, o1.ilen, c5, c6]
    exact ⟨_, rfl, by simp [AE], by simp [AE], by simp [AE]⟩
  obtain ⟨e1, p1, p2, p3, p4⟩ := pre
  have hx : ∀ g', g' = g ∨ g' = g.marked → h.Ext g' := fun g' hg => by
    rcases hg with rfl | rfl
    · exact x1
    · exact x1.marked
  rcases WJ (F := call AG n) (o1.vals (by omega)) R (by omega) p2 p3 p4 with ⟨e2, g', q1, q2, q3⟩ | ⟨e2, g', q1, q2, q3, q4⟩
  · refine ⟨true, g', ?_, hx g' q2, ⟨fun _ => ⟨by omega, by omega, by omega, by omega, q3⟩, fun _ => rfl⟩⟩
    rw [Qr rfl, RF, p1, Sw]
    simp only [BI, Aq, q1, BA, BH]
    unfold rtE
    simp only [sT, Nat.reduceLT, Nat.reduceEqDiff, if_true, if_false, reduceIte, AZ, Ap]
  · refine no (fun h => q4 h.2.2.2.2) ⟨e2, g', ?_, q3, hx g' q2⟩
    rw [p1, Sw]
    simp only [BI, Aq, q1, BL, Bw]
def alB : C := (cOp (AC 14) (Af (AB 0))
(cOp (AC 15) (AL iLt .i64 (AB 3) (AB 14))
(AP (AB 15)
(Ar (AX 1 (cOp (AC 20) (A9 2 (AB 0) (AB 3))
(cOp (AC 21) (Aa 2 (AB 20))
(cOp (AC 22) (AQ 54 [(AB 21), (kV (.int .i64 256))])
(cOp (AC 23) (B7 (AB 22))
(AP (AB 23)
(cOp (AC 2) (AD (kV (.bool false)))
Ae)
Ac))))))
(cOp (AC 17) (A4 .i64 (Ai .i64) (AB 3) (kV (.int .i64 1)))
(cOp (AC 3) (AD (AB 17))
Ac)))
(A7 0))))
def alE : C := (cOp (AC 2) (AD (kV (.bool true)))
Ae)
def alS : C := (Ar (AX 0 (Ao (cOp (AC 14) (Af (AB 0))
(cOp (AC 15) (AL iLt .i64 (AB 3) (AB 14))
(AP (AB 15)
(Ar (AX 1 (cOp (AC 20) (A9 2 (AB 0) (AB 3))
(cOp (AC 21) (Aa 2 (AB 20))
(cOp (AC 22) (AQ 54 [(AB 21), (kV (.int .i64 256))])
(cOp (AC 23) (B7 (AB 22))
(AP (AB 23)
(cOp (AC 2) (AD (kV (.bool false)))
Ae)
Ac))))))
(cOp (AC 17) (A4 .i64 (Ai .i64) (AB 3) (kV (.int .i64 1)))
(cOp (AC 3) (AD (AB 17))
Ac)))
(A7 0))))))
(cOp (AC 2) (AD (kV (.bool true)))
Ae))
theorem QP : alS = Ar (AX 0 (Ao alB)) alE := rfl
def RC : C := (cOp (AC 2) (AD (kV (.bool false)))
(cOp (AC 5) (Af (AB 0))
(cOp (AC 6) (AL iLt .i64 (AB 5) (kV (.int .i64 1)))
(cG (AB 6) false (AC 8) (AD (AB 0))
(cG (AB 6) false (AC 9) (Af (AB 8))
(cG (AB 6) false (AC 10) (AL iGt .i64 (AB 9) (kV (.int .i64 1000)))
(cOp (AC 11) (AS (AB 6) (kV (.bool true)) (AB 10))
(AP (AB 11)
(cOp (AC 2) (AD (kV (.bool false)))
Ae)
(cOp (AC 3) (AD (kV (.int .i64 0)))
alS)))))))))
def d49 : C := RC
theorem M8 {n : Nat} {args : List Value} {h : Hp} (hl : Nat.ble (Bk args) 320 = true) : call AG (Nat.succ n) 49 args h = Bs [.t (AB 2)] (d49 (call AG n) (Ak e0 0 args) h) := by
  have hb : AG.get 49 = some b49 := by kernel_rfl
  rw [BM hb]
  have hd : b49 = ⟨[.t (AB 2)], d49⟩ := by kernel_rfl
  rw [hd, BC hl]
theorem ND : d49 = RC := rfl
theorem Td {n : Nat} {h : Hp} (W : h.Wf) {v : Value} {ws : List Pw} (d : h.PlI v ws) (D : h.NdV ws) (hl : ws.length ≤ 1000) {e : Env} (s0 : AB 0 e = v) (s3 : AB 3 e = .int .i64 0) :
    (∃ e' h', Ao alB (call AG (n + 1)) e h = .exit 0 e' h' ∧ h.Ext h' ∧ ∀ x ∈ ws, okP x.1 x.2.2) ∨ (∃ e' h', Ao alB (call AG (n + 1)) e h = .ret e' h' ∧ h.Ext h' ∧ AB 2 e' = .bool false ∧ ¬ ∀ x ∈ ws, okP x.1 x.2.2) := by
  refine Bo (I := fun i e' h' => h.Ext h' ∧ AB 0 e' = v ∧ AB 3 e' = .int .i64 (i : Int) ∧ i ≤ ws.length ∧ ∀ x ∈ ws.take i, okP x.1 x.2.2)
    (Q := fun y => (∃ e' h', y = .exit 0 e' h' ∧ h.Ext h' ∧ ∀ x ∈ ws, okP x.1 x.2.2) ∨ (∃ e' h', y = .ret e' h' ∧ h.Ext h' ∧ AB 2 e' = .bool false ∧ ¬ ∀ x ∈ ws, okP x.1 x.2.2)) ws.length (by omega) (fun i e' h' ⟨x, t0, t3, hi, hok⟩ => ?_) ⟨.refl W, s0, s3, Nat.zero_le _, fun x hx => by cases hx⟩
  have ln : Ca v h' = .ok (.int .i64 (ws.length : Int)) h' := d.len
  by_cases hlt : i < ws.length
  · have hx : ws[i]? = some ws[i] := List.getElem?_eq_getElem hlt
    obtain ⟨a, ci, ld⟩ := (d.ext W x).at hx
    have hmem : ws[i] ∈ ws := List.getElem_mem hlt
    have htk : ws.take (i + 1) = ws.take i ++ [ws[i]] := by rw [List.take_add_one, hx]; rfl
    generalize ws[i] = y at ld htk hmem
    obtain ⟨r, g, k1, k2, k3⟩ := Nv (n := n) x.wf (ep := y.1) ((D y hmem).ext W x)
    have c1 : iLt (i : Int) (ws.length : Int) = true := by rw [As]; simp; omega
    cases r with
    | false =>
      right
      have hrun : ∃ e2, alB (call AG (n + 1)) e' h' = .ret e2 g ∧ AB 2 e2 = .bool false := by
        unfold alB
        simp only [sT, Nat.reduceLT, Nat.reduceEqDiff, if_true, if_false, reduceIte, Al, t0, ln, AO, AN, t3, c1, BV, ci, Ay, Aw, ld, Ah, AV, Ad, k1, Bf, Be, Bool.not_false]
        exact ⟨_, rfl, by simp [AE]⟩
      obtain ⟨e2, r1, r2⟩ := hrun
      rw [r1]
      exact ⟨rfl, .inr ⟨e2, g, rfl, x.trans k2, r2, fun h => by have := k3.2 (h y hmem); cases this⟩⟩
    | true =>
      left
      have a3 : Ci .i64 (.int .i64 (i : Int)) (.int .i64 1) g = .ok (.int .i64 ((i + 1 : Nat) : Int)) g := by
        have : (i : Int) + 1 = ((i + 1 : Nat) : Int) := by omega
        rw [Bc, this, BJ (by omega)]
      have hrun : ∃ e2, alB (call AG (n + 1)) e' h' = .norm e2 g ∧ AB 0 e2 = v ∧ AB 3 e2 = .int .i64 ((i + 1 : Nat) : Int) := by
        unfold alB
        simp only [sT, Nat.reduceLT, Nat.reduceEqDiff, if_true, if_false, reduceIte, Al, t0, ln, AO, AN, t3, c1, BV, ci, Ay, Aw, ld, Ah, AV, Ad, k1, Bf, Be, Bool.not_true, Bb, a3]
        exact ⟨_, rfl, by simp only [AE, Nat.reduceLT, Nat.reduceEqDiff, if_true, if_false, reduceIte]; exact t0, by simp [AE]⟩
      obtain ⟨e2, r1, r2, r3⟩ := hrun
      refine ⟨hlt, e2, g, r1, x.trans k2, r2, r3, hlt, fun z hz => ?_⟩
      rw [htk] at hz
      rcases List.mem_append.1 hz with hz | hz
      · exact hok z hz
      · rw [List.mem_singleton.1 hz]; exact k3.1 rfl
  · right
    have c1 : iLt (i : Int) (ws.length : Int) = false := by rw [As]; simp; omega
    have hrun : ∃ e2, alB (call AG (n + 1)) e' h' = .exit 0 e2 h' := by
      unfold alB
      simp only [sT, Nat.reduceLT, Nat.reduceEqDiff, if_true, if_false, reduceIte, Al, t0, ln, AO, AN, t3, c1]
      exact ⟨_, rfl⟩
    obtain ⟨e2, r1⟩ := hrun
    rw [r1]
    rw [List.take_of_length_le (by omega)] at hok
    exact ⟨rfl, .inl ⟨e2, h', rfl, x, hok⟩⟩
theorem Te {n : Nat} {h : Hp} (W : h.Wf) {v : Value} {ws : List Pw} (d : h.PlI v ws) (D : h.NdV ws) (hl : ws.length ≤ 1000) : ∃ r h', call AG (n + 2) 49 [v] h = .ok (.bool r) h' ∧ h.Ext h' ∧ (r = true ↔ Eu ws) := by
  have ln : ∀ g : Hp, Ca v g = .ok (.int .i64 (ws.length : Int)) g := fun _ => d.len
  have c2 : iGt (ws.length : Int) 1000 = false := by rw [BS]; simp; omega
  by_cases hp : 1 ≤ ws.length
  · have c1 : iLt (ws.length : Int) 1 = false := by rw [As]; simp; omega
    have pre : ∃ e1, RC (call AG (n + 1)) (Ak e0 0 [v]) h = alS (call AG (n + 1)) e1 h ∧ AB 0 e1 = v ∧ AB 3 e1 = .int .i64 0 := by
      unfold RC
      simp only [AK, AM, Nat.succ_eq_add_one, Nat.zero_add, Nat.reduceAdd, BX, Bj, BZ, Ba, A5, Br, AE, Nat.reduceLT, Nat.reduceEqDiff, if_true, if_false, reduceIte, gD, Al, ln, AO, AN, c1, c2]
      exact ⟨_, rfl, by simp [AE], by simp [AE]⟩
    obtain ⟨e1, p1, p2, p3⟩ := pre
    rcases Td (n := n) W d D hl p2 p3 with ⟨e2, g', q1, q2, q3⟩ | ⟨e2, g', q1, q2, q3, q4⟩
    · refine ⟨true, g', ?_, q2, ⟨fun _ => ⟨hp, hl, q3⟩, fun _ => rfl⟩⟩
      rw [M8 rfl, ND, p1, QP]
      simp only [BI, Aq, q1, BA, BH]
      unfold alE
      simp only [sT, Nat.reduceLT, Nat.reduceEqDiff, if_true, if_false, reduceIte, AZ, Ap]
    · refine ⟨false, g', ?_, q2, ⟨(fun h => by cases h), fun h => (q4 h.2.2).elim⟩⟩
      rw [M8 rfl, ND, p1, QP]
      simp only [BI, Aq, q1, BL, Bw, AZ, Ap, q3]
  · have c1 : iLt (ws.length : Int) 1 = true := by rw [As]; simp; omega
    refine ⟨false, h, ?_, .refl W, ⟨(fun h => by cases h), fun h => (hp h.1).elim⟩⟩
    rw [M8 rfl, ND]
    unfold RC
    simp only [AK, AM, Nat.succ_eq_add_one, Nat.zero_add, Nat.reduceAdd, sT, Nat.reduceLT, Nat.reduceEqDiff, if_true, if_false, reduceIte, gD, Al, ln, AO, AN, c1, AZ, Ap]
end
end Go.Proofs.Ytkafejncffinmaa
set_option linter.unusedVariables false
set_option linter.unusedSimpArgs false
namespace Go.Proofs.Ytkafejncffinmaa
noncomputable section
open Go
set_option maxRecDepth 100000
def Hp.Own2 (h : Hp) (k : Nat) (v : Value) (cs : List Value) (n : Nat) : Prop := (v = .slice none 0 0 ∧ cs = [] ∧ n = 0) ∨ ∃ b, v = .slice (some ⟨b, 0, none⟩) n n ∧ h.Row b 38 cs ∧ cs.length = n * 2 ∧ k ≤ b ∧ 256 ≤ b
theorem Hp.Own2.keep {h h' : Hp} {k n : Nat} {v : Value} {cs : List Value} (o : h.Own2 k v cs n) (hk : ∀ b el L, B2 v b → h.Row b el L → h'.Row b el L) : h'.Own2 k v cs n := by
  rcases o with h1 | ⟨b, h1, h2, h3⟩
  · exact .inl h1
  · exact .inr ⟨b, h1, hk b _ _ ⟨0, _, _, h1⟩ h2, h3⟩
theorem Hp.Own2.ext {h h' : Hp} {k n : Nat} {v : Value} {cs : List Value} (o : h.Own2 k v cs n) (W : h.Wf) (x : h.Ext h') : h'.Own2 k v cs n := o.keep fun _ _ _ _ r => r.ext W x
theorem Hp.Own2.other {h : Hp} {k n b el : Nat} {v : Value} {cs L : List Value} (o : h.Own2 k v cs n) (r : h.Row b el L) (he : el ≠ 38) : ¬ B2 v b := by
  rcases o with ⟨rfl, _⟩ | ⟨c, rfl, rc, _⟩
  · exact DS
  · exact Dp (Cy r rc he)
theorem Hp.Own2.len {h g : Hp} {k n : Nat} {v : Value} {cs : List Value} (o : h.Own2 k v cs n) : Ca v g = .ok (.int .i64 (n : Int)) g := by
  rcases o with ⟨rfl, _, rfl⟩ | ⟨b, rfl, _⟩ <;> rfl
theorem i7 {h : Hp} {b : Nat} {p q : Value} (r : h.Row b 0 [p, q]) {k : List Value → R} : Bp h 2 (.slice (some ⟨b, 0, none⟩) 1 1) 1 k = k [p, q] := by
  obtain ⟨cc, hc, hl⟩ := r.rowOf
  unfold Bp
  simp only [hc]
  have e : Nat.mul 1 2 = 2 := rfl
  rw [e]
  simp only [Nat.add_eq]
  rw [A0.2 (show 0 + 2 ≤ [p, q].length by simp)]
  simp only [cond_true, El, List.append_nil, Is.rowL hl 0 2 (by simp)]
  rfl
theorem Hl {F : CallF} {e : Env} {h : Hp} (W : h.Wf) {g : O} {p q : Value} (hv : g e = .agg ⟨[p, q]⟩) : AU 1 (BE D8.zero 1) [(0, 2, g)] F e h = .ok (.slice (some ⟨h.next, 0, none⟩) 1 1) (h.pushRow 0 [p, q]) := by
  have hz : BE D8.zero 1 = [.int .i64 0, .slice none 0 0] := by kernel_rfl
  have hc : cellsOf (.agg ⟨[p, q]⟩) = [p, q] := rfl
  rw [hz, EW, CV (hk := by rw [hv]; rfl), hv, hc, if_pos (show [p, q].length = 2 from rfl), if_pos (show 0 + 2 ≤ [Value.int .i64 0, .slice none 0 0].length from Nat.le_refl _), BU, FI W]; rfl
theorem JD {h0 h : Hp} {k n : Nat} {v p q : Value} {cs : List Value} (x0 : h0.Ext h) (hk : h0.next ≤ k) (hk2 : k ≤ h.next) (o : h.Own2 k v cs n) (ha : CR [p, q] = true) (hn : n ≤ 100000) :
    ∃ h' v', Gd 2 32 37 v (.slice (some ⟨h.next, 0, none⟩) 1 1) (h.pushRow 0 [p, q]) = .ok v' h' ∧ h0.Ext h' ∧ h'.Own2 k v' (cs ++ [p, q]) (n + 1) ∧ h'.next = h.next + 2 ∧ ∀ b el L, ¬ B2 v b → h.Row b el L → h'.Row b el L ∧ ¬ B2 v' b := by
  have W0 := x0.wf
  have x1 := x0.pushRow 0 [p, q]
  have y1 := (Hp.Ext.refl W0).pushRow 0 [p, q]
  have r1 := Hp.Row.new W0 0 [p, q]
  have n1 : (h.pushRow 0 [p, q]).next = h.next + 1 := rfl
  have o1 := o.ext W0 y1
  generalize hg : h.pushRow 0 [p, q] = g at x1 y1 r1 n1 o1
  have W := x1.wf
  have sr : ∀ k : List Value → R, Bp g 2 (.slice (some ⟨h.next, 0, none⟩) 1 1) 1 k = k [p, q] := fun k => i7 r1
  have lv : lenV (.slice (some ⟨h.next, 0, none⟩) 1 1) = .ok 1 := rfl
  rcases o1 with ⟨rfl, rfl, rfl⟩ | ⟨b, rfl, r, hlen, hb, hb2⟩
  · obtain ⟨t1, t2⟩ := GW [p, q]
    refine ⟨g.push (.cells (ofL [p, q]) 2 38), .slice (some ⟨g.next, 0, none⟩) 1 1, ?_, x1.push _, .inr ⟨g.next, rfl, ⟨ofL [p, q], by rw [W.push_get, if_pos rfl]; rfl, t2⟩, rfl, by omega, W.big⟩, by show g.next + 1 = _; omega, fun b' el' L' _ r' => ⟨(r'.ext W0 y1).push W _, Dp (by have := r'.lt W0; omega)⟩⟩
    unfold Gd Dn
    simp only [lv, sr, Av, Nat.add_eq, Nat.zero_add]
    have e1 : Nat.ble 1 0 = false := rfl
    have e2 : Nat.ble (Nat.mul (Nat.succ 1) (Nat.succ 32)) most = true := A0.2 (by show 66 ≤ 1099511627776; omega)
    simp only [e2, cond_true, ha]
    unfold Gt Bp Hs
    simp only [List.nil_append, t1]
    unfold Em
    simp only [Bh]
    unfold CX
    rw [Av, DO W]; rfl
  · obtain ⟨cc, hcc, hl⟩ := r.rowOf
    obtain ⟨t, h2, h3⟩ := EP [p, q] cc cs cs.length hl (.inr rfl)
    have h3 : t.Is (cs ++ [p, q]) := by
      have e : cs.drop (cs.length + [p, q].length) = [] := List.drop_of_length_le (by omega)
      rw [e] at h3
      simpa using h3
    have hlen2 : (cs ++ [p, q]).length = cs.length + 2 := List.length_append
    have hlt := r.lt W
    have W1 : (g.put b .dead).Wf := W.put hlt _
    have x2 : h0.Ext (g.put b .dead) := x1.put (by omega) hlt _
    refine ⟨(g.put b .dead).push (.cells t (cs.length + 2) 38), .slice (some ⟨g.next, 0, none⟩) (n + 1) (n + 1), ?_, x2.push _, .inr ⟨g.next, rfl, ⟨t, by
      have := W1.push_get (.cells t (cs.length + 2) 38) g.next
      rw [this, if_pos (show g.next = (g.put b .dead).next from rfl), hlen2], h3⟩, by rw [hlen2]; omega, by omega, W.big⟩, by show g.next + 1 = _; omega, fun b' el' L' hne r' => ?_⟩
    · unfold Gd Dn
      simp only [lv, sr, Av, Nat.add_eq]
      have e1 : Nat.ble (n + 1) n = false := by
        cases e : Nat.ble (n + 1) n
        · rfl
        · have := A0.1 e; omega
      have e2 : Nat.ble (Nat.mul (Nat.succ (n + 1)) (Nat.succ 32)) most = true := A0.2 (by show (n + 1 + 1) * 33 ≤ 1099511627776; omega)
      rw [e1]
      simp only [e2, cond_true, ha]
      unfold Gt
      have e3 : Nat.beq cs.length (Nat.mul n 2) = true := A8.2 hlen
      simp only [hcc, e3, h2]
      unfold Em
      have e4 : Je 0 n 2 cs.length = true := by
        unfold Je
        cases n with
        | zero => rfl
        | succ m => exact A8.2 (by show 0 + (m + 1) * 2 = cs.length; omega)
      simp only [hcc, Bh, Nat.add_eq, Nat.beq_refl, cond_true, e4]
      rw [GF W hb2 hlt]
      unfold CX
      rw [Av, DO W1]; rfl
    · have hne' : b' ≠ b := fun e => hne ⟨0, _, _, by rw [e]⟩
      have hb' : b' < h.next := r'.lt W0
      obtain ⟨c', hc', hl'⟩ := r'.ext W0 y1
      refine ⟨⟨c', ?_, hl'⟩, Dp (by omega)⟩
      rw [W1.push_get, if_neg (by show b' ≠ g.next; omega), W.put_get hlt, if_neg hne', hc']
def mvA : C := (cOp (AC 56) (AF 1 (AB 14))
(cOp (AC 57) (AH (AB 56))
(cOp (AC 59) (AH (AB 5))
(cOp (AC 60) (A9 1 (AB 57) (AB 15))
(cDo (AY 1 (AB 60) (AB 59))
(cOp (AC 61) (AF 0 (AB 14))
(cOp (AC 62) (AH (AB 61))
(cOp (AC 63) (A4 .i64 (Ai .i64) (AB 62) (kV (.int .i64 1)))
(cOp (AC 64) (AF 0 (AB 14))
(cDo (AY 1 (AB 64) (AB 63))
(cOp (AC 67) (AU 1 (BE ty3.zero 1) [(0, 1, (AB 13))])
(cOp (AC 68) (Az 1 8 3 (AB 12) (AB 67))
(cOp (AC 12) (AD (AB 68))
Ac)))))))))))))
def U9 : C := (cOp (AC 70) (Aa 2 (AB 14))
(cOp (AC 71) (AU 1 (BE D8.zero 1) [(0, 2, (AB 70))])
(cOp (AC 72) (Az 2 32 37 (AB 11) (AB 71))
(cOp (AC 11) (AD (AB 72))
Ac))))
def mvE : C := (cOp (AC 6) (AD (AB 11))
(cOp (AC 7) (AD (AB 12))
(cOp (AC 8) (AD (kV (.int .i64 0)))
Ae)))
def Iw (e e2 : Env) : Prop := AB 4 e2 = AB 4 e ∧ AB 5 e2 = AB 5 e ∧ AB 14 e2 = AB 14 e ∧ AB 42 e2 = AB 42 e ∧ AB 43 e2 = AB 43 e ∧ AB 44 e2 = AB 44 e
theorem MI {zs : List Int} {j : Nat} {x : Int} (hj : j < zs.length) : over (ints .i64 zs) j [.int .i64 x] = ints .i64 (zs.set j x) := by
  show (ints .i64 zs).take j ++ [.int .i64 x] ++ (ints .i64 zs).drop (j + 1) = _
  rw [List.set_eq_take_append_cons_drop, if_pos hj]
  unfold ints
  rw [List.map_append, List.map_cons, List.map_take, List.map_drop, List.append_assoc]; rfl
theorem CU {g g2 : Hp} {k : Nat} {u : Value} {xs : List Value} (o : g.Own k 3 u xs) (hk : ∀ b L, B2 u b → g.Row b 4 L → g2.Row b 4 L) : g2.Own k 3 u xs := by
  rcases o with h1 | ⟨b, h1, h2, h3⟩
  · exact .inl h1
  · exact .inr ⟨b, h1, hk b _ ⟨0, _, _, h1⟩ h2, h3⟩
theorem aI {F : CallF} {hL g : Hp} {k c b5 n i j : Nat} {ep to_ : Int} {w vg vo : Value} {zs gs : List Int} {cs : List Value} (hL256 : 256 ≤ hL.next) (x : hL.Ext g) (hk : hL.next ≤ k) (hk2 : k ≤ g.next) (hc : k ≤ c) (Rc : g.Row c 0 [.int .i64 ep, w]) (R5 : g.Row b5 0 [.int .i64 to_]) (o : g.Own k 3 w (ints .i64 zs)) (G : g.Own k 3 vg (ints .i64 gs)) (hne : ∀ b, B2 w b → ¬ B2 vg b) (U : g.Own2 k vo cs n)
    (hj : j < zs.length) (hep : 0 ≤ ep ∧ ep < 1099511627776) (hgs : gs.length ≤ 100000) (hb5 : b5 < c) {e : Env} (s5 : AB 5 e = .pointer (some ⟨b5, 0, none⟩)) (s11 : AB 11 e = vo) (s12 : AB 12 e = vg) (s13 : AB 13 e = .int .i64 (i : Int)) (s14 : AB 14 e = .pointer (some ⟨c, 0, none⟩)) (s15 : AB 15 e = .int .i64 (j : Int)) :
    ∃ e2 g2 vg2, mvA F e g = .norm e2 g2 ∧ hL.Ext g2 ∧ g.next ≤ g2.next ∧ g2.Row c 0 [.int .i64 (ep + 1), w] ∧ g2.Own k 3 vg2 (ints .i64 (gs ++ [(i : Int)])) ∧ g2.Own2 k vo cs n ∧ g2.Own k 3 w (ints .i64 (zs.set j to_)) ∧ (∀ b, B2 w b → ¬ B2 vg2 b) ∧ (∀ b L, g.Row b 4 L → ¬ B2 w b → ¬ B2 vg b → g2.Row b 4 L ∧ ¬ B2 vg2 b) ∧ Iw e e2 ∧ AB 11 e2 = vo ∧ AB 12 e2 = vg2 := by
  have W := x.wf
  have big : 256 ≤ c := Nat.le_trans hL256 (Nat.le_trans hk hc)
  obtain ⟨b, hw⟩ := o.at (by rw [BG]; omega)
  rw [BG] at hw
  have Rw : g.Row b 4 (ints .i64 zs) ∧ k ≤ b ∧ 256 ≤ b := by
    rcases o with ⟨h1, _⟩ | ⟨b', h1, h2, h3, h4⟩
    · rw [hw] at h1; cases h1
    · rw [hw] at h1
      injection h1 with h1 _ _
      injection h1 with h1
      injection h1 with h1 _ _
      subst h1
      exact ⟨h2, h3, h4⟩
  obtain ⟨Rw, hkb, hb256⟩ := Rw
  have ne1 : c ≠ b := Cy Rc Rw (by omega)
  have ne5 : b5 ≠ b := Cy R5 Rw (by omega)
  have lw : load1 ⟨c, 1, none⟩ g = .ok w g := Rc.load1 (off := 1) (by simp)
  have l5 : load1 ⟨b5, 0, none⟩ g = .ok (.int .i64 to_) g := R5.load1 (off := 0) (by simp)
  have ci : ET 1 w (.int .i64 (j : Int)) g = .ok (.pointer (some ⟨b, j, none⟩)) g := by
    rw [hw]
    have := FE (h := g) (es := 1) (b := b) (off := 0) (c := zs.length) (k := .i64) hj
    rw [Nat.zero_add, Nat.mul_one] at this; exact this
  have ho : j + [Value.int .i64 to_].length ≤ (ints .i64 zs).length := by rw [BG]; simp; omega
  have st1 := Rw.storeR (n := 1) (off := j) W hb256 (v := .int .i64 to_) rfl ho rfl
  have x1 := Rw.wr_ext x (Nat.le_trans hk hkb) (off := j) (vs := cellsOf (.int .i64 to_)) ho
  have n1 := Rw.wr_next (off := j) (vs := cellsOf (.int .i64 to_)) ho
  have o1 : ∀ b' el L, b' ≠ b → g.Row b' el L → (g.wr b j (cellsOf (.int .i64 to_))).Row b' el L := fun b' el L hn r => Rw.wr_other W (off := j) (vs := cellsOf (.int .i64 to_)) ho r hn
  have Rc1 := o1 _ _ _ ne1 Rc
  have Rw1 := Rw.wr_self W (off := j) (vs := cellsOf (.int .i64 to_)) ho
  have G1 : (g.wr b j (cellsOf (.int .i64 to_))).Own k 3 vg (ints .i64 gs) := G.keep fun b' el L hb r => o1 b' el L (fun hx => hne b ⟨0, _, _, hw⟩ (hx ▸ hb)) r
  have U1 : (g.wr b j (cellsOf (.int .i64 to_))).Own2 k vo cs n := U.keep fun b' el L hb r => o1 b' el L (fun hx => U.other Rw (by omega) (hx ▸ hb)) r
  generalize g.wr b j (cellsOf (.int .i64 to_)) = g1 at st1 x1 n1 o1 Rc1 G1 U1 Rw1
  have Rw1 : g1.Row b 4 (over (ints .i64 zs) j [.int .i64 to_]) := Rw1
  rw [MI hj] at Rw1
  have le : load1 ⟨c, 0, none⟩ g1 = .ok (.int .i64 ep) g1 := Rc1.load1 (off := 0) (by simp)
  have ae : Ci .i64 (.int .i64 ep) (.int .i64 1) g1 = .ok (.int .i64 (ep + 1)) g1 := by rw [Bc, JR (by omega) (by omega)]
  have st2 := Rc1.storeR (n := 1) (off := 0) x1.wf big (v := .int .i64 (ep + 1)) rfl (by simp [cellsOf]) rfl
  have x2 := Rc1.wr_ext x1 (Nat.le_trans hk hc) (off := 0) (vs := cellsOf (.int .i64 (ep + 1))) (by simp [cellsOf])
  have n2 := Rc1.wr_next (off := 0) (vs := cellsOf (.int .i64 (ep + 1))) (by simp [cellsOf])
  have o2 : ∀ b' el L, b' ≠ c → g1.Row b' el L → (g1.wr c 0 (cellsOf (.int .i64 (ep + 1)))).Row b' el L := fun b' el L hn r => Rc1.wr_other x1.wf (off := 0) (vs := cellsOf (.int .i64 (ep + 1))) (by simp [cellsOf]) r hn
  have Rw2 := o2 _ _ _ ne1.symm Rw1
  have Rc2 := Rc1.wr_self x1.wf (off := 0) (vs := cellsOf (.int .i64 (ep + 1))) (by simp [cellsOf])
  have G2 : (g1.wr c 0 (cellsOf (.int .i64 (ep + 1)))).Own k 3 vg (ints .i64 gs) := G1.keep fun b' el L hb r => o2 b' el L (fun hx => G1.other Rc1 (by omega) (hx ▸ hb)) r
  have U2 : (g1.wr c 0 (cellsOf (.int .i64 (ep + 1)))).Own2 k vo cs n := U1.keep fun b' el L hb r => o2 b' el L (fun hx => U1.other Rc1 (by omega) (hx ▸ hb)) r
  generalize g1.wr c 0 (cellsOf (.int .i64 (ep + 1))) = g2 at st2 x2 n2 o2 Rc2 G2 U2 Rw2
  have Rc2 : g2.Row c 0 [.int .i64 (ep + 1), w] := Rc2
  have os : ∀ e : Env, AB 13 e = .int .i64 (i : Int) → AU 1 (BE ty3.zero 1) [(0, 1, AB 13)] F e g2 = .ok (.slice (some ⟨g2.next, 0, none⟩) 1 1) (g2.pushRow 0 [.int .i64 (i : Int)]) := fun e he => by rw [Hz]; exact Cn x2.wf he rfl rfl
  obtain ⟨g3, vg2, a1, a2, a3, a4, a5⟩ := Dt (eb := 8) (n := (i : Int)) (kd := .i64) x2 hk (by omega) G2 (by rw [BG]; omega)
  have a3 : g3.Own k 3 vg2 (ints .i64 (gs ++ [(i : Int)])) := by unfold ints; rw [List.map_append]; exact a3
  have Rc3 := (a5 _ _ _ (G2.other Rc2 (by omega)) Rc2).1
  have U3 : g3.Own2 k vo cs n := by
    rcases U2 with h1 | ⟨b', h1, h2, h3⟩
    · exact .inl h1
    · exact .inr ⟨b', h1, (a5 _ _ _ (G2.other h2 (by omega)) h2).1, h3⟩
  have hnb : ¬ B2 vg b := hne b ⟨0, _, _, hw⟩
  obtain ⟨Rw3, hnb3⟩ := a5 _ _ _ hnb Rw2
  have hrun : ∃ e2, mvA F e g = .norm e2 g3 ∧ Iw e e2 ∧ AB 11 e2 = vo ∧ AB 12 e2 = vg2 := by
    unfold mvA Iw
    simp only [sT, Nat.reduceLT, Nat.reduceEqDiff, if_true, if_false, reduceIte, AW, s14, Aj, Ab, Am, Nat.zero_add, lw, s5, l5, BV, s15, ci, Au, st1, le, Bb, ae, st2, os, s13, Bv, s12, a1]
    exact ⟨_, rfl, ⟨by simp [AE], by simp only [AE, Nat.reduceLT, Nat.reduceEqDiff, if_true, if_false, reduceIte, s5], by simp only [AE, Nat.reduceLT, Nat.reduceEqDiff, if_true, if_false, reduceIte, s14], by simp [AE], by simp [AE], by simp [AE]⟩, by simp only [AE, Nat.reduceLT, Nat.reduceEqDiff, if_true, if_false, reduceIte]; exact s11, by simp [AE]⟩
  obtain ⟨e2, r1, r2, r3, r4⟩ := hrun
  refine ⟨e2, g3, vg2, r1, a2, by omega, Rc3, a3, U3, .inr ⟨b, by rw [BG, List.length_set]; exact hw, Rw3, hkb, hb256⟩, fun b' hb' => ?_, fun b' L r hb' hv' => ?_, r2, r3, r4⟩
  · obtain ⟨_, _, _, q⟩ := hb'
    rw [hw] at q
    injection q with q _ _
    injection q with q
    injection q with q _ _
    rw [← q]; exact hnb3
  · exact a5 _ _ _ hv' (o2 _ _ _ (Cy r Rc (by omega)) (o1 _ _ _ (fun hx => hb' ⟨0, _, _, by rw [hx]; exact hw⟩) r))
theorem Oi {F : CallF} {hL g : Hp} {k c n : Nat} {ep : Int} {w vg vo : Value} {gs : List Int} {cs : List Value} (x : hL.Ext g) (hk : hL.next ≤ k) (hk2 : k ≤ g.next) (Rc : g.Row c 0 [.int .i64 ep, w]) (hw : Bl w = true) (G : g.Own k 3 vg (ints .i64 gs)) (U : g.Own2 k vo cs n) (hn : n ≤ 100000)
    {e : Env} (s11 : AB 11 e = vo) (s12 : AB 12 e = vg) (s14 : AB 14 e = .pointer (some ⟨c, 0, none⟩)) :
    ∃ e2 g2 vo2, U9 F e g = .norm e2 g2 ∧ hL.Ext g2 ∧ g.next ≤ g2.next ∧ g2.Own k 3 vg (ints .i64 gs) ∧ g2.Own2 k vo2 (cs ++ [.int .i64 ep, w]) (n + 1) ∧ (∀ b L, g.Row b 4 L → g2.Row b 4 L) ∧ Iw e e2 ∧ AB 11 e2 = vo2 ∧ AB 12 e2 = vg := by
  have ld : loadN 2 ⟨c, 0, none⟩ g = .ok (.agg ⟨[.int .i64 ep, w]⟩) g := Rc.loadN (by simp)
  have ts : ∀ e : Env, AB 70 e = .agg ⟨[.int .i64 ep, w]⟩ → AU 1 (BE D8.zero 1) [(0, 2, AB 70)] F e g = .ok (.slice (some ⟨g.next, 0, none⟩) 1 1) (g.pushRow 0 [.int .i64 ep, w]) := fun e he => Hl x.wf he
  obtain ⟨g2, vo2, a1, a2, a3, a4, a5⟩ := JD x hk hk2 U (p := .int .i64 ep) (q := w) (by show (bif Bl w then true else false) = true; rw [hw]; rfl) hn
  have G2 : g2.Own k 3 vg (ints .i64 gs) := by
    rcases G with h1 | ⟨b, h1, h2, h3⟩
    · exact .inl h1
    · exact .inr ⟨b, h1, (a5 _ _ _ (U.other h2 (by omega)) h2).1, h3⟩
  have hrun : ∃ e2, U9 F e g = .norm e2 g2 ∧ Iw e e2 ∧ AB 11 e2 = vo2 ∧ AB 12 e2 = vg := by
    unfold U9 Iw
    simp only [sT, Nat.reduceLT, Nat.reduceEqDiff, if_true, if_false, reduceIte, Ay, s14, Aw, ld, ts, Bv, s11, a1]
    exact ⟨_, rfl, ⟨by simp [AE], by simp [AE], by simp only [AE, Nat.reduceLT, Nat.reduceEqDiff, if_true, if_false, reduceIte, s14], by simp [AE], by simp [AE], by simp [AE]⟩, by simp [AE], by simp only [AE, Nat.reduceLT, Nat.reduceEqDiff, if_true, if_false, reduceIte]; exact s12⟩
  obtain ⟨e2, r1, r2, r3, r4⟩ := hrun
  exact ⟨e2, g2, vo2, r1, a2, by omega, G2, a3, fun b L r => (a5 b 4 L (U.other r (by omega)) r).1, r2, r3, r4⟩
def mvP : C := (Ar (AP (AB 55)
(cOp (AC 56) (AF 1 (AB 14))
(cOp (AC 57) (AH (AB 56))
(cOp (AC 59) (AH (AB 5))
(cOp (AC 60) (A9 1 (AB 57) (AB 15))
(cDo (AY 1 (AB 60) (AB 59))
(cOp (AC 61) (AF 0 (AB 14))
(cOp (AC 62) (AH (AB 61))
(cOp (AC 63) (A4 .i64 (Ai .i64) (AB 62) (kV (.int .i64 1)))
(cOp (AC 64) (AF 0 (AB 14))
(cDo (AY 1 (AB 64) (AB 63))
(cOp (AC 67) (AU 1 (BE ty3.zero 1) [(0, 1, (AB 13))])
(cOp (AC 68) (Az 1 8 3 (AB 12) (AB 67))
(cOp (AC 12) (AD (AB 68))
Ac)))))))))))))
Ac)
(cOp (AC 70) (Aa 2 (AB 14))
(cOp (AC 71) (AU 1 (BE D8.zero 1) [(0, 2, (AB 70))])
(cOp (AC 72) (Az 2 32 37 (AB 11) (AB 71))
(cOp (AC 11) (AD (AB 72))
Ac)))))
theorem R8 : mvP = Ar (AP (AB 55) mvA Ac) U9 := rfl
def mvK : C := (cOp (AC 45) (AL iLt .i64 (AB 44) (AB 43))
(AP (AB 45)
(Ar (AX 2 (cOp (AC 47) (A9 2 (AB 42) (AB 44))
(cOp (AC 48) (Aa 2 (AB 47))
(cOp (AC 14) (At 2 DQ)
(cOp (AC 13) (AD (AB 44))
(cDo (AY 2 (AB 14) (AB 48))
(cOp (AC 49) (Aa 2 (AB 14))
(cOp (AC 50) (AQ 32 [(AB 49)])
(cDo (AY 2 (AB 14) (AB 50))
(cOp (AC 51) (Aa 2 (AB 14))
(cOp (AC 52) (AH (AB 4))
(cOp (AC 53) (AQ 11 [(AB 51), (AB 52)])
(cOp (AC 15) (AD (AB 53))
(cOp (AC 55) (AL iGe .i64 (AB 15) (kV (.int .i64 0)))
mvP))))))))))))))
(cOp (AC 73) (A4 .i64 (Ai .i64) (AB 44) (kV (.int .i64 1)))
(cOp (AC 44) (AD (AB 73))
Ac)))
(A7 1)))
def mvS : C := (Ar (AX 1 (Ao (cOp (AC 45) (AL iLt .i64 (AB 44) (AB 43))
(AP (AB 45)
(Ar (AX 2 (cOp (AC 47) (A9 2 (AB 42) (AB 44))
(cOp (AC 48) (Aa 2 (AB 47))
(cOp (AC 14) (At 2 DQ)
(cOp (AC 13) (AD (AB 44))
(cDo (AY 2 (AB 14) (AB 48))
(cOp (AC 49) (Aa 2 (AB 14))
(cOp (AC 50) (AQ 32 [(AB 49)])
(cDo (AY 2 (AB 14) (AB 50))
(cOp (AC 51) (Aa 2 (AB 14))
(cOp (AC 52) (AH (AB 4))
(cOp (AC 53) (AQ 11 [(AB 51), (AB 52)])
(cOp (AC 15) (AD (AB 53))
(cOp (AC 55) (AL iGe .i64 (AB 15) (kV (.int .i64 0)))
(Ar (AP (AB 55)
(cOp (AC 56) (AF 1 (AB 14))
(cOp (AC 57) (AH (AB 56))
(cOp (AC 59) (AH (AB 5))
(cOp (AC 60) (A9 1 (AB 57) (AB 15))
(cDo (AY 1 (AB 60) (AB 59))
(cOp (AC 61) (AF 0 (AB 14))
(cOp (AC 62) (AH (AB 61))
(cOp (AC 63) (A4 .i64 (Ai .i64) (AB 62) (kV (.int .i64 1)))
(cOp (AC 64) (AF 0 (AB 14))
(cDo (AY 1 (AB 64) (AB 63))
(cOp (AC 67) (AU 1 (BE ty3.zero 1) [(0, 1, (AB 13))])
(cOp (AC 68) (Az 1 8 3 (AB 12) (AB 67))
(cOp (AC 12) (AD (AB 68))
Ac)))))))))))))
Ac)
(cOp (AC 70) (Aa 2 (AB 14))
(cOp (AC 71) (AU 1 (BE D8.zero 1) [(0, 2, (AB 70))])
(cOp (AC 72) (Az 2 32 37 (AB 11) (AB 71))
(cOp (AC 11) (AD (AB 72))
Ac)))))))))))))))))))
(cOp (AC 73) (A4 .i64 (Ai .i64) (AB 44) (kV (.int .i64 1)))
(cOp (AC 44) (AD (AB 73))
Ac)))
(A7 1)))))
(cOp (AC 6) (AD (AB 11))
(cOp (AC 7) (AD (AB 12))
(cOp (AC 8) (AD (kV (.int .i64 0)))
Ae))))
theorem aJ : mvS = Ar (AX 1 (Ao mvK)) mvE := rfl
def grp (a : Int) : Nat → List Pw → List Int
  | _, [] => []
  | i, x :: l => if a ∈ x.2.2 then (i : Int) :: grp a (i + 1) l else grp a (i + 1) l
theorem aK {n : Nat} {hL h' : Hp} {k b4 i : Nat} {v : Value} {fr : Int} {ws : List Pw} {x : Pw} (W0 : hL.Wf) (ex : hL.Ext h') (hk : k = hL.next) (d : hL.PlI v ws) (D : hL.NdV ws) (R4 : hL.Row b4 0 [.int .i64 fr]) (hx : ws[i]? = some x) (hz : 0 < x.2.2.length) (hz2 : x.2.2.length ≤ 255) (hl : ws.length ≤ 1000)
    {m : Nat} {vo vg : Value} {cs : List Value} {gs : List Int} (U : h'.Own2 k vo cs m) (G : h'.Own k 3 vg (ints .i64 gs)) {e : Env} {b5 : Nat} (s4 : AB 4 e = .pointer (some ⟨b4, 0, none⟩)) (s5 : AB 5 e = .pointer (some ⟨b5, 0, none⟩)) (s11 : AB 11 e = vo) (s12 : AB 12 e = vg) (s42 : AB 42 e = v) (s43 : AB 43 e = .int .i64 (ws.length : Int)) (s44 : AB 44 e = .int .i64 (i : Int)) :
    ∃ e2 g c w, mvK (call AG (n + 2)) e h' = Hi (DT 2 (mvP (call AG (n + 2)) e2 g)) (cOp (AC 73) (A4 .i64 (Ai .i64) (AB 44) (kV (.int .i64 1))) (cOp (AC 44) (AD (AB 73)) Ac)) (call AG (n + 2)) ∧
      hL.Ext g ∧ h'.next ≤ g.next ∧ k ≤ c ∧ g.Row c 0 [.int .i64 x.1, w] ∧ g.Own k 3 w (ints .i64 x.2.2) ∧ g.Own k 3 vg (ints .i64 gs) ∧ (∀ b, B2 w b → ¬ B2 vg b) ∧ g.Own2 k vo cs m ∧ (∀ b L, h'.Row b 4 L → g.Row b 4 L ∧ ¬ B2 w b) ∧
      AB 4 e2 = .pointer (some ⟨b4, 0, none⟩) ∧ AB 5 e2 = .pointer (some ⟨b5, 0, none⟩) ∧ AB 11 e2 = vo ∧ AB 12 e2 = vg ∧ AB 13 e2 = .int .i64 (i : Int) ∧ AB 14 e2 = .pointer (some ⟨c, 0, none⟩) ∧ AB 15 e2 = .int .i64 (C1 fr 0 x.2.2) ∧ AB 55 e2 = .bool (decide (fr ∈ x.2.2)) ∧
      AB 42 e2 = v ∧ AB 43 e2 = .int .i64 (ws.length : Int) ∧ AB 44 e2 = .int .i64 (i : Int) := by
  have W := ex.wf
  have hlt : i < ws.length := (List.getElem?_eq_some_iff.1 hx).1
  have big : 256 ≤ hL.next := W0.big
  have hxm : x ∈ ws := List.mem_of_getElem? hx
  obtain ⟨aa, ci, ld⟩ := (d.ext W0 ex).at hx
  have Dx := D x hxm
  obtain ⟨ux1, ux2⟩ := Dx.cells hz
  have x1 := ex.push (.cells DQ 2 0)
  have y1 := (Hp.Ext.refl W).push (.cells DQ 2 0)
  have Rc : (h'.push (.cells DQ 2 0)).Row h'.next 0 [.int .i64 0, .slice none 0 0] := Hp.Row.alloc W LC rfl
  have al := fun (e : Env) => Bz (F := call AG (n + 2)) (e := e) (n := 2) (t := DQ) W
  have n1 : (h'.push (.cells DQ 2 0)).next = h'.next + 1 := rfl
  have U1 := U.ext W y1
  have G1 := G.ext W y1
  generalize h'.push (.cells DQ 2 0) = h1 at x1 y1 Rc al n1 U1 G1
  have ho : 0 + (cellsOf (plV x.1 x.2.1)).length ≤ [Value.int .i64 0, .slice none 0 0].length := by simp [plV, Ax]
  have hcx : h'.next ≥ hL.next := ex.next
  have st1 := Rc.storeR (n := 2) (off := 0) x1.wf (by omega) (v := plV x.1 x.2.1) rfl ho (by show (bif Bl x.2.1 then true else false) = true; rw [ux2]; rfl)
  have x2 := Rc.wr_ext x1 hcx (off := 0) (vs := cellsOf (plV x.1 x.2.1)) ho
  have n2 := Rc.wr_next (off := 0) (vs := cellsOf (plV x.1 x.2.1)) ho
  have o2 : ∀ b' el L, b' ≠ h'.next → h1.Row b' el L → (h1.wr h'.next 0 (cellsOf (plV x.1 x.2.1))).Row b' el L := fun b' el L hn r => Rc.wr_other x1.wf (off := 0) (vs := cellsOf (plV x.1 x.2.1)) ho r hn
  have Rc2 := Rc.wr_self x1.wf (off := 0) (vs := cellsOf (plV x.1 x.2.1)) ho
  have U2 := U1.keep fun b' el L hb r => o2 b' el L (fun hx => U1.other Rc (by omega) (hx ▸ hb)) r
  have G2 := G1.keep fun b' el L hb r => o2 b' el L (fun hx => G1.other Rc (by omega) (hx ▸ hb)) r
  generalize h1.wr h'.next 0 (cellsOf (plV x.1 x.2.1)) = h2 at st1 x2 n2 o2 Rc2 U2 G2
  have Rc2 : h2.Row h'.next 0 [.int .i64 x.1, x.2.1] := Rc2
  have l1 : loadN 2 ⟨h'.next, 0, none⟩ h2 = .ok (plV x.1 x.2.1) h2 := Rc2.loadN (by simp)
  obtain ⟨h3, w, k1, x3, O3, n3, f3⟩ := aV (n := n) x2 (k := k) (by omega) (ep := x.1) ((Dx.ext W0 x2).vals hz) hz (by omega)
  have Rc3 := (f3 _ _ _ Rc2).1
  have U3 := U2.keep fun b' el L hb r => (f3 b' el L r).1
  have G3 := G2.keep fun b' el L hb r => (f3 b' el L r).1
  have hne : ∀ b, B2 w b → ¬ B2 vg b := fun b hb hg => by
    rcases G2 with ⟨h1, _⟩ | ⟨b', h1, r, _⟩
    · obtain ⟨_, _, _, hg⟩ := hg
      rw [h1] at hg; cases hg
    · obtain ⟨_, _, _, hg⟩ := hg
      rw [h1] at hg
      injection hg with hg _ _
      injection hg with hg
      injection hg with hg _ _
      subst hg
      exact (f3 _ _ _ r).2 hb
  obtain ⟨w1, w2⟩ := O3.vals.cells1
  have ho4 : 0 + (cellsOf (plV x.1 w)).length ≤ [Value.int .i64 x.1, x.2.1].length := by simp [plV, Ax]
  have st2 := Rc3.storeR (n := 2) (off := 0) x3.wf (by omega) (v := plV x.1 w) rfl ho4 (by show (bif Bl w then true else false) = true; rw [w2]; rfl)
  have x4 := Rc3.wr_ext x3 hcx (off := 0) (vs := cellsOf (plV x.1 w)) ho4
  have n4 := Rc3.wr_next (off := 0) (vs := cellsOf (plV x.1 w)) ho4
  have o4 : ∀ b' el L, b' ≠ h'.next → h3.Row b' el L → (h3.wr h'.next 0 (cellsOf (plV x.1 w))).Row b' el L := fun b' el L hn r => Rc3.wr_other x3.wf (off := 0) (vs := cellsOf (plV x.1 w)) ho4 r hn
  have Rc4 := Rc3.wr_self x3.wf (off := 0) (vs := cellsOf (plV x.1 w)) ho4
  have U4 := U3.keep fun b' el L hb r => o4 b' el L (fun hx => U3.other Rc3 (by omega) (hx ▸ hb)) r
  have G4 := G3.keep fun b' el L hb r => o4 b' el L (fun hx => G3.other Rc3 (by omega) (hx ▸ hb)) r
  have O4 := O3.keep fun b' el L hb r => o4 b' el L (fun hx => O3.other Rc3 (by omega) (hx ▸ hb)) r
  generalize h3.wr h'.next 0 (cellsOf (plV x.1 w)) = h4 at st2 x4 n4 o4 Rc4 U4 G4 O4
  have Rc4 : h4.Row h'.next 0 [.int .i64 x.1, w] := Rc4
  have l2 : loadN 2 ⟨h'.next, 0, none⟩ h4 = .ok (plV x.1 w) h4 := Rc4.loadN (by simp)
  have l4 : load1 ⟨b4, 0, none⟩ h4 = .ok (.int .i64 fr) h4 := (R4.ext W0 x4).load1 (off := 0) (by simp)
  have k2 := Hg (n := n) (x := fr) x4.wf (ep := x.1) O4.vals (by omega)
  have y5 := DK x4.wf (ep := x.1) (w := w)
  have x5 := x4.trans y5
  have Rc5 := Rc4.ext x4.wf y5
  have U5 := U4.ext x4.wf y5
  have G5 := G4.ext x4.wf y5
  have O5 := O4.ext x4.wf y5
  have n5 := y5.next
  generalize h4.pushRow 0 [.int .i64 x.1, w] = h5 at k2 y5 x5 Rc5 U5 G5 O5 n5
  have c1 : iLt (i : Int) (ws.length : Int) = true := by rw [As]; simp; omega
  have hrun : ∃ e2, mvK (call AG (n + 2)) e h' = Hi (DT 2 (mvP (call AG (n + 2)) e2 h5)) (cOp (AC 73) (A4 .i64 (Ai .i64) (AB 44) (kV (.int .i64 1))) (cOp (AC 44) (AD (AB 73)) Ac)) (call AG (n + 2)) ∧
      AB 4 e2 = .pointer (some ⟨b4, 0, none⟩) ∧ AB 5 e2 = .pointer (some ⟨b5, 0, none⟩) ∧ AB 11 e2 = vo ∧ AB 12 e2 = vg ∧ AB 13 e2 = .int .i64 (i : Int) ∧ AB 14 e2 = .pointer (some ⟨h'.next, 0, none⟩) ∧ AB 15 e2 = .int .i64 (C1 fr 0 x.2.2) ∧ AB 55 e2 = .bool (decide (fr ∈ x.2.2)) ∧
      AB 42 e2 = v ∧ AB 43 e2 = .int .i64 (ws.length : Int) ∧ AB 44 e2 = .int .i64 (i : Int) := by
    unfold mvK
    simp only [BX, D9, Bj, BI, Aq, BZ, EB, CM, A5, Br, AE, Nat.reduceLT, Nat.reduceEqDiff, if_true, if_false, reduceIte, AO, AN, s44, s43, c1, BV, s42, ci, Ay, Aw, ld, al, Au, st1, l1, Ah, AV, Ad, k1, st2, l2, Ab, s4, Am, l4, k2, FU]
    exact ⟨_, rfl, by simp only [AE, Nat.reduceLT, Nat.reduceEqDiff, if_true, if_false, reduceIte]; exact s4, by simp only [AE, Nat.reduceLT, Nat.reduceEqDiff, if_true, if_false, reduceIte]; exact s5, by simp only [AE, Nat.reduceLT, Nat.reduceEqDiff, if_true, if_false, reduceIte]; exact s11, by simp only [AE, Nat.reduceLT, Nat.reduceEqDiff, if_true, if_false, reduceIte]; exact s12, by simp [AE], by simp [AE], by simp [AE], by simp [AE], by simp only [AE, Nat.reduceLT, Nat.reduceEqDiff, if_true, if_false, reduceIte]; exact s42, by simp only [AE, Nat.reduceLT, Nat.reduceEqDiff, if_true, if_false, reduceIte]; exact s43, by simp only [AE, Nat.reduceLT, Nat.reduceEqDiff, if_true, if_false, reduceIte]; exact s44⟩
  obtain ⟨e2, r⟩ := hrun
  refine ⟨e2, h5, h'.next, w, r.1, x5, by omega, by omega, Rc5, O5, G5, hne, U5, fun b L q => ?_, r.2⟩
  have hb := q.lt W
  obtain ⟨q3, q4⟩ := f3 b 4 L (o2 b 4 L (by omega) (q.ext W y1))
  exact ⟨(o4 b 4 L (by omega) q3).ext x4.wf y5, q4⟩
def shP (y : Pw) : Int × List Int := (y.1, y.2.2)
def Ev (fr to_ : Int) (x : Pw) : Int × List Int := if fr ∈ x.2.2 then (x.1 + 1, x.2.2.set (C1 fr 0 x.2.2).toNat to_) else (x.1, x.2.2)
theorem VA {n : Nat} {hL : Hp} {b4 b5 : Nat} {v : Value} {fr to_ : Int} {ws : List Pw} (W0 : hL.Wf) (d : hL.PlI v ws) (D : hL.NdV ws) (R4 : hL.Row b4 0 [.int .i64 fr]) (R5 : hL.Row b5 0 [.int .i64 to_]) (hok : ∀ x ∈ ws, okP x.1 x.2.2) (hno : ∀ x ∈ ws, ¬ Gv fr to_ x) (hl : ws.length ≤ 1000)
    {e : Env} (s4 : AB 4 e = .pointer (some ⟨b4, 0, none⟩)) (s5 : AB 5 e = .pointer (some ⟨b5, 0, none⟩)) (s11 : AB 11 e = .slice none 0 0) (s12 : AB 12 e = .slice none 0 0) (s42 : AB 42 e = v) (s43 : AB 43 e = .int .i64 (ws.length : Int)) (s44 : AB 44 e = .int .i64 0) :
    ∃ e2 g vo vg outs, Ao mvK (call AG (n + 2)) e hL = .exit 1 e2 g ∧ hL.Ext g ∧ g.Own2 hL.next vo (CC outs) ws.length ∧ g.Own hL.next 3 vg (ints .i64 (grp fr 0 ws)) ∧ (∀ y ∈ outs, g.Own hL.next 3 y.2.1 (ints .i64 y.2.2)) ∧ outs.map shP = ws.map (Ev fr to_) ∧ AB 11 e2 = vo ∧ AB 12 e2 = vg := by
  refine Bo (I := fun i e' h' => ∃ (vo vg : Value) (outs : List Pw) (gs : List Int), hL.Ext h' ∧ h'.Own2 hL.next vo (CC outs) i ∧ h'.Own hL.next 3 vg (ints .i64 gs) ∧ (∀ y ∈ outs, h'.Own hL.next 3 y.2.1 (ints .i64 y.2.2) ∧ ∀ b, B2 y.2.1 b → ¬ B2 vg b) ∧ outs.map shP = (ws.take i).map (Ev fr to_) ∧ gs ++ grp fr i (ws.drop i) = grp fr 0 ws ∧ gs.length ≤ i ∧ i ≤ ws.length ∧ AB 4 e' = .pointer (some ⟨b4, 0, none⟩) ∧ AB 5 e' = .pointer (some ⟨b5, 0, none⟩) ∧ AB 11 e' = vo ∧ AB 12 e' = vg ∧ AB 42 e' = v ∧ AB 43 e' = .int .i64 (ws.length : Int) ∧ AB 44 e' = .int .i64 (i : Int))
    (Q := fun y => ∃ e2 g vo vg outs, y = .exit 1 e2 g ∧ hL.Ext g ∧ g.Own2 hL.next vo (CC outs) ws.length ∧ g.Own hL.next 3 vg (ints .i64 (grp fr 0 ws)) ∧ (∀ y ∈ outs, g.Own hL.next 3 y.2.1 (ints .i64 y.2.2)) ∧ outs.map shP = ws.map (Ev fr to_) ∧ AB 11 e2 = vo ∧ AB 12 e2 = vg) ws.length (by omega)
    (fun i e' h' ⟨vo, vg, outs, gs, ex, U, G, hS, hM, hg, hgl, hi, t4, t5, t11, t12, t42, t43, t44⟩ => ?_) ⟨_, _, [], [], .refl W0, .inl ⟨rfl, rfl, rfl⟩, .inl ⟨rfl, rfl⟩, (fun y hy => by cases hy), rfl, rfl, Nat.le_refl _, Nat.zero_le _, s4, s5, s11, s12, s42, s43, s44⟩
  by_cases hlt : i < ws.length
  · left
    have hx : ws[i]? = some ws[i] := List.getElem?_eq_getElem hlt
    have hd : ws.drop i = ws[i] :: ws.drop (i + 1) := List.drop_eq_getElem_cons hlt
    have hxm : ws[i] ∈ ws := List.getElem_mem hlt
    rw [hd] at hg
    have htk : ws.take (i + 1) = ws.take i ++ [ws[i]] := by rw [List.take_add_one, hx]; rfl
    generalize ws[i] = x at hx hg hxm htk
    obtain ⟨p1, p2, p3, p4, p5⟩ := hok x hxm
    have hnx := hno x hxm
    have hg : gs ++ (if fr ∈ x.2.2 then (i : Int) :: grp fr (i + 1) (ws.drop (i + 1)) else grp fr (i + 1) (ws.drop (i + 1))) = grp fr 0 ws := hg
    obtain ⟨e2, g, c, w, r, x5, n5, hc, Rc, O, G5, hne, U5, hfr, q4, q5, q11, q12, q13, q14, q15, q55, q42, q43, q44⟩ := aK (n := n) W0 ex rfl d D R4 hx (by omega) p4 hl U G t4 t5 t11 t12 t42 t43 t44
    have hkn : hL.next ≤ g.next := x5.next
    have R5' := R5.ext W0 x5
    have hb5 : b5 < c := Nat.lt_of_lt_of_le (R5.lt W0) hc
    obtain ⟨w1, w2⟩ := O.vals.cells1
    have key : ∃ e3 g3 vo3 outs3 vg3 gs3, mvP (call AG (n + 2)) e2 g = .norm e3 g3 ∧ hL.Ext g3 ∧ g3.Own2 hL.next vo3 (CC outs3) (i + 1) ∧ g3.Own hL.next 3 vg3 (ints .i64 gs3) ∧ (∀ y ∈ outs3, g3.Own hL.next 3 y.2.1 (ints .i64 y.2.2) ∧ ∀ b, B2 y.2.1 b → ¬ B2 vg3 b) ∧ outs3.map shP = (ws.take (i + 1)).map (Ev fr to_) ∧ gs3 ++ grp fr (i + 1) (ws.drop (i + 1)) = grp fr 0 ws ∧ gs3.length ≤ i + 1 ∧ Iw e2 e3 ∧ AB 11 e3 = vo3 ∧ AB 12 e3 = vg3 := by
      by_cases hf : fr ∈ x.2.2
      · rw [decide_eq_true hf] at q55
        rw [if_pos hf] at hg
        obtain ⟨j, hj, hjz, _⟩ := Ki hf
        rw [hjz] at q15
        obtain ⟨e3, g3, vg3, a1, a2, a3, a4, a5, a6, aw, an, af, a7, a8, a9⟩ := aI (F := call AG (n + 2)) W0.big x5 (Nat.le_refl _) hkn hc Rc R5' O G5 hne U5 hj ⟨by omega, Classical.byContradiction fun hc => hnx ⟨hf, .inr (by omega)⟩⟩ (by omega) hb5 q5 q11 q12 q13 q14 q15
        obtain ⟨k4, k5, k14, k42, k43, k44⟩ := a7
        obtain ⟨e4, g4, vo4, b1, b2, b3, b4', b5', bf, b6, b7, b8⟩ := Oi (F := call AG (n + 2)) a2 (Nat.le_refl _) a2.next a4 w2 a5 a6 (by omega) a8 a9 (k14.trans q14)
        obtain ⟨m4, m5, m14, m42, m43, m44⟩ := b6
        refine ⟨e4, g4, vo4, outs ++ [(x.1 + 1, w, x.2.2.set j to_)], vg3, gs ++ [(i : Int)], ?_, b2, by rw [FD]; exact b5', b4', fun y hy => ?_, by rw [htk, List.map_append, List.map_append, hM]; show _ = _ ++ [Ev fr to_ x]; unfold Ev; rw [if_pos hf, hjz]; rfl, ?_, by rw [List.length_append, List.length_singleton]; omega, ⟨m4.trans k4, m5.trans k5, m14.trans k14, m42.trans k42, m43.trans k43, m44.trans k44⟩, b7, b8⟩
        · rw [R8]
          simp only [BI, Bj, q55, CM, a1, BH, b1]
        · rcases List.mem_append.1 hy with hy | hy
          · obtain ⟨s1, s2⟩ := hS y hy
            have o1 : g.Own hL.next 3 y.2.1 (ints .i64 y.2.2) := CU s1 fun b L hb r => (hfr b L r).1
            have o3 : g3.Own hL.next 3 y.2.1 (ints .i64 y.2.2) ∧ ∀ b, B2 y.2.1 b → ¬ B2 vg3 b := by
              rcases s1 with ⟨h1, h2⟩ | ⟨b, h1, h2, h3⟩
              · exact ⟨.inl ⟨h1, h2⟩, fun b hb => by rw [h1] at hb; exact (DS hb).elim⟩
              · obtain ⟨z1, z2⟩ := hfr b _ h2
                obtain ⟨z3, z4⟩ := af b _ z1 z2 (s2 b ⟨0, _, _, h1⟩)
                refine ⟨.inr ⟨b, h1, z3, h3⟩, fun b' hb' => ?_⟩
                obtain ⟨_, _, _, q⟩ := hb'
                rw [h1] at q
                injection q with q _ _
                injection q with q
                injection q with q _ _
                rw [← q]; exact z4
            exact ⟨CU o3.1 fun b L _ r => bf b L r, o3.2⟩
          · rw [List.mem_singleton.1 hy]
            exact ⟨CU aw fun b L _ r => bf b L r, an⟩
        · rw [List.append_assoc]; exact hg
      · rw [decide_eq_false hf] at q55
        rw [if_neg hf] at hg
        obtain ⟨e4, g4, vo4, b1, b2, b3, b4', b5', bf, b6, b7, b8⟩ := Oi (F := call AG (n + 2)) x5 (Nat.le_refl _) hkn Rc w2 G5 U5 (by omega) q11 q12 q14
        refine ⟨e4, g4, vo4, outs ++ [(x.1, w, x.2.2)], vg, gs, ?_, b2, by rw [FD]; exact b5', b4', fun y hy => ?_, by rw [htk, List.map_append, List.map_append, hM]; show _ = _ ++ [Ev fr to_ x]; unfold Ev; rw [if_neg hf]; rfl, hg, by omega, b6, b7, b8⟩
        rotate_left
        · rcases List.mem_append.1 hy with hy | hy
          · obtain ⟨s1, s2⟩ := hS y hy
            exact ⟨CU s1 fun b L hb r => bf b L (hfr b L r).1, s2⟩
          · rw [List.mem_singleton.1 hy]
            exact ⟨CU O fun b L _ r => bf b L r, hne⟩
        rw [R8]
        simp only [BI, Bj, q55, Ba, FA, BH, b1]
    obtain ⟨e3, g3, vo3, outs3, vg3, gs3, a1, a2, a3, a4, aS, aM, a5, a6, ⟨k4, k5, k14, k42, k43, k44⟩, a8, a9⟩ := key
    have z44 : AB 44 e3 = .int .i64 (i : Int) := k44.trans q44
    have ad : Ci .i64 (.int .i64 (i : Int)) (.int .i64 1) g3 = .ok (.int .i64 ((i + 1 : Nat) : Int)) g3 := by
      have : (i : Int) + 1 = ((i + 1 : Nat) : Int) := by omega
      rw [Bc, this, BJ (by omega)]
    have hrun : ∃ e4, mvK (call AG (n + 2)) e' h' = .norm e4 g3 ∧ AB 4 e4 = .pointer (some ⟨b4, 0, none⟩) ∧ AB 5 e4 = .pointer (some ⟨b5, 0, none⟩) ∧ AB 11 e4 = vo3 ∧ AB 12 e4 = vg3 ∧ AB 42 e4 = v ∧ AB 43 e4 = .int .i64 (ws.length : Int) ∧ AB 44 e4 = .int .i64 ((i + 1 : Nat) : Int) := by
      rw [r, a1]
      simp only [Ce, BH, BX, BZ, Bb, z44, Br, ad, A5, FA, AE, Nat.reduceLT, Nat.reduceEqDiff, if_true, if_false, reduceIte]
      exact ⟨_, rfl, by simp only [AE, Nat.reduceLT, Nat.reduceEqDiff, if_true, if_false, reduceIte]; exact k4.trans q4, by simp only [AE, Nat.reduceLT, Nat.reduceEqDiff, if_true, if_false, reduceIte]; exact k5.trans q5, by simp only [AE, Nat.reduceLT, Nat.reduceEqDiff, if_true, if_false, reduceIte]; exact a8, by simp only [AE, Nat.reduceLT, Nat.reduceEqDiff, if_true, if_false, reduceIte]; exact a9, by simp only [AE, Nat.reduceLT, Nat.reduceEqDiff, if_true, if_false, reduceIte]; exact k42.trans q42, by simp only [AE, Nat.reduceLT, Nat.reduceEqDiff, if_true, if_false, reduceIte]; exact k43.trans q43, by simp [AE]⟩
    obtain ⟨e4, w'⟩ := hrun
    exact ⟨hlt, e4, g3, w'.1, vo3, vg3, outs3, gs3, a2, a3, a4, aS, aM, a5, a6, hlt, w'.2.1, w'.2.2.1, w'.2.2.2.1, w'.2.2.2.2.1, w'.2.2.2.2.2.1, w'.2.2.2.2.2.2.1, w'.2.2.2.2.2.2.2⟩
  · right
    have c1 : iLt (i : Int) (ws.length : Int) = false := by rw [As]; simp; omega
    have hrun : ∃ e2, mvK (call AG (n + 2)) e' h' = .exit 1 e2 h' ∧ AB 11 e2 = vo ∧ AB 12 e2 = vg := by
      unfold mvK
      simp only [sT, Nat.reduceLT, Nat.reduceEqDiff, if_true, if_false, reduceIte, AO, AN, t44, t43, c1]
      exact ⟨_, rfl, by simp only [AE, Nat.reduceLT, Nat.reduceEqDiff, if_true, if_false, reduceIte]; exact t11, by simp only [AE, Nat.reduceLT, Nat.reduceEqDiff, if_true, if_false, reduceIte]; exact t12⟩
    obtain ⟨e2, r1, r2, r3⟩ := hrun
    rw [r1]
    have hi' : i = ws.length := by omega
    subst hi'
    rw [List.drop_of_length_le (Nat.le_refl _)] at hg
    have hg : gs ++ [] = grp fr 0 ws := hg
    rw [List.append_nil] at hg
    rw [hg] at G
    rw [List.take_length] at hM
    exact ⟨rfl, e2, h', vo, vg, outs, rfl, ex, U, G, fun y hy => (hS y hy).1, hM, r2, r3⟩
end
end Go.Proofs.Ytkafejncffinmaa
set_option linter.unusedVariables false
set_option linter.unusedSimpArgs false
namespace Go.Proofs.Ytkafejncffinmaa
noncomputable section
open Go
set_option maxRecDepth 100000
theorem NY {zs : List Int} (hn : zs.Nodup) {i : Nat} (hlt : i < zs.length) : zs.getD i 0 ∉ zs.take i := fun hm => by
  have e : zs = zs.take i ++ zs.getD i 0 :: zs.drop (i + 1) := by rw [← Gk hlt, List.take_append_drop]
  have hp : (zs.take i ++ zs.getD i 0 :: zs.drop (i + 1)).Pairwise (· ≠ ·) := by rw [← e]; exact hn
  exact (List.pairwise_append.1 hp).2.2 _ hm _ List.mem_cons_self rfl
def mvH : C := (cOp (AC 19) (AQ 47 [(AB 0)])
(cOp (AC 20) (B7 (AB 19))
(cOp (AC 17) (AD (AB 20))
(AP (AB 17)
(cOp (AC 6) (AD (kV (.slice none 0 0)))
(cOp (AC 7) (AD (kV (.slice none 0 0)))
(cOp (AC 8) (AD (kV (.int .i64 2)))
Ae)))
(cOp (AC 23) (AH (AB 4))
(cOp (AC 24) (CN (AB 9) [(AB 23)])
(cOp (AC 25) (B7 (AB 24))
(cG (AB 25) false (AC 27) (AD (AB 9))
(cG (AB 25) false (AC 28) (AH (AB 5))
(cG (AB 25) false (AC 29) (CN (AB 27) [(AB 28)])
(cG (AB 25) false (AC 30) (B7 (AB 29))
(cOp (AC 31) (AS (AB 25) (kV (.bool true)) (AB 30))
(cG (AB 31) false (AC 33) (AH (AB 4))
(cG (AB 31) false (AC 34) (AH (AB 5))
(cG (AB 31) false (AC 35) (AL iEq .i64 (AB 33) (AB 34))
(cOp (AC 36) (AS (AB 31) (kV (.bool true)) (AB 35))
(cG (AB 36) false (AC 38) (AD (AB 0))
(cG (AB 36) false (AC 39) (AD (AB 10))
(cG (AB 36) false (AC 40) (AQ 48 [(AB 38), (AB 39)])
(cOp (AC 41) (AS (AB 36) (kV (.bool true)) (AB 40))
(cOp (AC 21) (AD (AB 41))
(AP (AB 21)
(cOp (AC 6) (AD (kV (.slice none 0 0)))
(cOp (AC 7) (AD (kV (.slice none 0 0)))
(cOp (AC 8) (AD (kV (.int .i64 100)))
Ae)))
Ac))))))))))))))))))))))
def LR : C := (cOp (AC 4) (Bu (AB 1))
(cOp (AC 5) (Bu (AB 2))
(cOp (AC 6) (AD (kV (.slice none 0 0)))
(cOp (AC 7) (AD (kV (.slice none 0 0)))
(cOp (AC 8) (AD (kV (.int .i64 0)))
(cOp (AC 9) (AD (kV (.func (.func 45) #[] #[])))
(cOp (AC 16) (GO (.func 46) [] [(AB 4), (AB 5)])
(cOp (AC 10) (AD (AB 16))
(Ar (AX 0 mvH)
(cOp (AC 11) (AD (kV (.slice none 0 0)))
(cOp (AC 12) (AD (kV (.slice none 0 0)))
(cOp (AC 42) (AD (AB 0))
(cOp (AC 43) (Af (AB 42))
(cOp (AC 44) (AD (kV (.int .i64 0)))
mvS))))))))))))))
def d29 : C := LR
theorem KR {n : Nat} {args : List Value} {h : Hp} (hl : Nat.ble (Bk args) 320 = true) : call AG (Nat.succ n) 29 args h = Bs [.t (AB 6), .t (AB 7), .t (AB 8)] (d29 (call AG n) (Ak e0 0 args) h) := by
  have hb : AG.get 29 = some b29 := by kernel_rfl
  rw [BM hb]
  have hd : b29 = ⟨[.t (AB 6), .t (AB 7), .t (AB 8)], d29⟩ := by kernel_rfl
  rw [hd, BC hl]
theorem KX : d29 = LR := rfl
def Eo (fr to_ : Int) (ws : List Pw) : Prop := ¬ (0 ≤ fr ∧ fr < 256) ∨ ¬ (0 ≤ to_ ∧ to_ < 256) ∨ fr = to_ ∨ ∃ x ∈ ws, Gv fr to_ x
def cJ (h h' : Hp) (ws : List Pw) (fr to_ : Int) (r : R) : Prop := h.Ext h' ∧ ((¬ Eu ws ∧ r = .ok (.tuple ⟨[.slice none 0 0, .slice none 0 0, .int .i64 2]⟩) h') ∨ (Eu ws ∧ Eo fr to_ ws ∧ r = .ok (.tuple ⟨[.slice none 0 0, .slice none 0 0, .int .i64 100]⟩) h') ∨
  (Eu ws ∧ ¬ Eo fr to_ ws ∧ ∃ vo vg outs k2, r = .ok (.tuple ⟨[vo, vg, .int .i64 0]⟩) h' ∧ h.next ≤ k2 ∧ h'.Own2 k2 vo (CC outs) ws.length ∧ h'.Own k2 3 vg (ints .i64 (grp fr 0 ws)) ∧ (∀ y ∈ outs, h'.Own k2 3 y.2.1 (ints .i64 y.2.2)) ∧ outs.map shP = ws.map (Ev fr to_)))
theorem aG {n : Nat} {h : Hp} (W : h.Wf) {v : Value} {ws : List Pw} (d : h.PlI v ws) (D : h.NdV ws) (hl : ws.length ≤ 1000) (hz : ∀ x ∈ ws, x.2.2.length < 900000) (fr to_ : Int) : ∃ h', cJ h h' ws fr to_ (call AG (n + 8) 29 [v, .int .i64 fr, .int .i64 to_] h) := by
  have x1 := (Hp.Ext.refl W).pushRow 0 [.int .i64 fr]
  have R4 := Hp.Row.new W 0 [.int .i64 fr]
  have n1 : (h.pushRow 0 [.int .i64 fr]).next = h.next + 1 := rfl
  have f1' : ∀ e : Env, AB 1 e = .int .i64 fr → Bu (AB 1) (call AG (n + 7)) e h = .ok (.pointer (some ⟨h.next, 0, none⟩)) (h.pushRow 0 [.int .i64 fr]) := fun e he => by rw [DF, he, DD W]; rfl
  generalize h.pushRow 0 [.int .i64 fr] = h1 at x1 R4 n1 f1'
  have y2 := (Hp.Ext.refl x1.wf).pushRow 0 [.int .i64 to_]
  have x2 := x1.trans y2
  have R5 := Hp.Row.new x1.wf 0 [.int .i64 to_]
  have f2' : ∀ e : Env, AB 2 e = .int .i64 to_ → Bu (AB 2) (call AG (n + 7)) e h1 = .ok (.pointer (some ⟨h1.next, 0, none⟩)) (h1.pushRow 0 [.int .i64 to_]) := fun e he => by rw [DF, he, DD x1.wf]; rfl
  have R4 := R4.ext x1.wf y2
  generalize h1.pushRow 0 [.int .i64 to_] = h2 at y2 x2 R5 f2' R4
  obtain ⟨r1, h3, k1, y3, t1⟩ := dS (n := n) x2.wf (d.ext W x2) (D.ext W x2) hl
  have x3 := x2.trans y3
  have R4 := R4.ext x2.wf y3
  have R5 := R5.ext x2.wf y3
  have l4 : load1 ⟨h.next, 0, none⟩ h3 = .ok (.int .i64 fr) h3 := R4.load1 (off := 0) (by simp)
  have l5 : load1 ⟨h1.next, 0, none⟩ h3 = .ok (.int .i64 to_) h3 := R5.load1 (off := 0) (by simp)
  have k2 := Oj (n := n + 6) (h := h3) fr
  have k3 := Oj (n := n + 6) (h := h3) to_
  cases r1 with
  | false =>
    have hA : ¬ Eu ws := fun h => (by have := t1.2 h; cases this)
    have hrun : ∃ e2, LR (call AG (n + 7)) (Ak e0 0 [v, .int .i64 fr, .int .i64 to_]) h = .ret e2 h3 ∧ AB 6 e2 = .slice none 0 0 ∧ AB 7 e2 = .slice none 0 0 ∧ AB 8 e2 = .int .i64 2 := by
      unfold LR mvH
      simp only [AK, AM, Nat.succ_eq_add_one, Nat.zero_add, Nat.reduceAdd, sT, Nat.reduceLT, Nat.reduceEqDiff, if_true, if_false, reduceIte, gD, f1', f2', Ft, Ah, AV, Ad, k1, Bf, Be, Bool.not_false]
      exact ⟨_, rfl, by simp [AE], by simp [AE], by simp [AE]⟩
    obtain ⟨e2, q1, q2, q3, q4⟩ := hrun
    refine ⟨h3, x3, .inl ⟨hA, ?_⟩⟩
    rw [KR rfl, KX, q1, AZ, CW, q2, q3, q4]
  | true =>
  have hall := t1.1 rfl
  obtain ⟨r4, h4, k4, y4, t4⟩ := Qs (m := n + 5) x3.wf (d.ext W x3) hl (fv := .func (.func 46) ⟨[]⟩ ⟨[.pointer (some ⟨h.next, 0, none⟩), .pointer (some ⟨h1.next, 0, none⟩)]⟩) (P := Gv fr to_)
    (fun g x y hy => Rm (n := n + 2) x.wf ((D.ext W x3 y hy).ext x3.wf x) (hall.2.2 y hy).2.2.1 (hz y hy) (R4.ext x3.wf x) (R5.ext x3.wf x))
  have x4 := x3.trans y4
  have R4 := R4.ext x3.wf y4
  have R5 := R5.ext x3.wf y4
  have hH : ∀ e : Env, AB 0 e = v → AB 4 e = .pointer (some ⟨h.next, 0, none⟩) → AB 5 e = .pointer (some ⟨h1.next, 0, none⟩) → AB 9 e = .func (.func 45) #[] #[] → AB 10 e = .func (.func 46) ⟨[]⟩ ⟨[.pointer (some ⟨h.next, 0, none⟩), .pointer (some ⟨h1.next, 0, none⟩)]⟩ →
      (¬ Eu ws ∧ ∃ e2, mvH (call AG (n + 7)) e h2 = .ret e2 h3 ∧ AB 6 e2 = .slice none 0 0 ∧ AB 7 e2 = .slice none 0 0 ∧ AB 8 e2 = .int .i64 2) ∨
      (Eu ws ∧ Eo fr to_ ws ∧ ∃ e2 g, mvH (call AG (n + 7)) e h2 = .ret e2 g ∧ h.Ext g ∧ AB 6 e2 = .slice none 0 0 ∧ AB 7 e2 = .slice none 0 0 ∧ AB 8 e2 = .int .i64 100) ∨
      (Eu ws ∧ ¬ Eo fr to_ ws ∧ ∃ e2, mvH (call AG (n + 7)) e h2 = .norm e2 h4 ∧ AB 0 e2 = v ∧ AB 4 e2 = .pointer (some ⟨h.next, 0, none⟩) ∧ AB 5 e2 = .pointer (some ⟨h1.next, 0, none⟩)) := fun e q0 q4 q5 q9 q10 => by
    have a9 : ∀ (z : Int) (h : Hp), HL (call AG (n + 7)) (.func (.func 45) #[] #[]) [.int .i64 z] h = call AG (n + 7) 45 [.int .i64 z] h := fun _ _ => rfl
    right
    by_cases b1 : 0 ≤ fr ∧ fr < 256
    · rw [decide_eq_true b1] at k2
      by_cases b2 : 0 ≤ to_ ∧ to_ < 256
      · rw [decide_eq_true b2] at k3
        by_cases b3 : fr = to_
        · left
          have c1 : iEq fr to_ = true := by rw [B6]; simpa using b3
          refine ⟨hall, .inr (.inr (.inl b3)), ?_⟩
          unfold mvH
          simp only [sT, Nat.reduceLT, Nat.reduceEqDiff, if_true, if_false, reduceIte, gD, Ah, AV, Ad, q0, k1, Bf, Be, Bool.not_true, Ab, q4, Am, l4, Cc, q9, a9, k2, q5, l5, k3, AO, AN, c1]
          exact ⟨_, _, rfl, x3, by simp [AE], by simp [AE], by simp [AE]⟩
        · have c1 : iEq fr to_ = false := by rw [B6]; simpa using b3
          cases r4 with
          | true =>
            left
            refine ⟨hall, .inr (.inr (.inr (t4.1 rfl))), ?_⟩
            unfold mvH
            simp only [sT, Nat.reduceLT, Nat.reduceEqDiff, if_true, if_false, reduceIte, gD, Ah, AV, Ad, q0, k1, Bf, Be, Bool.not_true, Ab, q4, Am, l4, Cc, q9, a9, k2, q5, l5, k3, AO, AN, c1, q10, k4]
            exact ⟨_, _, rfl, x4, by simp [AE], by simp [AE], by simp [AE]⟩
          | false =>
            right
            refine ⟨hall, ?_, ?_⟩
            · rintro (h | h | h | h)
              · exact h b1
              · exact h b2
              · exact b3 h
              · have := t4.2 h; cases this
            unfold mvH
            simp only [sT, Nat.reduceLT, Nat.reduceEqDiff, if_true, if_false, reduceIte, gD, Ah, AV, Ad, q0, k1, Bf, Be, Bool.not_true, Ab, q4, Am, l4, Cc, q9, a9, k2, q5, l5, k3, AO, AN, c1, q10, k4]
            exact ⟨_, rfl, by simp only [AE, Nat.reduceLT, Nat.reduceEqDiff, if_true, if_false, reduceIte]; exact q0, by simp only [AE, Nat.reduceLT, Nat.reduceEqDiff, if_true, if_false, reduceIte]; exact q4, by simp only [AE, Nat.reduceLT, Nat.reduceEqDiff, if_true, if_false, reduceIte]; exact q5⟩
      · left
        rw [decide_eq_false b2] at k3
        refine ⟨hall, .inr (.inl b2), ?_⟩
        unfold mvH
        simp only [sT, Nat.reduceLT, Nat.reduceEqDiff, if_true, if_false, reduceIte, gD, Ah, AV, Ad, q0, k1, Bf, Be, Bool.not_true, Bool.not_false, Ab, q4, Am, l4, Cc, q9, a9, k2, q5, l5, k3]
        exact ⟨_, _, rfl, x3, by simp [AE], by simp [AE], by simp [AE]⟩
    · left
      rw [decide_eq_false b1] at k2
      refine ⟨hall, .inl b1, ?_⟩
      unfold mvH
      simp only [sT, Nat.reduceLT, Nat.reduceEqDiff, if_true, if_false, reduceIte, gD, Ah, AV, Ad, q0, k1, Bf, Be, Bool.not_true, Bool.not_false, Ab, q4, Am, l4, Cc, q9, a9, k2]
      exact ⟨_, _, rfl, x3, by simp [AE], by simp [AE], by simp [AE]⟩
  have vl : ∀ g : Hp, Ca v g = .ok (.int .i64 (ws.length : Int)) g := fun g => d.len
  have hr := hH (Env.set 10 (.func (.func 46) ⟨[]⟩ ⟨[.pointer (some ⟨h.next, 0, none⟩), .pointer (some ⟨h1.next, 0, none⟩)]⟩) (Env.set 16 (.func (.func 46) ⟨[]⟩ ⟨[.pointer (some ⟨h.next, 0, none⟩), .pointer (some ⟨h1.next, 0, none⟩)]⟩) (Env.set 9 (.func (.func 45) #[] #[]) (Env.set 8 (.int .i64 0) (Env.set 7 (.slice none 0 0) (Env.set 6 (.slice none 0 0) (Env.set 5 (.pointer (some ⟨h1.next, 0, none⟩)) (Env.set 4 (.pointer (some ⟨h.next, 0, none⟩)) (Env.set 2 (.int .i64 to_) (Env.set 1 (.int .i64 fr) (Env.set 0 v e0)))))))))))
      (by simp [AE]) (by simp [AE]) (by simp [AE]) (by simp [AE]) (by simp [AE])
  rcases hr with ⟨hA, e2, q1, q2, q3, q4⟩ | ⟨hA, hB, e2, g, q1, q2, q3, q4, q5⟩ | ⟨hA, hB, e2, q1, q2, q3, q4⟩
  · refine ⟨h3, x3, .inl ⟨hA, ?_⟩⟩
    rw [KR rfl, KX]
    unfold LR
    simp only [AK, AM, Nat.succ_eq_add_one, Nat.zero_add, Nat.reduceAdd, BX, BI, Aq, BZ, A5, Br, AE, Nat.reduceLT, Nat.reduceEqDiff, if_true, if_false, reduceIte, f1', f2', Ft, AV, Ad]
    rw [q1]
    simp only [BL, Bw, AZ, CW, q2, q3, q4]
  · refine ⟨g, q2, .inr (.inl ⟨hA, hB, ?_⟩)⟩
    rw [KR rfl, KX]
    unfold LR
    simp only [AK, AM, Nat.succ_eq_add_one, Nat.zero_add, Nat.reduceAdd, BX, BI, Aq, BZ, A5, Br, AE, Nat.reduceLT, Nat.reduceEqDiff, if_true, if_false, reduceIte, f1', f2', Ft, AV, Ad]
    rw [q1]
    simp only [BL, Bw, AZ, CW, q3, q4, q5]
  · have pre : ∃ e1, LR (call AG (n + 7)) (Ak e0 0 [v, .int .i64 fr, .int .i64 to_]) h = mvS (call AG (n + 7)) e1 h4 ∧ AB 4 e1 = .pointer (some ⟨h.next, 0, none⟩) ∧ AB 5 e1 = .pointer (some ⟨h1.next, 0, none⟩) ∧ AB 11 e1 = .slice none 0 0 ∧ AB 12 e1 = .slice none 0 0 ∧ AB 42 e1 = v ∧ AB 43 e1 = .int .i64 (ws.length : Int) ∧ AB 44 e1 = .int .i64 0 := by
      unfold LR
      simp only [AK, AM, Nat.succ_eq_add_one, Nat.zero_add, Nat.reduceAdd, BX, BI, Aq, BZ, A5, Br, AE, Nat.reduceLT, Nat.reduceEqDiff, if_true, if_false, reduceIte, f1', f2', Ft, AV, Ad]
      rw [q1]
      simp only [Ce, BH, BX, BZ, A5, Br, AE, Nat.reduceLT, Nat.reduceEqDiff, if_true, if_false, reduceIte, q2, Al, vl]
      exact ⟨_, rfl, by simp only [AE, Nat.reduceLT, Nat.reduceEqDiff, if_true, if_false, reduceIte]; exact q3, by simp only [AE, Nat.reduceLT, Nat.reduceEqDiff, if_true, if_false, reduceIte]; exact q4, by simp [AE], by simp [AE], by simp [AE], by simp [AE], by simp [AE]⟩
    obtain ⟨e1, p1, p4, p5, p11, p12, p42, p43, p44⟩ := pre
    obtain ⟨e3, g, vo, vg, outs, m1, m2, m3, m4, m5, m6, m7, m8⟩ := VA (n := n + 5) x4.wf (d.ext W x4) (D.ext W x4) R4 R5 hA.2.2 (fun x hx hp => hB (.inr (.inr (.inr ⟨x, hx, hp⟩)))) hl p4 p5 p11 p12 p42 p43 p44
    refine ⟨g, x4.trans m2, .inr (.inr ⟨hA, hB, vo, vg, outs, h4.next, ?_, x4.next, m3, m4, m5, m6⟩)⟩
    rw [KR rfl, KX, p1, aJ]
    simp only [BI, Aq, m1, BA, BH]
    unfold mvE
    simp only [sT, Nat.reduceLT, Nat.reduceEqDiff, if_true, if_false, reduceIte, m7, m8, AZ, CW]
end
end Go.Proofs.Ytkafejncffinmaa
set_option linter.unusedVariables false
set_option linter.unusedSimpArgs false
namespace Go.Proofs.Ytkafejncffinmaa
noncomputable section
open Go
set_option maxRecDepth 100000
def Ek : Nat → List Int → List Ent
  | _, [] => []
  | i, z :: l => ⟨.int .i64 z, .int .i64 1, i⟩ :: Ek (i + 1) l
def Hp.MapZ (h : Hp) (r : Nat) (zs : List Int) : Prop := h.bl.get r = .map (Ek 0 zs) zs.length
theorem Hp.MapZ.lt {h : Hp} {r : Nat} {zs : List Int} (m : h.MapZ r zs) (W : h.Wf) : r < h.next := by
  rcases Nat.lt_or_ge r h.next with h1 | h1
  · exact h1
  · have := W.fresh r h1
    unfold Hp.MapZ at m
    rw [this] at m; cases m
theorem Hp.MapZ.ext {h h' : Hp} {r : Nat} {zs : List Int} (m : h.MapZ r zs) (W : h.Wf) (x : h.Ext h') : h'.MapZ r zs := (x.get r (m.lt W)).trans m
theorem Hp.MapZ.same {h h' : Hp} {r : Nat} {zs : List Int} (m : h.MapZ r zs) (hb : h'.bl = h.bl) : h'.MapZ r zs := by unfold Hp.MapZ; rw [hb]; exact m
theorem Hp.MapZ.row {h : Hp} {r b el : Nat} {zs : List Int} {L : List Value} (m : h.MapZ r zs) (R : h.Row b el L) : b ≠ r := fun hb => by
  subst hb
  obtain ⟨_, e1, _⟩ := R
  unfold Hp.MapZ at m
  rw [e1] at m; cases m
theorem Hp.MapZ.ents {h : Hp} {r : Nat} {zs : List Int} (m : h.MapZ r zs) : Ck h r = .ok (Ek 0 zs) zs.length := by unfold Ck; rw [m]; rfl
theorem ZF {n : Nat} (hn : n ≤ 9223372036854775807) : Eg ⟨false, [.i .i64]⟩ (.int .i64 (n : Int)) = true := by
  show (match (match Ea .i64 .i64 with | true => Nat.ble n (Ai .i64) | false => false) with | true => true | false => false) = true
  have h1 : Ea .i64 .i64 = true := rfl
  have h2 : Nat.ble n (Ai .i64) = true := A0.2 hn
  simp only [h1, h2]
theorem aC {n m : Nat} (hm : m ≤ 9223372036854775807) : FG ⟨false, [.i .i64]⟩ (.int .i64 (n : Int)) (.int .i64 (m : Int)) = some (decide (n = m)) := by
  unfold FG
  rw [ZF hm]
  show (match (match Ea .i64 .i64 with | true => some (iEq (n : Int) (m : Int)) | false => none) with | some true => some true | some false => some false | none => none) = _
  have h1 : Ea .i64 .i64 = true := rfl
  simp only [h1, B6]
  by_cases h : n = m
  · subst h; simp
  · have : ((n : Int) == (m : Int)) = false := by rw [beq_eq_false_iff_ne]; omega
    rw [this, decide_eq_false h]
theorem OO {n : Nat} : ∀ (zs : List Int) (i : Nat), (∀ z ∈ zs, 0 ≤ z ∧ z ≤ 9223372036854775807) → (n : Int) ∈ zs → ∃ e, GM ⟨false, [.i .i64]⟩ (.int .i64 (n : Int)) (Ek i zs) = some (some e) ∧ e.val = .int .i64 1
  | [], _, _, h => by cases h
  | z :: l, i, hz, h => by
    obtain ⟨z0, z1⟩ := hz z List.mem_cons_self
    obtain ⟨m, rfl⟩ := Int.eq_ofNat_of_zero_le z0
    show ∃ e, (match FG ⟨false, [.i .i64]⟩ (.int .i64 (n : Int)) (.int .i64 (m : Int)) with | some true => some (some (⟨.int .i64 (m : Int), .int .i64 1, i⟩ : Ent)) | some false => GM ⟨false, [.i .i64]⟩ (.int .i64 (n : Int)) (Ek (i + 1) l) | none => none) = some (some e) ∧ e.val = .int .i64 1
    rw [aC (by omega)]
    by_cases hnm : n = m
    · rw [decide_eq_true hnm]; exact ⟨_, rfl, rfl⟩
    · rw [decide_eq_false hnm]
      refine OO l (i + 1) (fun y hy => hz y (List.mem_cons_of_mem _ hy)) ?_
      rcases List.mem_cons.1 h with h | h
      · omega
      · exact h
theorem La {n : Nat} : ∀ (zs : List Int) (i : Nat), (∀ z ∈ zs, 0 ≤ z ∧ z ≤ 9223372036854775807) → (n : Int) ∉ zs → GM ⟨false, [.i .i64]⟩ (.int .i64 (n : Int)) (Ek i zs) = some none
  | [], _, _, _ => rfl
  | z :: l, i, hz, h => by
    obtain ⟨z0, z1⟩ := hz z List.mem_cons_self
    obtain ⟨m, rfl⟩ := Int.eq_ofNat_of_zero_le z0
    show (match FG ⟨false, [.i .i64]⟩ (.int .i64 (n : Int)) (.int .i64 (m : Int)) with | some true => some (some (⟨.int .i64 (m : Int), .int .i64 1, i⟩ : Ent)) | some false => GM ⟨false, [.i .i64]⟩ (.int .i64 (n : Int)) (Ek (i + 1) l) | none => none) = some none
    rw [aC (by omega)]
    have hnm : n ≠ m := fun hx => h (by rw [hx]; exact List.mem_cons_self)
    rw [decide_eq_false hnm]
    exact La l (i + 1) (fun y hy => hz y (List.mem_cons_of_mem _ hy)) (fun hx => h (List.mem_cons_of_mem _ hx))
theorem Ox {n : Nat} {v : Value} : ∀ (zs : List Int) (i : Nat), (∀ z ∈ zs, 0 ≤ z ∧ z ≤ 9223372036854775807) → (n : Int) ∉ zs → Jb ⟨false, [.i .i64]⟩ (.int .i64 (n : Int)) v (Ek i zs) = some none
  | [], _, _, _ => rfl
  | z :: l, i, hz, h => by
    obtain ⟨z0, z1⟩ := hz z List.mem_cons_self
    obtain ⟨m, rfl⟩ := Int.eq_ofNat_of_zero_le z0
    show (match FG ⟨false, [.i .i64]⟩ (.int .i64 (n : Int)) (.int .i64 (m : Int)) with | some true => some (some ((⟨.int .i64 (n : Int), v, i⟩ : Ent) :: Ek (i + 1) l)) | some false => (match Jb ⟨false, [.i .i64]⟩ (.int .i64 (n : Int)) v (Ek (i + 1) l) with | some (some l') => some (some ((⟨.int .i64 (m : Int), .int .i64 1, i⟩ : Ent) :: l')) | some none => some none | none => none) | none => none) = some none
    rw [aC (by omega)]
    have hnm : n ≠ m := fun hx => h (by rw [hx]; exact List.mem_cons_self)
    rw [decide_eq_false hnm]
    simp only
    rw [Ox l (i + 1) (fun y hy => hz y (List.mem_cons_of_mem _ hy)) (fun hx => h (List.mem_cons_of_mem _ hx))]
theorem LF {x : Int} : ∀ (zs : List Int) (i : Nat), PB ⟨.int .i64 x, .int .i64 1, i + zs.length⟩ (Ek i zs) = Ek i (zs ++ [x])
  | [], i => rfl
  | z :: l, i => by
    show (⟨.int .i64 z, .int .i64 1, i⟩ : Ent) :: PB ⟨.int .i64 x, .int .i64 1, i + (l.length + 1)⟩ (Ek (i + 1) l) = _
    have := LF (x := x) l (i + 1)
    rw [show i + 1 + l.length = i + (l.length + 1) by omega] at this
    rw [this]; rfl
def Rt (z : Value) (m key : Value) (ok : Bool) (h : Hp) : R := F9 ⟨false, [.i .i64]⟩ z m key ok h
theorem GV {F : CallF} {e : Env} {h : Hp} {x y : O} {z : Value} {ok : Bool} : Cs ⟨false, [.i .i64]⟩ z ok x y F e h = Rt z (x e) (y e) ok h := rfl
def cC (m key v : Value) (h : Hp) : R := HH ⟨false, [.i .i64]⟩ m key v h
theorem Ns {F : CallF} {e : Env} {h : Hp} {m x y : O} : DG ⟨false, [.i .i64]⟩ m x y F e h = cC (m e) (x e) (y e) h := by
  show forceV (x e) (fun key => forceV (y e) fun v => HH ⟨false, [.i .i64]⟩ (m e) key v h) = _
  rw [BF, BF]; rfl
def okZ (zs : List Int) : Prop := ∀ z ∈ zs, 0 ≤ z ∧ z ≤ 9223372036854775807
theorem Hp.MapZ.look {h : Hp} {r n : Nat} {zs : List Int} (m : h.MapZ r zs) (hz : okZ zs) (hn : n ≤ 9223372036854775807) : Rt (.int .i64 0) (.map (some r)) (.int .i64 (n : Int)) false h = .ok (.int .i64 (if (n : Int) ∈ zs then 1 else 0)) h := by
  unfold Rt F9
  rw [ZF hn]
  simp only [m.ents]
  by_cases hx : (n : Int) ∈ zs
  · obtain ⟨e, h1, h2⟩ := OO zs 0 hz hx
    rw [h1, if_pos hx]
    show forceV e.val (fun v => .ok v h) = _
    rw [BF, h2]
  · rw [La zs 0 hz hx, if_neg hx]
    show forceV (.int .i64 0) (fun v => .ok v h) = _
    rw [BF]
theorem Hp.MapZ.put {h0 h : Hp} {r n : Nat} {zs : List Int} (x : h0.Ext h) (hr : h0.next ≤ r) (hr2 : 256 ≤ r) (m : h.MapZ r zs) (hz : okZ zs) (hn : n ≤ 9223372036854775807) (hx : (n : Int) ∉ zs) :
    ∃ h', cC (.map (some r)) (.int .i64 (n : Int)) (.int .i64 1) h = .ok noRes h' ∧ h0.Ext h' ∧ h'.MapZ r (zs ++ [(n : Int)]) ∧ h'.next = h.next ∧ ∀ b el L, h.Row b el L → h'.Row b el L := by
  have W := x.wf
  have hlt := m.lt W
  refine ⟨h.put r (.map (Ek 0 (zs ++ [(n : Int)])) (zs.length + 1)), ?_, x.put hr hlt _, ?_, rfl, fun b el L R => ?_⟩
  · unfold cC HH
    rw [ZF hn]
    simp only [m.ents, Ox zs 0 hz hx]
    rw [GF W hr2 hlt]
    have := LF (x := (n : Int)) zs 0
    rw [Nat.zero_add] at this
    rw [this]; rfl
  · show (h.put r _).bl.get r = _
    rw [W.put_get hlt, if_pos rfl, List.length_append, List.length_singleton]
  · have hne := m.row R
    obtain ⟨c, h1, h2⟩ := R
    exact ⟨c, by rw [W.put_get hlt, if_neg hne, h1], h2⟩
theorem Ve {F : CallF} {e : Env} {h : Hp} (W : h.Wf) : K0 F e h = .ok (.map (some h.next)) (h.push (.map [] 0)) := by
  unfold K0
  rw [DO W]
theorem VE {h : Hp} (W : h.Wf) : (h.push (.map [] 0)).MapZ h.next [] := by
  show (h.push (.map [] 0)).bl.get h.next = _
  rw [W.push_get, if_pos rfl]; rfl
theorem Hp.MapZ.keep {h h' : Hp} {r : Nat} {zs : List Int} (m : h.MapZ r zs) (hk : h'.bl.get r = h.bl.get r) : h'.MapZ r zs := hk.trans m
end
end Go.Proofs.Ytkafejncffinmaa
set_option linter.unusedVariables false
set_option linter.unusedSimpArgs false
namespace Go.Proofs.Ytkafejncffinmaa
noncomputable section
open Go
set_option maxRecDepth 100000
theorem GG : ∀ (zs : List Int) (p : Int), BN p zs = true → ∀ z ∈ zs, 0 ≤ z ∧ z ≤ 1099511627776 ∧ p < z
  | [], _, _, z, hz => by cases hz
  | n :: l, p, h, z, hz => by
    unfold BN at h
    rw [Bool.and_eq_true, decide_eq_true_eq] at h
    obtain ⟨⟨h1, h2, h3⟩, h4⟩ := h
    rcases List.mem_cons.1 hz with rfl | hz
    · exact ⟨h1, h2, h3⟩
    · obtain ⟨a, b, c⟩ := GG l n h4 z hz
      exact ⟨a, b, by omega⟩
theorem KF : ∀ (zs : List Int) (i : Nat), i < zs.length → zs.take (i + 1) = zs.take i ++ [zs.getD i 0]
  | [], i, h => by cases h
  | z :: l, 0, h => rfl
  | z :: l, i + 1, h => by
    show z :: l.take (i + 1) = z :: (l.take i ++ [l.getD i 0])
    rw [KF l i (Nat.lt_of_succ_lt_succ h)]
theorem IA {a : Int} : ∀ (l : List Pw) (i : Nat) (z : Int), z ∈ grp a i l → (i : Int) ≤ z ∧ z < ((i + l.length : Nat) : Int)
  | [], i, z, h => by cases h
  | x :: l, i, z, h => by
    have h : z ∈ (if a ∈ x.2.2 then (i : Int) :: grp a (i + 1) l else grp a (i + 1) l) := h
    have ih : z ∈ grp a (i + 1) l → (i : Int) ≤ z ∧ z < ((i + (l.length + 1) : Nat) : Int) := fun hz => by
      obtain ⟨h1, h2⟩ := IA l (i + 1) z hz
      omega
    by_cases hx : a ∈ x.2.2
    · rw [if_pos hx] at h
      rcases List.mem_cons.1 h with rfl | h
      · exact ⟨by omega, by show _ < ((i + (l.length + 1) : Nat) : Int); omega⟩
      · exact ih h
    · rw [if_neg hx] at h
      exact ih h
theorem HY {a : Int} : ∀ (l : List Pw) (i : Nat), (grp a i l).Nodup
  | [], i => .nil
  | x :: l, i => by
    show (if a ∈ x.2.2 then (i : Int) :: grp a (i + 1) l else grp a (i + 1) l).Nodup
    by_cases hx : a ∈ x.2.2
    · rw [if_pos hx]
      exact List.nodup_cons.2 ⟨fun h => by have := (IA l (i + 1) _ h).1; omega, HY l (i + 1)⟩
    · rw [if_neg hx]; exact HY l (i + 1)
theorem Rk {a : Int} : ∀ (l : List Pw) (i n : Nat), ((i + n : Nat) : Int) ∈ grp a i l ↔ ∃ x, l[n]? = some x ∧ a ∈ x.2.2
  | [], i, n => ⟨(fun h => by cases h), (fun ⟨x, h, _⟩ => by cases h)⟩
  | y :: l, i, n => by
    show ((i + n : Nat) : Int) ∈ (if a ∈ y.2.2 then (i : Int) :: grp a (i + 1) l else grp a (i + 1) l) ↔ _
    cases n with
    | zero =>
      have h0 : ((i + 0 : Nat) : Int) ∉ grp a (i + 1) l := fun h => by have := (IA l (i + 1) _ h).1; omega
      by_cases hx : a ∈ y.2.2
      · rw [if_pos hx]; exact ⟨fun _ => ⟨y, rfl, hx⟩, fun _ => List.mem_cons_self⟩
      · rw [if_neg hx]; exact ⟨fun h => absurd h h0, fun ⟨x, h1, h2⟩ => by cases h1; exact absurd h2 hx⟩
    | succ n =>
      have ih := Rk (a := a) l (i + 1) n
      rw [show i + 1 + n = i + (n + 1) by omega] at ih
      have e : (y :: l)[n + 1]? = l[n]? := rfl
      rw [e, ← ih]
      by_cases hx : a ∈ y.2.2
      · rw [if_pos hx]
        refine ⟨fun h => ?_, fun h => List.mem_cons_of_mem _ h⟩
        rcases List.mem_cons.1 h with h | h
        · omega
        · exact h
      · rw [if_neg hx]
def Cz (gs : List Int) (N : Nat) (all : List Int) : List Int := all.filter fun z => decide (((z.toNat % N : Nat) : Int) ∈ gs)
theorem F6 {e : Env} {h : Hp} {g g' g'' : O} {n : Nat} {v : Value} (hv : FV n (g' e) h = .ok v h) : EC [.t g, .cN g' n, .t g''] e h = .ok (.tuple ⟨[g e, v, g'' e]⟩) h := by
  have h1 : EK e h (.cN g' n) = .ok v h := hv
  show forceV (g e) (fun x => (match EK e h (.cN g' n) with | .ok v _ => forceV v fun v => forceV (g'' e) (fun y => F5 h [x, v, y]) | .no => .no)) = _
  rw [BF, h1]
  simp only [BF]; rfl
def chB : C := (cOp (AC 40) (AL iLt .i64 (AB 39) (AB 38))
(AP (AB 40)
(Ar (AX 1 (cOp (AC 41) (A9 1 (AB 37) (AB 39))
(cOp (AC 42) (AH (AB 41))
(cOp (AC 16) (AD (AB 42))
(cOp (AC 45) (Cs ⟨false, [.i .i64]⟩ (.int .i64 0) false (AB 14) (AB 16))
(cOp (AC 46) (A4 .i64 (Ai .i64) (AB 45) (kV (.int .i64 1)))
(cDo (DG ⟨false, [.i .i64]⟩ (AB 14) (AB 16) (AB 46))
Ac)))))))
(cOp (AC 47) (A4 .i64 (Ai .i64) (AB 39) (kV (.int .i64 1)))
(cOp (AC 39) (AD (AB 47))
Ac)))
(A7 0)))
theorem Tq {F : CallF} {hA h : Hp} (WA : hA.Wf) (x : hA.Ext h) {k r : Nat} {vg : Value} {gs : List Int} (G : hA.Own k 3 vg (ints .i64 gs)) (hr : hA.next ≤ r) (M : h.MapZ r []) (hz : ∀ z ∈ gs, 0 ≤ z ∧ z ≤ 1000) (hn : gs.Nodup) (hl : gs.length ≤ 1000) {e : Env}
    (s14 : AB 14 e = .map (some r)) (s37 : AB 37 e = vg) (s38 : AB 38 e = .int .i64 (gs.length : Int)) (s39 : AB 39 e = .int .i64 0) {P : Env → Prop} (hP : P e) (hPs : ∀ e1 e2, P e1 → (∀ j, j < 14 → AB j e2 = AB j e1) → P e2) :
    ∃ e2 g, Ao chB F e h = .exit 0 e2 g ∧ hA.Ext g ∧ g.MapZ r gs ∧ h.next ≤ g.next ∧ AB 14 e2 = .map (some r) ∧ (∀ b el L, h.Row b el L → g.Row b el L) ∧ P e2 := by
  have hbig : 256 ≤ r := Nat.le_trans WA.big hr
  refine Bo (I := fun i e' h' => hA.Ext h' ∧ h.next ≤ h'.next ∧ h'.MapZ r (gs.take i) ∧ i ≤ gs.length ∧ AB 14 e' = .map (some r) ∧ AB 37 e' = vg ∧ AB 38 e' = .int .i64 (gs.length : Int) ∧ AB 39 e' = .int .i64 (i : Int) ∧ (∀ b el L, h.Row b el L → h'.Row b el L) ∧ P e')
    (Q := fun y => ∃ e2 g, y = .exit 0 e2 g ∧ hA.Ext g ∧ g.MapZ r gs ∧ h.next ≤ g.next ∧ AB 14 e2 = .map (some r) ∧ (∀ b el L, h.Row b el L → g.Row b el L) ∧ P e2) gs.length (by omega)
    (fun i e' h' ⟨ex, hnx, m, hi, t14, t37, t38, t39, fr, p⟩ => ?_) ⟨x, Nat.le_refl _, M, Nat.zero_le _, s14, s37, s38, s39, fun _ _ _ r => r, hP⟩
  by_cases hlt : i < gs.length
  · left
    obtain ⟨a, g1, g2⟩ := (G.ext WA ex).vals.int hlt
    have hzm : gs.getD i 0 ∈ gs := by rw [List.getD_eq_getElem?_getD, List.getElem?_eq_getElem hlt]; exact List.getElem_mem hlt
    have hnb := NY hn hlt
    have hst := KF gs i hlt
    obtain ⟨z0, z1⟩ := hz _ hzm
    generalize gs.getD i 0 = z at g2 hzm hnb hst z0 z1
    obtain ⟨c, rfl⟩ := Int.eq_ofNat_of_zero_le z0
    have okt : okZ (gs.take i) := fun y hy => by have := hz y (List.mem_of_mem_take hy); omega
    have lk := m.look okt (n := c) (by omega)
    rw [if_neg hnb] at lk
    have ad : Ci .i64 (.int .i64 0) (.int .i64 1) h' = .ok (.int .i64 1) h' := by rw [Bc]; rfl
    obtain ⟨h2, u1, u2, u3, u4, u5⟩ := m.put ex hr hbig okt (n := c) (by omega) hnb
    rw [← hst] at u3
    have c1 : iLt (i : Int) (gs.length : Int) = true := by rw [As]; simp; omega
    have a3 : Ci .i64 (.int .i64 (i : Int)) (.int .i64 1) h2 = .ok (.int .i64 ((i + 1 : Nat) : Int)) h2 := by
      have : (i : Int) + 1 = ((i + 1 : Nat) : Int) := by omega
      rw [Bc, this, BJ (by omega)]
    have hrun : ∃ e2, chB F e' h' = .norm e2 h2 ∧ AB 14 e2 = .map (some r) ∧ AB 37 e2 = vg ∧ AB 38 e2 = .int .i64 (gs.length : Int) ∧ AB 39 e2 = .int .i64 ((i + 1 : Nat) : Int) ∧ ∀ j, j < 14 → AB j e2 = AB j e' := by
      unfold chB
      simp only [sT, Nat.reduceLT, Nat.reduceEqDiff, if_true, if_false, reduceIte, AO, AN, t39, t38, c1, BV, t37, g1, Ab, g2, GV, t14, lk, Bb, ad, Ns, u1, a3]
      refine ⟨_, rfl, by simp only [AE, Nat.reduceLT, Nat.reduceEqDiff, if_true, if_false, reduceIte]; exact t14, by simp only [AE, Nat.reduceLT, Nat.reduceEqDiff, if_true, if_false, reduceIte]; exact t37, by simp only [AE, Nat.reduceLT, Nat.reduceEqDiff, if_true, if_false, reduceIte]; exact t38, by simp [AE], fun j hj => ?_⟩
      rw [CO (by omega) (by omega) (by omega), CO (by omega) (by omega) (by omega), CO (by omega) (by omega) (by omega), CO (by omega) (by omega) (by omega), CO (by omega) (by omega) (by omega), CO (by omega) (by omega) (by omega), CO (by omega) (by omega) (by omega), CO (by omega) (by omega) (by omega)]
    obtain ⟨e2, r1, r2, r3, r4, r5, r6⟩ := hrun
    exact ⟨hlt, e2, h2, r1, u2, by omega, u3, hlt, r2, r3, r4, r5, fun b el L R => u5 b el L (fr b el L R), hPs _ _ p r6⟩
  · right
    have c1 : iLt (i : Int) (gs.length : Int) = false := by rw [As]; simp; omega
    have hrun : ∃ e2, chB F e' h' = .exit 0 e2 h' ∧ AB 14 e2 = .map (some r) ∧ ∀ j, j < 14 → AB j e2 = AB j e' := by
      unfold chB
      simp only [sT, Nat.reduceLT, Nat.reduceEqDiff, if_true, if_false, reduceIte, AO, AN, t39, t38, c1]
      exact ⟨_, rfl, by simp only [AE, Nat.reduceLT, Nat.reduceEqDiff, if_true, if_false, reduceIte]; exact t14, fun j hj => by rw [CO (by omega) (by omega) (by omega)]⟩
    obtain ⟨e2, r1, r2, r3⟩ := hrun
    rw [r1]
    rw [List.take_of_length_le (by omega)] at m
    exact ⟨rfl, e2, h', rfl, ex, m, hnx, r2, fr, hPs _ _ p r3⟩
def lfB : C := (cOp (AC 54) (AL iLt .i64 (AB 53) (AB 52))
(AP (AB 54)
(Ar (AX 3 (cOp (AC 55) (A9 1 (AB 51) (AB 53))
(cOp (AC 56) (AH (AB 55))
(cOp (AC 19) (AD (AB 56))
(cOp (AC 60) (Af (AB 0))
(cOp (AC 61) (C8 .i64 (AB 19) (AB 60))
(cOp (AC 62) (Cs ⟨false, [.i .i64]⟩ (.int .i64 0) false (AB 14) (AB 61))
(cOp (AC 63) (AL iEq .i64 (AB 62) (kV (.int .i64 0)))
(AP (AB 63)
(A7 3)
(cOp (AC 64) (AF 2 (AB 17))
(cOp (AC 65) (AH (AB 64))
(cOp (AC 66) (Af (AB 65))
(cOp (AC 67) (AL iGe .i64 (AB 66) (kV (.int .i64 10000)))
(AP (AB 67)
(cOp (AC 68) (A6 B3.zero [])
(cOp (AC 8) (AD (kV (.slice none 0 0)))
(cDo (AY 3 (AB 9) (AB 68))
(cOp (AC 10) (AD (kV (.int .i64 5)))
Ae))))
(cOp (AC 69) (AF 2 (AB 17))
(cOp (AC 70) (AH (AB 69))
(cOp (AC 72) (AU 1 (BE ty3.zero 1) [(0, 1, (AB 19))])
(cOp (AC 73) (Az 1 8 3 (AB 70) (AB 72))
(cOp (AC 74) (AF 2 (AB 17))
(cDo (AY 1 (AB 74) (AB 73))
Ac))))))))))))))))))))
(cOp (AC 75) (A4 .i64 (Ai .i64) (AB 53) (kV (.int .i64 1)))
(cOp (AC 53) (AD (AB 75))
Ac)))
(A7 2)))
theorem Ux {F : CallF} {hB h : Hp} (WB : hB.Wf) (x : hB.Ext h) {k c r N : Nat} {v u : Value} {fr to_ : Int} {gs all : List Int} (M : hB.MapZ r gs) (hz : okZ gs) (hN : 0 < N) (hN2 : N ≤ 1000) (hv : ∀ g : Hp, Ca v g = .ok (.int .i64 (N : Int)) g) (V : hB.Vals u (ints .i64 all)) (ha : ∀ z ∈ all, 0 ≤ z ∧ z ≤ 1099511627776) (hl : all.length ≤ 9000)
    (hc : hB.next ≤ c) (hck : c < k) (hk2 : k ≤ h.next) (Rc : h.Row c 0 [.int .i64 fr, .int .i64 to_, .slice none 0 0]) {e : Env}
    (s0 : AB 0 e = v) (s14 : AB 14 e = .map (some r)) (s17 : AB 17 e = .pointer (some ⟨c, 0, none⟩)) (s51 : AB 51 e = u) (s52 : AB 52 e = .int .i64 (all.length : Int)) (s53 : AB 53 e = .int .i64 0) {P : Env → Prop} (hP : P e) (hPs : ∀ e1 e2, P e1 → (∀ j, j < 14 → AB j e2 = AB j e1) → P e2) :
    ∃ e2 g w, Ao lfB F e h = .exit 2 e2 g ∧ hB.Ext g ∧ g.Row c 0 [.int .i64 fr, .int .i64 to_, w] ∧ g.Own k 3 w (ints .i64 (Cz gs N all)) ∧ AB 17 e2 = .pointer (some ⟨c, 0, none⟩) ∧ P e2 := by
  have hbig : 256 ≤ c := Nat.le_trans WB.big hc
  refine Bo (I := fun i e' h' => ∃ w ys, hB.Ext h' ∧ k ≤ h'.next ∧ h'.Row c 0 [.int .i64 fr, .int .i64 to_, w] ∧ h'.Own k 3 w (ints .i64 ys) ∧ ys ++ Cz gs N (all.drop i) = Cz gs N all ∧ ys.length ≤ i ∧ i ≤ all.length ∧ AB 0 e' = v ∧ AB 14 e' = .map (some r) ∧ AB 17 e' = .pointer (some ⟨c, 0, none⟩) ∧ AB 51 e' = u ∧ AB 52 e' = .int .i64 (all.length : Int) ∧ AB 53 e' = .int .i64 (i : Int) ∧ P e')
    (Q := fun y => ∃ e2 g w, y = .exit 2 e2 g ∧ hB.Ext g ∧ g.Row c 0 [.int .i64 fr, .int .i64 to_, w] ∧ g.Own k 3 w (ints .i64 (Cz gs N all)) ∧ AB 17 e2 = .pointer (some ⟨c, 0, none⟩) ∧ P e2) all.length (by omega)
    (fun i e' h' ⟨w, ys, ex, hkn, R, o, hy, hyl, hi, t0, t14, t17, t51, t52, t53, p⟩ => ?_) ⟨_, [], x, hk2, Rc, .inl ⟨rfl, rfl⟩, rfl, Nat.le_refl _, Nat.zero_le _, s0, s14, s17, s51, s52, s53, hP⟩
  by_cases hlt : i < all.length
  · left
    obtain ⟨a, g1, g2⟩ := (V.ext WB ex).int hlt
    have hzm : all.getD i 0 ∈ all := by rw [List.getD_eq_getElem?_getD, List.getElem?_eq_getElem hlt]; exact List.getElem_mem hlt
    rw [Gk hlt] at hy
    obtain ⟨z0, z1⟩ := ha _ hzm
    generalize all.getD i 0 = z at g2 hzm hy z0 z1
    obtain ⟨d, rfl⟩ := Int.eq_ofNat_of_zero_le z0
    have hdm : d % N < N := Nat.mod_lt _ hN
    have c1 : iLt (i : Int) (all.length : Int) = true := by rw [As]; simp; omega
    have rm : MX .i64 (.int .i64 (d : Int)) (.int .i64 (N : Int)) h' = .ok (.int .i64 ((d % N : Nat) : Int)) h' := by rw [HD (by omega)]; rfl
    have lk := (M.ext WB ex).look hz (n := d % N) (by omega)
    have hfl : Cz gs N ((d : Int) :: all.drop (i + 1)) = if ((d % N : Nat) : Int) ∈ gs then (d : Int) :: Cz gs N (all.drop (i + 1)) else Cz gs N (all.drop (i + 1)) := by
      unfold Cz
      rw [List.filter_cons, Int.toNat_natCast]
      simp only [decide_eq_true_eq]
    rw [hfl] at hy
    by_cases hg : ((d % N : Nat) : Int) ∈ gs
    · rw [if_pos hg] at hy lk
      have c2 : iEq 1 0 = false := rfl
      have lw : load1 ⟨c, 2, none⟩ h' = .ok w h' := R.load1 (off := 2) (by simp)
      have c3 : iGe (ys.length : Int) 10000 = false := by rw [Cl]; simp; omega
      have os : ∀ e : Env, AB 19 e = .int .i64 (d : Int) → AU 1 (BE ty3.zero 1) [(0, 1, AB 19)] F e h' = .ok (.slice (some ⟨h'.next, 0, none⟩) 1 1) (h'.pushRow 0 [.int .i64 (d : Int)]) := fun e he => by rw [Hz]; exact Cn ex.wf he rfl rfl
      obtain ⟨h2, w2, a1, a2, a3, a4, a5⟩ := Dt (eb := 8) (n := (d : Int)) (kd := .i64) ex (by omega) hkn o (by rw [BG]; omega)
      have a3 : h2.Own k 3 w2 (ints .i64 (ys ++ [(d : Int)])) := by unfold ints; rw [List.map_append]; exact a3
      have Rc2 := (a5 _ _ _ (o.other R (by omega)) R).1
      obtain ⟨w21, w22⟩ := a3.vals.cells1
      have st := Rc2.storeR (n := 1) (off := 2) a2.wf hbig (v := w2) (by rw [w21]; rfl) (by rw [w21]; simp) (by rw [w21]; show (bif Bl w2 then true else false) = true; rw [w22]; rfl)
      rw [w21] at st
      have x3 := Rc2.wr_ext a2 hc (off := 2) (vs := [w2]) (by simp)
      have n3 := Rc2.wr_next (off := 2) (vs := [w2]) (by simp)
      have R3 := Rc2.wr_self a2.wf (off := 2) (vs := [w2]) (by simp)
      have o3 : (h2.wr c 2 [w2]).Own k 3 w2 (ints .i64 (ys ++ [(d : Int)])) := a3.keep fun b el L hb r => Rc2.wr_other a2.wf (off := 2) (vs := [w2]) (by simp) r (fun hx => a3.other Rc2 (by omega) (hx ▸ hb))
      generalize h2.wr c 2 [w2] = h3 at st x3 n3 R3 o3
      have R3 : h3.Row c 0 [.int .i64 fr, .int .i64 to_, w2] := R3
      have ad : Ci .i64 (.int .i64 (i : Int)) (.int .i64 1) h3 = .ok (.int .i64 ((i + 1 : Nat) : Int)) h3 := by
        have : (i : Int) + 1 = ((i + 1 : Nat) : Int) := by omega
        rw [Bc, this, BJ (by omega)]
      have wl := o.vals.ilen
      have hrun : ∃ e2, lfB F e' h' = .norm e2 h3 ∧ AB 0 e2 = v ∧ AB 14 e2 = .map (some r) ∧ AB 17 e2 = .pointer (some ⟨c, 0, none⟩) ∧ AB 51 e2 = u ∧ AB 52 e2 = .int .i64 (all.length : Int) ∧ AB 53 e2 = .int .i64 ((i + 1 : Nat) : Int) ∧ ∀ j, j < 14 → AB j e2 = AB j e' := by
        unfold lfB
        simp only [sT, Nat.reduceLT, Nat.reduceEqDiff, if_true, if_false, reduceIte, AO, AN, t53, t52, c1, BV, t51, g1, Ab, g2, Al, t0, hv, Ep, rm, GV, t14, lk, c2, AW, t17, Aj, Am, Nat.zero_add, lw, wl, c3, os, Bv, a1, Au, st, Bb, ad]
        refine ⟨_, rfl, by simp only [AE, Nat.reduceLT, Nat.reduceEqDiff, if_true, if_false, reduceIte]; exact t0, by simp only [AE, Nat.reduceLT, Nat.reduceEqDiff, if_true, if_false, reduceIte]; exact t14, by simp only [AE, Nat.reduceLT, Nat.reduceEqDiff, if_true, if_false, reduceIte]; exact t17, by simp only [AE, Nat.reduceLT, Nat.reduceEqDiff, if_true, if_false, reduceIte]; exact t51, by simp only [AE, Nat.reduceLT, Nat.reduceEqDiff, if_true, if_false, reduceIte]; exact t52, by simp [AE], fun j hj => ?_⟩
        repeat rw [CO (by omega) (by omega) (by omega)]
      obtain ⟨e2, r1, r2, r3, r4, r5, r6, r7, r8⟩ := hrun
      exact ⟨hlt, e2, h3, r1, w2, ys ++ [(d : Int)], x3, by omega, R3, o3, by rw [← hy]; simp, by rw [List.length_append, List.length_singleton]; omega, hlt, r2, r3, r4, r5, r6, r7, hPs _ _ p r8⟩
    · rw [if_neg hg] at hy lk
      have c2 : iEq 0 0 = true := rfl
      have ad : Ci .i64 (.int .i64 (i : Int)) (.int .i64 1) h' = .ok (.int .i64 ((i + 1 : Nat) : Int)) h' := by
        have : (i : Int) + 1 = ((i + 1 : Nat) : Int) := by omega
        rw [Bc, this, BJ (by omega)]
      have hrun : ∃ e2, lfB F e' h' = .norm e2 h' ∧ AB 0 e2 = v ∧ AB 14 e2 = .map (some r) ∧ AB 17 e2 = .pointer (some ⟨c, 0, none⟩) ∧ AB 51 e2 = u ∧ AB 52 e2 = .int .i64 (all.length : Int) ∧ AB 53 e2 = .int .i64 ((i + 1 : Nat) : Int) ∧ ∀ j, j < 14 → AB j e2 = AB j e' := by
        unfold lfB
        simp only [sT, Nat.reduceLT, Nat.reduceEqDiff, if_true, if_false, reduceIte, AO, AN, t53, t52, c1, BV, t51, g1, Ab, g2, Al, t0, hv, Ep, rm, GV, t14, lk, c2, Bb, ad]
        refine ⟨_, rfl, by simp only [AE, Nat.reduceLT, Nat.reduceEqDiff, if_true, if_false, reduceIte]; exact t0, by simp only [AE, Nat.reduceLT, Nat.reduceEqDiff, if_true, if_false, reduceIte]; exact t14, by simp only [AE, Nat.reduceLT, Nat.reduceEqDiff, if_true, if_false, reduceIte]; exact t17, by simp only [AE, Nat.reduceLT, Nat.reduceEqDiff, if_true, if_false, reduceIte]; exact t51, by simp only [AE, Nat.reduceLT, Nat.reduceEqDiff, if_true, if_false, reduceIte]; exact t52, by simp [AE], fun j hj => ?_⟩
        repeat rw [CO (by omega) (by omega) (by omega)]
      obtain ⟨e2, r1, r2, r3, r4, r5, r6, r7, r8⟩ := hrun
      exact ⟨hlt, e2, h', r1, w, ys, ex, hkn, R, o, hy, by omega, hlt, r2, r3, r4, r5, r6, r7, hPs _ _ p r8⟩
  · right
    have c1 : iLt (i : Int) (all.length : Int) = false := by rw [As]; simp; omega
    have hrun : ∃ e2, lfB F e' h' = .exit 2 e2 h' ∧ AB 17 e2 = .pointer (some ⟨c, 0, none⟩) ∧ ∀ j, j < 14 → AB j e2 = AB j e' := by
      unfold lfB
      simp only [sT, Nat.reduceLT, Nat.reduceEqDiff, if_true, if_false, reduceIte, AO, AN, t53, t52, c1]
      exact ⟨_, rfl, by simp only [AE, Nat.reduceLT, Nat.reduceEqDiff, if_true, if_false, reduceIte]; exact t17, fun j hj => by rw [CO (by omega) (by omega) (by omega)]⟩
    obtain ⟨e2, r1, r2, r3⟩ := hrun
    rw [r1]
    rw [List.drop_of_length_le (by omega)] at hy
    have hy : ys ++ [] = Cz gs N all := hy
    rw [List.append_nil] at hy
    rw [hy] at o
    exact ⟨rfl, e2, h', w, rfl, ex, R, o, r2, hPs _ _ p r3⟩
end
end Go.Proofs.Ytkafejncffinmaa
set_option linter.unusedVariables false
set_option linter.unusedSimpArgs false
namespace Go.Proofs.Ytkafejncffinmaa
noncomputable section
open Go
set_option maxRecDepth 100000
def bgT : C := (cOp (AC 50) (A6 B3.zero [(0, 1, (AB 1)), (1, 1, (AB 2))])
(cOp (AC 17) (At 3 BB)
(cDo (AY 3 (AB 17) (AB 50))
(cOp (AC 51) (AD (AB 3))
(cOp (AC 52) (Af (AB 51))
(cOp (AC 53) (AD (kV (.int .i64 0)))
(Ar (AX 2 (Ao (cOp (AC 54) (AL iLt .i64 (AB 53) (AB 52))
(AP (AB 54)
(Ar (AX 3 (cOp (AC 55) (A9 1 (AB 51) (AB 53))
(cOp (AC 56) (AH (AB 55))
(cOp (AC 19) (AD (AB 56))
(cOp (AC 60) (Af (AB 0))
(cOp (AC 61) (C8 .i64 (AB 19) (AB 60))
(cOp (AC 62) (Cs ⟨false, [.i .i64]⟩ (.int .i64 0) false (AB 14) (AB 61))
(cOp (AC 63) (AL iEq .i64 (AB 62) (kV (.int .i64 0)))
(AP (AB 63)
(A7 3)
(cOp (AC 64) (AF 2 (AB 17))
(cOp (AC 65) (AH (AB 64))
(cOp (AC 66) (Af (AB 65))
(cOp (AC 67) (AL iGe .i64 (AB 66) (kV (.int .i64 10000)))
(AP (AB 67)
(cOp (AC 68) (A6 B3.zero [])
(cOp (AC 8) (AD (kV (.slice none 0 0)))
(cDo (AY 3 (AB 9) (AB 68))
(cOp (AC 10) (AD (kV (.int .i64 5)))
Ae))))
(cOp (AC 69) (AF 2 (AB 17))
(cOp (AC 70) (AH (AB 69))
(cOp (AC 72) (AU 1 (BE ty3.zero 1) [(0, 1, (AB 19))])
(cOp (AC 73) (Az 1 8 3 (AB 70) (AB 72))
(cOp (AC 74) (AF 2 (AB 17))
(cDo (AY 1 (AB 74) (AB 73))
Ac))))))))))))))))))))
(cOp (AC 75) (A4 .i64 (Ai .i64) (AB 53) (kV (.int .i64 1)))
(cOp (AC 53) (AD (AB 75))
Ac)))
(A7 2)))))
(Bx (cOp (AC 77) (Aa 3 (AB 17))
(cOp (AC 8) (AD (AB 11))
(cDo (An .free (AY 3 (AB 9) (AB 77)))
(cOp (AC 10) (AD (kV (.int .i64 0)))
Ae))))))))))))
def bgF : C := (Bx (cOp (AC 77) (Aa 3 (AB 17))
(cOp (AC 8) (AD (AB 11))
(cDo (An .free (AY 3 (AB 9) (AB 77)))
(cOp (AC 10) (AD (kV (.int .i64 0)))
Ae)))))
def bgS : C := (Ar (AX 0 (Ao (cOp (AC 40) (AL iLt .i64 (AB 39) (AB 38))
(AP (AB 40)
(Ar (AX 1 (cOp (AC 41) (A9 1 (AB 37) (AB 39))
(cOp (AC 42) (AH (AB 41))
(cOp (AC 16) (AD (AB 42))
(cOp (AC 45) (Cs ⟨false, [.i .i64]⟩ (.int .i64 0) false (AB 14) (AB 16))
(cOp (AC 46) (A4 .i64 (Ai .i64) (AB 45) (kV (.int .i64 1)))
(cDo (DG ⟨false, [.i .i64]⟩ (AB 14) (AB 16) (AB 46))
Ac)))))))
(cOp (AC 47) (A4 .i64 (Ai .i64) (AB 39) (kV (.int .i64 1)))
(cOp (AC 39) (AD (AB 47))
Ac)))
(A7 0)))))
(cOp (AC 50) (A6 B3.zero [(0, 1, (AB 1)), (1, 1, (AB 2))])
(cOp (AC 17) (At 3 BB)
(cDo (AY 3 (AB 17) (AB 50))
(cOp (AC 51) (AD (AB 3))
(cOp (AC 52) (Af (AB 51))
(cOp (AC 53) (AD (kV (.int .i64 0)))
(Ar (AX 2 (Ao (cOp (AC 54) (AL iLt .i64 (AB 53) (AB 52))
(AP (AB 54)
(Ar (AX 3 (cOp (AC 55) (A9 1 (AB 51) (AB 53))
(cOp (AC 56) (AH (AB 55))
(cOp (AC 19) (AD (AB 56))
(cOp (AC 60) (Af (AB 0))
(cOp (AC 61) (C8 .i64 (AB 19) (AB 60))
(cOp (AC 62) (Cs ⟨false, [.i .i64]⟩ (.int .i64 0) false (AB 14) (AB 61))
(cOp (AC 63) (AL iEq .i64 (AB 62) (kV (.int .i64 0)))
(AP (AB 63)
(A7 3)
(cOp (AC 64) (AF 2 (AB 17))
(cOp (AC 65) (AH (AB 64))
(cOp (AC 66) (Af (AB 65))
(cOp (AC 67) (AL iGe .i64 (AB 66) (kV (.int .i64 10000)))
(AP (AB 67)
(cOp (AC 68) (A6 B3.zero [])
(cOp (AC 8) (AD (kV (.slice none 0 0)))
(cDo (AY 3 (AB 9) (AB 68))
(cOp (AC 10) (AD (kV (.int .i64 5)))
Ae))))
(cOp (AC 69) (AF 2 (AB 17))
(cOp (AC 70) (AH (AB 69))
(cOp (AC 72) (AU 1 (BE ty3.zero 1) [(0, 1, (AB 19))])
(cOp (AC 73) (Az 1 8 3 (AB 70) (AB 72))
(cOp (AC 74) (AF 2 (AB 17))
(cDo (AY 1 (AB 74) (AB 73))
Ac))))))))))))))))))))
(cOp (AC 75) (A4 .i64 (Ai .i64) (AB 53) (kV (.int .i64 1)))
(cOp (AC 53) (AD (AB 75))
Ac)))
(A7 2)))))
(Bx (cOp (AC 77) (Aa 3 (AB 17))
(cOp (AC 8) (AD (AB 11))
(cDo (An .free (AY 3 (AB 9) (AB 77)))
(cOp (AC 10) (AD (kV (.int .i64 0)))
Ae)))))))))))))
def YO : C := (Ar (AX 2 (Ao (cOp (AC 54) (AL iLt .i64 (AB 53) (AB 52))
(AP (AB 54)
(Ar (AX 3 (cOp (AC 55) (A9 1 (AB 51) (AB 53))
(cOp (AC 56) (AH (AB 55))
(cOp (AC 19) (AD (AB 56))
(cOp (AC 60) (Af (AB 0))
(cOp (AC 61) (C8 .i64 (AB 19) (AB 60))
(cOp (AC 62) (Cs ⟨false, [.i .i64]⟩ (.int .i64 0) false (AB 14) (AB 61))
(cOp (AC 63) (AL iEq .i64 (AB 62) (kV (.int .i64 0)))
(AP (AB 63)
(A7 3)
(cOp (AC 64) (AF 2 (AB 17))
(cOp (AC 65) (AH (AB 64))
(cOp (AC 66) (Af (AB 65))
(cOp (AC 67) (AL iGe .i64 (AB 66) (kV (.int .i64 10000)))
(AP (AB 67)
(cOp (AC 68) (A6 B3.zero [])
(cOp (AC 8) (AD (kV (.slice none 0 0)))
(cDo (AY 3 (AB 9) (AB 68))
(cOp (AC 10) (AD (kV (.int .i64 5)))
Ae))))
(cOp (AC 69) (AF 2 (AB 17))
(cOp (AC 70) (AH (AB 69))
(cOp (AC 72) (AU 1 (BE ty3.zero 1) [(0, 1, (AB 19))])
(cOp (AC 73) (Az 1 8 3 (AB 70) (AB 72))
(cOp (AC 74) (AF 2 (AB 17))
(cDo (AY 1 (AB 74) (AB 73))
Ac))))))))))))))))))))
(cOp (AC 75) (A4 .i64 (Ai .i64) (AB 53) (kV (.int .i64 1)))
(cOp (AC 53) (AD (AB 75))
Ac)))
(A7 2)))))
(Bx (cOp (AC 77) (Aa 3 (AB 17))
(cOp (AC 8) (AD (AB 11))
(cDo (An .free (AY 3 (AB 9) (AB 77)))
(cOp (AC 10) (AD (kV (.int .i64 0)))
Ae))))))
def YR : C := (cOp (AC 50) (A6 B3.zero [(0, 1, (AB 1)), (1, 1, (AB 2))])
(cOp (AC 17) (At 3 BB)
(cDo (AY 3 (AB 17) (AB 50))
(cOp (AC 51) (AD (AB 3))
(cOp (AC 52) (Af (AB 51))
(cOp (AC 53) (AD (kV (.int .i64 0)))
YO))))))
theorem YQ : bgT = YR := rfl
theorem YP : bgS = Ar (AX 0 (Ao chB)) bgT := rfl
theorem Ti : YO = Ar (AX 2 (Ao lfB)) bgF := rfl
def d8h : C := (cOp (AC 8) (AD (kV (.slice none 0 0)))
(cOp (AC 9) (At 3 BB)
(cOp (AC 10) (AD (kV (.int .i64 0)))
(cOp (AC 24) (AQ 29 [(AB 0), (AB 1), (AB 2)])
(cOp (AC 25) (AJ 0 (AB 24))
(cOp (AC 26) (AJ 1 (AB 24))
(cOp (AC 27) (AJ 2 (AB 24))
(cOp (AC 11) (AD (AB 25))
(cOp (AC 12) (AD (AB 26))
(cOp (AC 13) (AD (AB 27))
(cOp (AC 29) (AL iNe .i64 (AB 13) (kV (.int .i64 0)))
(AP (AB 29)
(cOp (AC 30) (A6 B3.zero [])
(cOp (AC 8) (AD (kV (.slice none 0 0)))
(cDo (AY 3 (AB 9) (AB 30))
(cOp (AC 10) (AD (AB 13))
Ae))))
(cOp (AC 33) (AQ 30 [(AB 3)])
(cOp (AC 34) (B7 (AB 33))
(AP (AB 34)
(cOp (AC 35) (A6 B3.zero [])
(cOp (AC 8) (AD (kV (.slice none 0 0)))
(cDo (AY 3 (AB 9) (AB 35))
(cOp (AC 10) (AD (kV (.int .i64 2)))
Ae))))
(cOp (AC 36) K0
(cOp (AC 14) (AD (AB 36))
(cOp (AC 37) (AD (AB 12))
(cOp (AC 38) (Af (AB 37))
(cOp (AC 39) (AD (kV (.int .i64 0)))
bgS))))))))))))))))))))
def d8 : C := d8h
theorem XC {n : Nat} {args : List Value} {h : Hp} (hl : Nat.ble (Bk args) 320 = true) : call AG (Nat.succ n) 8 args h = Bs [.t (AB 8), .cN (AB 9) 3, .t (AB 10)] (d8 (call AG n) (Ak e0 0 args) h) := by
  have hb : AG.get 8 = some b8 := by kernel_rfl
  rw [BM hb]
  have hd : b8 = ⟨[.t (AB 8), .cN (AB 9) 3, .t (AB 10)], d8⟩ := by kernel_rfl
  rw [hd, BC hl]
theorem XG : d8 = d8h := rfl
def bgP (v w9 : Value) (fr to_ : Int) (u vo : Value) (e : Env) : Prop := AB 0 e = v ∧ AB 1 e = .int .i64 fr ∧ AB 2 e = .int .i64 to_ ∧ AB 3 e = u ∧ AB 9 e = w9 ∧ AB 11 e = vo
theorem LL {v w9 u vo : Value} {fr to_ : Int} : ∀ e1 e2, bgP v w9 fr to_ u vo e1 → (∀ j, j < 14 → AB j e2 = AB j e1) → bgP v w9 fr to_ u vo e2 := fun e1 e2 ⟨a, b, c, d, f, g⟩ h => ⟨(h 0 (by omega)).trans a, (h 1 (by omega)).trans b, (h 2 (by omega)).trans c, (h 3 (by omega)).trans d, (h 9 (by omega)).trans f, (h 11 (by omega)).trans g⟩
theorem YN {F : CallF} {h g : Hp} {c9 c17 : Nat} {a b fr to_ : Int} {z w v u vo : Value} (W : h.Wf) (x : h.Ext g) (h9 : h.next ≤ c9) (R9 : g.Row c9 0 [.int .i64 a, .int .i64 b, z]) (Rc : g.Row c17 0 [.int .i64 fr, .int .i64 to_, w]) (hw : Bl w = true) {k : Nat} {ys : List Int} (o : g.Own k 3 w (ints .i64 ys)) {n : Nat} {cs : List Value} {k2 : Nat} (U : g.Own2 k2 vo cs n)
    {e : Env} (p : bgP v (.pointer (some ⟨c9, 0, none⟩)) fr to_ u vo e) (s17 : AB 17 e = .pointer (some ⟨c17, 0, none⟩)) :
    ∃ g', Bs [.t (AB 8), .cN (AB 9) 3, .t (AB 10)] (bgF F e g) = .ok (.tuple ⟨[vo, mvV fr to_ w, .int .i64 0]⟩) g' ∧ h.Ext g' ∧ g'.Own k 3 w (ints .i64 ys) ∧ g'.Own2 k2 vo cs n ∧ ∀ b L, g.Row b 4 L → g'.Row b 4 L := by
  obtain ⟨p0, p1, p2, p3, p9, p11⟩ := p
  have Wg := x.wf
  have xm := x.marked
  have Rq : g.marked.quiet.Row c9 0 [.int .i64 a, .int .i64 b, z] := R9.same rfl
  have Rcm : g.marked.Row c17 0 [.int .i64 fr, .int .i64 to_, w] := Rc.same rfl
  have l17 : loadN 3 ⟨c17, 0, none⟩ g.marked = .ok (mvV fr to_ w) g.marked := Rcm.loadN (by simp)
  have ho : 0 + (cellsOf (mvV fr to_ w)).length ≤ [Value.int .i64 a, .int .i64 b, z].length := by simp [mvV, Ax]
  have h256 : 256 ≤ c9 := Nat.le_trans W.big h9
  have Wq := Wg.marked.quiet
  have st := Rq.storeR (n := 3) (off := 0) Wq h256 (v := mvV fr to_ w) rfl ho (by show (bif Bl w then true else false) = true; rw [hw]; rfl)
  have xq := xm.quiet
  have xw := Rq.wr_ext xq h9 (off := 0) (vs := cellsOf (mvV fr to_ w)) ho
  have Rw := Rq.wr_self Wq (off := 0) (vs := cellsOf (mvV fr to_ w)) ho
  have oq : g.marked.quiet.Own k 3 w (ints .i64 ys) := o.same rfl
  have Uq : g.marked.quiet.Own2 k2 vo cs n := U.keep fun _ _ _ _ r => r.same rfl
  have ow : (g.marked.quiet.wr c9 0 (cellsOf (mvV fr to_ w))).Own k 3 w (ints .i64 ys) := oq.keep fun b' el L hb r => Rq.wr_other Wq (off := 0) (vs := cellsOf (mvV fr to_ w)) ho r (fun hx => oq.other Rq (by omega) (hx ▸ hb))
  have Uw : (g.marked.quiet.wr c9 0 (cellsOf (mvV fr to_ w))).Own2 k2 vo cs n := Uq.keep fun b' el L hb r => Rq.wr_other Wq (off := 0) (vs := cellsOf (mvV fr to_ w)) ho r (fun hx => Uq.other Rq (by omega) (hx ▸ hb))
  have q : ∀ e : Env, AB 9 e = .pointer (some ⟨c9, 0, none⟩) → AB 77 e = mvV fr to_ w → An .free (AY 3 (AB 9) (AB 77)) F e g.marked = .ok noRes (g.marked.back (g.marked.quiet.wr c9 0 (cellsOf (mvV fr to_ w)))) := fun e h1 h2 => DL (by rw [Au, h1, h2]; exact st)
  have xe : h.Ext (g.marked.back (g.marked.quiet.wr c9 0 (cellsOf (mvV fr to_ w)))) := xm.back2 xw
  have lr : FV 3 (.pointer (some ⟨c9, 0, none⟩)) (g.marked.back (g.marked.quiet.wr c9 0 (cellsOf (mvV fr to_ w)))) = .ok (mvV fr to_ w) (g.marked.back (g.marked.quiet.wr c9 0 (cellsOf (mvV fr to_ w)))) := (Rw.same (h' := g.marked.back (g.marked.quiet.wr c9 0 (cellsOf (mvV fr to_ w)))) rfl).loadN (by simp [over, mvV, Ax])
  have oe : (g.marked.back (g.marked.quiet.wr c9 0 (cellsOf (mvV fr to_ w)))).Own k 3 w (ints .i64 ys) := ow.same rfl
  have Ue : (g.marked.back (g.marked.quiet.wr c9 0 (cellsOf (mvV fr to_ w)))).Own2 k2 vo cs n := Uw.keep fun _ _ _ _ r => r.same rfl
  have fe : ∀ b L, g.Row b 4 L → (g.marked.back (g.marked.quiet.wr c9 0 (cellsOf (mvV fr to_ w)))).Row b 4 L := fun b L r => by
    have r1 : g.marked.quiet.Row b 4 L := r.same rfl
    exact (Rq.wr_other Wq (off := 0) (vs := cellsOf (mvV fr to_ w)) ho r1 (Cy r1 Rq (by omega))).same rfl
  generalize g.marked.back (g.marked.quiet.wr c9 0 (cellsOf (mvV fr to_ w))) = g' at q xe lr oe Ue fe
  have hrun : ∃ e2, bgF F e g = .ret e2 g' ∧ AB 8 e2 = vo ∧ AB 9 e2 = .pointer (some ⟨c9, 0, none⟩) ∧ AB 10 e2 = .int .i64 0 := by
    unfold bgF
    simp only [sT, Nat.reduceLT, Nat.reduceEqDiff, if_true, if_false, reduceIte, Cw, Ay, s17, Aw, l17, p11, p9, q]
    exact ⟨_, rfl, by simp [AE], by simp only [AE, Nat.reduceLT, Nat.reduceEqDiff, if_true, if_false, reduceIte, p9], by simp [AE]⟩
  obtain ⟨e2, r1, r2, r3, r4⟩ := hrun
  refine ⟨g', ?_, xe, oe, Ue, fe⟩
  rw [r1, AZ, F6 (v := mvV fr to_ w) (by rw [r3]; exact lr), r2, r4]
def cH (h h' : Hp) (ws : List Pw) (fr to_ : Int) (all : List Int) (r : R) : Prop := h.Ext h' ∧ ((¬ Eu ws ∧ r = .ok (.tuple ⟨[.slice none 0 0, zMv, .int .i64 2]⟩) h') ∨ (Eu ws ∧ Eo fr to_ ws ∧ r = .ok (.tuple ⟨[.slice none 0 0, zMv, .int .i64 100]⟩) h') ∨
  (Eu ws ∧ ¬ Eo fr to_ ws ∧ BN (-1) all = false ∧ r = .ok (.tuple ⟨[.slice none 0 0, zMv, .int .i64 2]⟩) h') ∨
  (Eu ws ∧ ¬ Eo fr to_ ws ∧ BN (-1) all = true ∧ ∃ vo w outs k2, r = .ok (.tuple ⟨[vo, mvV fr to_ w, .int .i64 0]⟩) h' ∧ h'.Own2 k2 vo (CC outs) ws.length ∧ (∀ y ∈ outs, h'.Own k2 3 y.2.1 (ints .i64 y.2.2)) ∧ outs.map shP = ws.map (Ev fr to_) ∧ h'.Own k2 3 w (ints .i64 (Cz (grp fr 0 ws) ws.length all))))
theorem H6 {n : Nat} {h : Hp} (W : h.Wf) {v u : Value} {ws : List Pw} {all : List Int} (d : h.PlI v ws) (D : h.NdV ws) (hl : ws.length ≤ 1000) (hz : ∀ x ∈ ws, x.2.2.length < 900000) (fr to_ : Int) (V : h.Vals u (ints .i64 all)) (hal : all.length ≤ 9000) :
    ∃ h', cH h h' ws fr to_ all (call AG (n + 9) 8 [v, .int .i64 fr, .int .i64 to_, u] h) := by
  have x1 := (Hp.Ext.refl W).push (.cells BB 3 0)
  have R9 : (h.push (.cells BB 3 0)).Row h.next 0 [.int .i64 0, .int .i64 0, .slice none 0 0] := Hp.Row.alloc W C9 rfl
  have a9 := fun (e : Env) => Bz (F := call AG (n + 8)) (e := e) (n := 3) (t := BB) W
  have n1 : (h.push (.cells BB 3 0)).next = h.next + 1 := rfl
  generalize h.push (.cells BB 3 0) = h1 at x1 R9 a9 n1
  obtain ⟨h2, y2, hM⟩ := aG (n := n) x1.wf (d.ext W x1) (D.ext W x1) hl hz fr to_
  have x2 := x1.trans y2
  have R9 := R9.ext x1.wf y2
  have V2 := V.ext W x2
  have rs := KC (n := n + 7) V2 (by omega)
  obtain ⟨gf, f1, f2, f3⟩ := Ii W x2 (Nat.le_refl _) R9
  have f1' := f1
  unfold zMv at f1'
  have fin : ∀ {e2 : Env} {g : Hp} {er : Int}, d8h (call AG (n + 8)) (Ak e0 0 [v, .int .i64 fr, .int .i64 to_, u]) h = .ret e2 g → AB 8 e2 = .slice none 0 0 → AB 9 e2 = .pointer (some ⟨h.next, 0, none⟩) → AB 10 e2 = .int .i64 er → loadN 3 ⟨h.next, 0, none⟩ g = .ok zMv g → call AG (n + 9) 8 [v, .int .i64 fr, .int .i64 to_, u] h = .ok (.tuple ⟨[.slice none 0 0, zMv, .int .i64 er]⟩) g := fun q1 q2 q3 q4 q5 => by
    rw [XC rfl, XG, q1, AZ, F6 (v := zMv) (by rw [q3]; exact q5), q2, q4]
  rcases hM with ⟨hA, m1⟩ | ⟨hA, hB, m1⟩ | ⟨hA, hB, vo, vg, outs, k2, m1, hk2, U, G, hO, hOM⟩
  · refine ⟨gf, f2, .inl ⟨hA, ?_⟩⟩
    have c1 : iNe 2 0 = true := rfl
    have hrun : ∃ e2, d8h (call AG (n + 8)) (Ak e0 0 [v, .int .i64 fr, .int .i64 to_, u]) h = .ret e2 gf ∧ AB 8 e2 = .slice none 0 0 ∧ AB 9 e2 = .pointer (some ⟨h.next, 0, none⟩) ∧ AB 10 e2 = .int .i64 2 := by
      unfold d8h
      simp only [AK, AM, Nat.succ_eq_add_one, Nat.zero_add, Nat.reduceAdd, sT, Nat.reduceLT, Nat.reduceEqDiff, if_true, if_false, reduceIte, a9, Ah, AV, Ad, m1, BK, BP, BQ, Bd, AO, AN, c1, Bg, CI, BU, Au, f1']
      exact ⟨_, rfl, by simp [AE], by simp [AE], by simp [AE]⟩
    obtain ⟨e2, r1, r2, r3, r4⟩ := hrun
    exact fin r1 r2 r3 r4 f3
  · refine ⟨gf, f2, .inr (.inl ⟨hA, hB, ?_⟩)⟩
    have c1 : iNe 100 0 = true := rfl
    have hrun : ∃ e2, d8h (call AG (n + 8)) (Ak e0 0 [v, .int .i64 fr, .int .i64 to_, u]) h = .ret e2 gf ∧ AB 8 e2 = .slice none 0 0 ∧ AB 9 e2 = .pointer (some ⟨h.next, 0, none⟩) ∧ AB 10 e2 = .int .i64 100 := by
      unfold d8h
      simp only [AK, AM, Nat.succ_eq_add_one, Nat.zero_add, Nat.reduceAdd, sT, Nat.reduceLT, Nat.reduceEqDiff, if_true, if_false, reduceIte, a9, Ah, AV, Ad, m1, BK, BP, BQ, Bd, AO, AN, c1, Bg, CI, BU, Au, f1']
      exact ⟨_, rfl, by simp [AE], by simp [AE], by simp [AE]⟩
    obtain ⟨e2, r1, r2, r3, r4⟩ := hrun
    exact fin r1 r2 r3 r4 f3
  cases hr : BN (-1) all with
  | false =>
    rw [hr] at rs
    refine ⟨gf, f2, .inr (.inr (.inl ⟨hA, hB, hr, ?_⟩))⟩
    have c1 : iNe 0 0 = false := rfl
    have hrun : ∃ e2, d8h (call AG (n + 8)) (Ak e0 0 [v, .int .i64 fr, .int .i64 to_, u]) h = .ret e2 gf ∧ AB 8 e2 = .slice none 0 0 ∧ AB 9 e2 = .pointer (some ⟨h.next, 0, none⟩) ∧ AB 10 e2 = .int .i64 2 := by
      unfold d8h
      simp only [AK, AM, Nat.succ_eq_add_one, Nat.zero_add, Nat.reduceAdd, sT, Nat.reduceLT, Nat.reduceEqDiff, if_true, if_false, reduceIte, a9, Ah, AV, Ad, m1, BK, BP, BQ, Bd, AO, AN, c1, rs, Bf, Be, Bool.not_false, Bg, CI, BU, Au, f1']
      exact ⟨_, rfl, by simp [AE], by simp [AE], by simp [AE]⟩
    obtain ⟨e2, r1, r2, r3, r4⟩ := hrun
    exact fin r1 r2 r3 r4 f3
  | true =>
  rw [hr] at rs
  have hp : 0 < ws.length := hA.1
  have y3 := (Hp.Ext.refl x2.wf).push (.map [] 0)
  have x3 := x2.trans y3
  have M3 := VE x2.wf
  have om := fun (e : Env) => Ve (F := call AG (n + 8)) (e := e) x2.wf
  have n3 : (h2.push (.map [] 0)).next = h2.next + 1 := rfl
  generalize h2.push (.map [] 0) = h3 at y3 x3 M3 om n3
  have hd : ∀ z ∈ grp fr 0 ws, 0 ≤ z ∧ z ≤ 1000 := fun z hz => by
    have := IA ws 0 z hz
    omega
  have hgl : (grp fr 0 ws).length ≤ 1000 := by
    have : ∀ (l : List Pw) (i : Nat), (grp fr i l).length ≤ l.length := by
      intro l
      induction l with
      | nil => intro i; exact Nat.le_refl _
      | cons y l ih =>
        intro i
        show (if fr ∈ y.2.2 then (i : Int) :: grp fr (i + 1) l else grp fr (i + 1) l).length ≤ l.length + 1
        by_cases hx : fr ∈ y.2.2
        · rw [if_pos hx, List.length_cons]; have := ih (i + 1); omega
        · rw [if_neg hx]; have := ih (i + 1); omega
    have := this ws 0
    omega
  have c1 : iNe 0 0 = false := rfl
  have gl := G.vals.ilen
  have gl3 := (G.ext x2.wf y3).vals.ilen
  have pre : ∃ e1, d8h (call AG (n + 8)) (Ak e0 0 [v, .int .i64 fr, .int .i64 to_, u]) h = bgS (call AG (n + 8)) e1 h3 ∧ bgP v (.pointer (some ⟨h.next, 0, none⟩)) fr to_ u vo e1 ∧ AB 14 e1 = .map (some h2.next) ∧ AB 37 e1 = vg ∧ AB 38 e1 = .int .i64 ((grp fr 0 ws).length : Int) ∧ AB 39 e1 = .int .i64 0 := by
    unfold d8h bgP
    simp only [AK, AM, Nat.succ_eq_add_one, Nat.zero_add, Nat.reduceAdd, BX, Bj, BZ, Ba, A5, Br, AE, Nat.reduceLT, Nat.reduceEqDiff, if_true, if_false, reduceIte, a9, Ah, AV, Ad, m1, BK, BP, BQ, Bd, AO, AN, c1, rs, Bf, Be, Bool.not_true, om, Al, gl3]
    exact ⟨_, rfl, ⟨by simp [AE], by simp [AE], by simp [AE], by simp [AE], by simp [AE], by simp [AE]⟩, by simp [AE], by simp [AE], by simp [AE], by simp [AE]⟩
  obtain ⟨e1, p1, pp, p14, p37, p38, p39⟩ := pre
  obtain ⟨e2, h4, q1, q2, q3, q4, q5, q6, q7⟩ := Tq (F := call AG (n + 8)) x2.wf y3 G (Nat.le_refl _) M3 hd (HY ws 0) hgl p14 p37 p38 p39 pp LL
  have x4 := x2.trans q2
  have R9 := R9.ext x2.wf q2
  have y5 := (Hp.Ext.refl q2.wf).push (.cells BB 3 0)
  have x5 := x4.push (.cells BB 3 0)
  have Rc : (h4.push (.cells BB 3 0)).Row h4.next 0 [.int .i64 0, .int .i64 0, .slice none 0 0] := Hp.Row.alloc q2.wf C9 rfl
  have a17 := fun (e : Env) => Bz (F := call AG (n + 8)) (e := e) (n := 3) (t := BB) q2.wf
  have n5 : (h4.push (.cells BB 3 0)).next = h4.next + 1 := rfl
  generalize h4.push (.cells BB 3 0) = h5 at y5 x5 Rc a17 n5
  have big : 256 ≤ h4.next := q2.wf.big
  have ho : 0 + [Value.int .i64 fr, .int .i64 to_, .slice none 0 0].length ≤ [Value.int .i64 0, .int .i64 0, .slice none 0 0].length := by simp
  have st := Rc.storeR (n := 3) (off := 0) y5.wf big (v := .agg ⟨[.int .i64 fr, .int .i64 to_, .slice none 0 0]⟩) rfl ho rfl
  rw [Ax] at st
  have y6 := Rc.wr_ext y5 (Nat.le_refl _) (off := 0) (vs := [.int .i64 fr, .int .i64 to_, .slice none 0 0]) ho
  have n6 := Rc.wr_next (off := 0) (vs := [.int .i64 fr, .int .i64 to_, .slice none 0 0]) ho
  have Rc6 := Rc.wr_self y5.wf (off := 0) (vs := [.int .i64 fr, .int .i64 to_, .slice none 0 0]) ho
  generalize h5.wr h4.next 0 [.int .i64 fr, .int .i64 to_, .slice none 0 0] = h6 at st y6 n6 Rc6
  have Rc6 : h6.Row h4.next 0 [.int .i64 fr, .int .i64 to_, .slice none 0 0] := Rc6
  have V6 := V.ext W (x4.trans y6)
  obtain ⟨pp0, pp1, pp2, pp3, pp9, pp11⟩ := q7
  have pre2 : ∃ e3, YR (call AG (n + 8)) e2 h4 = YO (call AG (n + 8)) e3 h6 ∧ bgP v (.pointer (some ⟨h.next, 0, none⟩)) fr to_ u vo e3 ∧ AB 14 e3 = .map (some h2.next) ∧ AB 17 e3 = .pointer (some ⟨h4.next, 0, none⟩) ∧ AB 51 e3 = u ∧ AB 52 e3 = .int .i64 (all.length : Int) ∧ AB 53 e3 = .int .i64 0 := by
    unfold YR bgP
    simp only [BX, D9, BZ, EB, A5, Br, AE, Nat.reduceLT, Nat.reduceEqDiff, if_true, if_false, reduceIte, Bg, CI, CV, BU, pp1, pp2, F7, De, List.length_cons, List.length_nil, Nat.zero_add, Nat.reduceAdd, Nat.reduceLeDiff, G6, G7, a17, Au, st, pp3, Al, V6.ilen]
    exact ⟨_, rfl, ⟨by simp only [AE, Nat.reduceLT, Nat.reduceEqDiff, if_true, if_false, reduceIte]; exact pp0, by simp only [AE, Nat.reduceLT, Nat.reduceEqDiff, if_true, if_false, reduceIte, pp1], by simp only [AE, Nat.reduceLT, Nat.reduceEqDiff, if_true, if_false, reduceIte, pp2], by simp only [AE, Nat.reduceLT, Nat.reduceEqDiff, if_true, if_false, reduceIte, pp3], by simp only [AE, Nat.reduceLT, Nat.reduceEqDiff, if_true, if_false, reduceIte]; exact pp9, by simp only [AE, Nat.reduceLT, Nat.reduceEqDiff, if_true, if_false, reduceIte]; exact pp11⟩, by simp only [AE, Nat.reduceLT, Nat.reduceEqDiff, if_true, if_false, reduceIte]; exact q5, by simp [AE], by simp [AE], by simp [AE], by simp [AE]⟩
  obtain ⟨e3, r1, rp, r14, r17, r51, r52, r53⟩ := pre2
  have hgz : okZ (grp fr 0 ws) := fun z hz => by have := hd z hz; omega
  have hal2 : ∀ z ∈ all, 0 ≤ z ∧ z ≤ 1099511627776 := fun z hz => by have := GG all (-1) hr z hz; omega
  obtain ⟨e4, h7, w, s1, s2, s3, s4, s5, s6⟩ := Ux (F := call AG (n + 8)) (N := ws.length) (k := h6.next) q2.wf y6 q3 hgz hp hl (fun g => d.len) (V.ext W x4) hal2 hal (Nat.le_refl _) (by omega) (Nat.le_refl _) Rc6 rp.1 r14 r17 r51 r52 r53 rp LL
  have x7 := x4.trans s2
  have R9 := R9.ext q2.wf s2
  have U7 := (U.ext x2.wf q2).ext q2.wf s2
  have hk : k2 ≤ h6.next := by
    have a1 : h2.next ≤ h4.next := q2.next
    rcases U with ⟨_, _, h0⟩ | ⟨b, _, Rb, _, hb, _⟩
    · omega
    · have := Rb.lt x2.wf; omega
  obtain ⟨g', z1, z2, z3, z4, z5⟩ := YN (F := call AG (n + 8)) W x7 (Nat.le_refl _) R9 s3 s4.vals.cells1.2 s4 U7 s6 s5
  refine ⟨g', z2, .inr (.inr (.inr ⟨hA, hB, hr, vo, w, outs, k2, ?_, z4, fun y hy => ?_, hOM, z3.le hk⟩))⟩
  rotate_left
  · exact CU (((hO y hy).ext x2.wf q2).ext q2.wf s2) fun b L _ r => z5 b L r
  rw [XC rfl, XG, p1, YP]
  simp only [BI, Aq, q1, BA, BH]
  rw [YQ, r1, Ti]
  simp only [BI, Aq, s1, BA, BH]
  exact z1
end
end Go.Proofs.Ytkafejncffinmaa
set_option linter.unusedVariables false
set_option linter.unusedSimpArgs false
namespace Go.Proofs.Ytkafejncffinmaa
noncomputable section
open Go
set_option maxRecDepth 100000
def m9A : C := (cOp (AC 53) (Aa 2 (AB 12))
(cOp (AC 54) (AU 1 (BE D8.zero 1) [(0, 2, (AB 53))])
(cOp (AC 55) (Az 2 32 37 (AB 9) (AB 54))
(cOp (AC 9) (AD (AB 55))
(A7 1)))))
def m9C : C := (cOp (AC 14) (AD (kV (.slice none 0 0)))
(cOp (AC 66) (AF 1 (AB 12))
(cOp (AC 67) (AH (AB 66))
(cOp (AC 68) (Az 1 8 3 (AB 14) (AB 67))
(cOp (AC 14) (AD (AB 68))
(cOp (AC 72) (A9 1 (AB 14) (AB 13))
(cDo (AY 1 (AB 72) (AB 2))
(cOp (AC 74) (AF 0 (AB 12))
(cOp (AC 75) (AH (AB 74))
(cOp (AC 76) (A4 .i64 (Ai .i64) (AB 75) (kV (.int .i64 1)))
(cOp (AC 78) (A6 D8.zero [(0, 1, (AB 76)), (1, 1, (AB 14))])
(cOp (AC 79) (AU 1 (BE D8.zero 1) [(0, 2, (AB 78))])
(cOp (AC 80) (Az 2 32 37 (AB 9) (AB 79))
(cOp (AC 9) (AD (AB 80))
(cOp (AC 83) (AU 1 (BE ty3.zero 1) [(0, 1, (AB 11))])
(cOp (AC 84) (Az 1 8 3 (AB 10) (AB 83))
(cOp (AC 10) (AD (AB 84))
Ac)))))))))))))))))
def m9B : C := (cOp (AC 56) (Aa 2 (AB 12))
(cOp (AC 58) (AQ 41 [(AB 56), (AB 2)])
(cOp (AC 59) (AL iGe .i64 (AB 58) (kV (.int .i64 0)))
(cG (AB 59) false (AC 61) (AF 0 (AB 12))
(cG (AB 59) false (AC 62) (AH (AB 61))
(cG (AB 59) false (AC 63) (AL iEq .i64 (AB 62) (kV (.int .i64 1099511627776)))
(cOp (AC 64) (AS (AB 59) (kV (.bool true)) (AB 63))
(AP (AB 64)
(cOp (AC 6) (AD (kV (.slice none 0 0)))
(cOp (AC 7) (AD (kV (.slice none 0 0)))
(cOp (AC 8) (AD (kV (.int .i64 100)))
Ae)))
m9C))))))))
def m9L : C := (cOp (AC 39) (Af (AB 0))
(cOp (AC 40) (AL iLt .i64 (AB 11) (AB 39))
(AP (AB 40)
(Ar (AX 1 (cOp (AC 45) (A9 2 (AB 0) (AB 11))
(cOp (AC 46) (Aa 2 (AB 45))
(cOp (AC 12) (At 2 DQ)
(cDo (AY 2 (AB 12) (AB 46))
(cOp (AC 47) (Aa 2 (AB 12))
(cOp (AC 49) (AQ 41 [(AB 47), (AB 1)])
(cOp (AC 13) (AD (AB 49))
(cOp (AC 51) (AL iLt .i64 (AB 13) (kV (.int .i64 0)))
(AP (AB 51)
m9A
m9B))))))))))
(cOp (AC 42) (A4 .i64 (Ai .i64) (AB 11) (kV (.int .i64 1)))
(cOp (AC 11) (AD (AB 42))
Ac)))
(A7 0))))
def m9E : C := (cOp (AC 6) (AD (AB 9))
(cOp (AC 7) (AD (AB 10))
(cOp (AC 8) (AD (kV (.int .i64 0)))
Ae)))
def m9S : C := (Ar (AX 0 (Ao (cOp (AC 39) (Af (AB 0))
(cOp (AC 40) (AL iLt .i64 (AB 11) (AB 39))
(AP (AB 40)
(Ar (AX 1 (cOp (AC 45) (A9 2 (AB 0) (AB 11))
(cOp (AC 46) (Aa 2 (AB 45))
(cOp (AC 12) (At 2 DQ)
(cDo (AY 2 (AB 12) (AB 46))
(cOp (AC 47) (Aa 2 (AB 12))
(cOp (AC 49) (AQ 41 [(AB 47), (AB 1)])
(cOp (AC 13) (AD (AB 49))
(cOp (AC 51) (AL iLt .i64 (AB 13) (kV (.int .i64 0)))
(AP (AB 51)
(cOp (AC 53) (Aa 2 (AB 12))
(cOp (AC 54) (AU 1 (BE D8.zero 1) [(0, 2, (AB 53))])
(cOp (AC 55) (Az 2 32 37 (AB 9) (AB 54))
(cOp (AC 9) (AD (AB 55))
(A7 1)))))
(cOp (AC 56) (Aa 2 (AB 12))
(cOp (AC 58) (AQ 41 [(AB 56), (AB 2)])
(cOp (AC 59) (AL iGe .i64 (AB 58) (kV (.int .i64 0)))
(cG (AB 59) false (AC 61) (AF 0 (AB 12))
(cG (AB 59) false (AC 62) (AH (AB 61))
(cG (AB 59) false (AC 63) (AL iEq .i64 (AB 62) (kV (.int .i64 1099511627776)))
(cOp (AC 64) (AS (AB 59) (kV (.bool true)) (AB 63))
(AP (AB 64)
(cOp (AC 6) (AD (kV (.slice none 0 0)))
(cOp (AC 7) (AD (kV (.slice none 0 0)))
(cOp (AC 8) (AD (kV (.int .i64 100)))
Ae)))
(cOp (AC 14) (AD (kV (.slice none 0 0)))
(cOp (AC 66) (AF 1 (AB 12))
(cOp (AC 67) (AH (AB 66))
(cOp (AC 68) (Az 1 8 3 (AB 14) (AB 67))
(cOp (AC 14) (AD (AB 68))
(cOp (AC 72) (A9 1 (AB 14) (AB 13))
(cDo (AY 1 (AB 72) (AB 2))
(cOp (AC 74) (AF 0 (AB 12))
(cOp (AC 75) (AH (AB 74))
(cOp (AC 76) (A4 .i64 (Ai .i64) (AB 75) (kV (.int .i64 1)))
(cOp (AC 78) (A6 D8.zero [(0, 1, (AB 76)), (1, 1, (AB 14))])
(cOp (AC 79) (AU 1 (BE D8.zero 1) [(0, 2, (AB 78))])
(cOp (AC 80) (Az 2 32 37 (AB 9) (AB 79))
(cOp (AC 9) (AD (AB 80))
(cOp (AC 83) (AU 1 (BE ty3.zero 1) [(0, 1, (AB 11))])
(cOp (AC 84) (Az 1 8 3 (AB 10) (AB 83))
(cOp (AC 10) (AD (AB 84))
Ac)))))))))))))))))))))))))))))))))))
(cOp (AC 42) (A4 .i64 (Ai .i64) (AB 11) (kV (.int .i64 1)))
(cOp (AC 11) (AD (AB 42))
Ac)))
(A7 0))))))
(cOp (AC 6) (AD (AB 9))
(cOp (AC 7) (AD (AB 10))
(cOp (AC 8) (AD (kV (.int .i64 0)))
Ae))))
theorem Ru : m9S = Ar (AX 0 (Ao m9L)) m9E := rfl
def PM : C := (cOp (AC 6) (AD (kV (.slice none 0 0)))
(cOp (AC 7) (AD (kV (.slice none 0 0)))
(cOp (AC 8) (AD (kV (.int .i64 0)))
(cOp (AC 16) (AQ 49 [(AB 0)])
(cOp (AC 17) (B7 (AB 16))
(AP (AB 17)
(cOp (AC 6) (AD (kV (.slice none 0 0)))
(cOp (AC 7) (AD (kV (.slice none 0 0)))
(cOp (AC 8) (AD (kV (.int .i64 2)))
Ae)))
(cOp (AC 19) (AL iLt .i64 (AB 1) (kV (.int .i64 0)))
(cG (AB 19) false (AC 21) (AD (AB 1))
(cG (AB 19) false (AC 22) (AL iGe .i64 (AB 21) (kV (.int .i64 256)))
(cOp (AC 23) (AS (AB 19) (kV (.bool true)) (AB 22))
(cG (AB 23) false (AC 25) (AD (AB 2))
(cG (AB 23) false (AC 26) (AL iLt .i64 (AB 25) (kV (.int .i64 0)))
(cOp (AC 27) (AS (AB 23) (kV (.bool true)) (AB 26))
(cG (AB 27) false (AC 29) (AD (AB 2))
(cG (AB 27) false (AC 30) (AL iGe .i64 (AB 29) (kV (.int .i64 256)))
(cOp (AC 31) (AS (AB 27) (kV (.bool true)) (AB 30))
(cG (AB 31) false (AC 33) (AD (AB 1))
(cG (AB 31) false (AC 34) (AD (AB 2))
(cG (AB 31) false (AC 35) (AL iEq .i64 (AB 33) (AB 34))
(cOp (AC 36) (AS (AB 31) (kV (.bool true)) (AB 35))
(AP (AB 36)
(cOp (AC 6) (AD (kV (.slice none 0 0)))
(cOp (AC 7) (AD (kV (.slice none 0 0)))
(cOp (AC 8) (AD (kV (.int .i64 100)))
Ae)))
(cOp (AC 9) (AD (kV (.slice none 0 0)))
(cOp (AC 10) (AD (kV (.slice none 0 0)))
(cOp (AC 11) (AD (kV (.int .i64 0)))
m9S))))))))))))))))))))))))
def d39 : C := PM
theorem KU {n : Nat} {args : List Value} {h : Hp} (hl : Nat.ble (Bk args) 320 = true) : call AG (Nat.succ n) 39 args h = Bs [.t (AB 6), .t (AB 7), .t (AB 8)] (d39 (call AG n) (Ak e0 0 args) h) := by
  have hb : AG.get 39 = some b39 := by kernel_rfl
  rw [BM hb]
  have hd : b39 = ⟨[.t (AB 6), .t (AB 7), .t (AB 8)], d39⟩ := by kernel_rfl
  rw [hd, BC hl]
theorem KY : d39 = PM := rfl
def Jw (e e2 : Env) : Prop := AB 0 e2 = AB 0 e ∧ AB 1 e2 = AB 1 e ∧ AB 2 e2 = AB 2 e ∧ AB 11 e2 = AB 11 e
theorem aE {F : CallF} {hL g : Hp} {k c n : Nat} {ep : Int} {u vo : Value} {cs : List Value} (x : hL.Ext g) (hk : hL.next ≤ k) (hk2 : k ≤ g.next) (Rc : g.Row c 0 [.int .i64 ep, u]) (hw : Bl u = true) (U : g.Own2 k vo cs n) (hn : n ≤ 100000)
    {e : Env} (s9 : AB 9 e = vo) (s12 : AB 12 e = .pointer (some ⟨c, 0, none⟩)) :
    ∃ e2 g2 vo2, m9A F e g = .exit 1 e2 g2 ∧ hL.Ext g2 ∧ g2.Own2 k vo2 (cs ++ [.int .i64 ep, u]) (n + 1) ∧ (∀ b L, g.Row b 4 L → g2.Row b 4 L) ∧ Jw e e2 ∧ AB 9 e2 = vo2 ∧ AB 10 e2 = AB 10 e := by
  have ld : loadN 2 ⟨c, 0, none⟩ g = .ok (.agg ⟨[.int .i64 ep, u]⟩) g := Rc.loadN (by simp)
  have ts : ∀ e : Env, AB 53 e = .agg ⟨[.int .i64 ep, u]⟩ → AU 1 (BE D8.zero 1) [(0, 2, AB 53)] F e g = .ok (.slice (some ⟨g.next, 0, none⟩) 1 1) (g.pushRow 0 [.int .i64 ep, u]) := fun e he => Hl x.wf he
  obtain ⟨g2, vo2, a1, a2, a3, a4, a5⟩ := JD x hk hk2 U (p := .int .i64 ep) (q := u) (by show (bif Bl u then true else false) = true; rw [hw]; rfl) hn
  have hrun : ∃ e2, m9A F e g = .exit 1 e2 g2 ∧ Jw e e2 ∧ AB 9 e2 = vo2 ∧ AB 10 e2 = AB 10 e := by
    unfold m9A Jw
    simp only [sT, Nat.reduceLT, Nat.reduceEqDiff, if_true, if_false, reduceIte, Ay, s12, Aw, ld, ts, Bv, s9, a1]
    exact ⟨_, rfl, ⟨by simp [AE], by simp [AE], by simp [AE], by simp [AE]⟩, by simp [AE], by simp [AE]⟩
  obtain ⟨e2, r1, r2, r3, r4⟩ := hrun
  exact ⟨e2, g2, vo2, r1, a2, a3, fun b L r => (a5 b 4 L (U.other r (by omega)) r).1, r2, r3, r4⟩
theorem aF {F : CallF} {hL g : Hp} {k c n i j : Nat} {ep to_ : Int} {u vg vo : Value} {zs gs : List Int} {cs : List Value} (hL256 : 256 ≤ hL.next) (x : hL.Ext g) (hk : hL.next ≤ k) (hk2 : k ≤ g.next) (hc : k ≤ c) (Rc : g.Row c 0 [.int .i64 ep, u]) (V : g.Vals u (ints .i64 zs)) (G : g.Own k 3 vg (ints .i64 gs)) (U : g.Own2 k vo cs n)
    (hj : j < zs.length) (hzl : zs.length ≤ 255) (hep : 0 ≤ ep ∧ ep < 1099511627776) (hgs : gs.length ≤ 100000) (hn : n ≤ 100000) {e : Env} (s2 : AB 2 e = .int .i64 to_) (s9 : AB 9 e = vo) (s10 : AB 10 e = vg) (s11 : AB 11 e = .int .i64 (i : Int)) (s12 : AB 12 e = .pointer (some ⟨c, 0, none⟩)) (s13 : AB 13 e = .int .i64 (j : Int)) :
    ∃ e2 g2 vo2 vg2 w, m9C F e g = .norm e2 g2 ∧ hL.Ext g2 ∧ g2.Own2 k vo2 (cs ++ [.int .i64 (ep + 1), w]) (n + 1) ∧ g2.Own k 3 vg2 (ints .i64 (gs ++ [(i : Int)])) ∧ g2.Own k 3 w (ints .i64 (zs.set j to_)) ∧ (∀ b, B2 w b → ¬ B2 vg2 b) ∧ (∀ b L, g.Row b 4 L → ¬ B2 vg b → g2.Row b 4 L ∧ ¬ B2 vg2 b) ∧ Jw e e2 ∧ AB 9 e2 = vo2 ∧ AB 10 e2 = vg2 := by
  have lu : load1 ⟨c, 1, none⟩ g = .ok u g := Rc.load1 (off := 1) (by simp)
  obtain ⟨g0, w, b1, x0, o0, n0, fr0⟩ := FZ (eb := 8) (en := 3) x hk hk2 (.inl ⟨rfl, rfl⟩) V (by rw [BG]; omega) (Du _ _) (by rw [BG]; simp; omega)
  have o0 : g0.Own k 3 w (ints .i64 zs) := o0
  have f0 : ∀ b el L, g.Row b el L → g0.Row b el L ∧ ¬ B2 w b := fun b el L r => fr0 b el L DS r
  obtain ⟨b, hw⟩ := o0.at (by rw [BG]; omega)
  rw [BG] at hw
  have Rw : g0.Row b 4 (ints .i64 zs) ∧ k ≤ b ∧ 256 ≤ b := by
    rcases o0 with ⟨h1, _⟩ | ⟨b', h1, h2, h3, h4⟩
    · rw [hw] at h1; cases h1
    · rw [hw] at h1
      injection h1 with h1 _ _
      injection h1 with h1
      injection h1 with h1 _ _
      subst h1
      exact ⟨h2, h3, h4⟩
  obtain ⟨Rw, hkb, hb256⟩ := Rw
  have Rc0 := (f0 _ _ _ Rc).1
  have G0 : g0.Own k 3 vg (ints .i64 gs) := CU G fun b' L _ r => (f0 b' 4 L r).1
  have U0 : g0.Own2 k vo cs n := U.keep fun b' el L _ r => (f0 b' el L r).1
  have hwb : ∀ {b'}, B2 w b' → b' = b := fun {b'} hb' => by
    obtain ⟨_, _, _, q⟩ := hb'
    rw [hw] at q
    injection q with q _ _
    injection q with q
    injection q with q _ _
    exact q.symm
  have hnb : ¬ B2 vg b := fun hv => by
    rcases G with ⟨h1, _⟩ | ⟨b', h1, h2, _⟩
    · rw [h1] at hv; exact DS hv
    · obtain ⟨_, _, _, q⟩ := hv
      rw [h1] at q
      injection q with q _ _
      injection q with q
      injection q with q _ _
      exact (f0 _ _ _ h2).2 (by rw [q]; exact ⟨0, _, _, hw⟩)
  have ci : ET 1 w (.int .i64 (j : Int)) g0 = .ok (.pointer (some ⟨b, j, none⟩)) g0 := by
    rw [hw]
    have := FE (h := g0) (es := 1) (b := b) (off := 0) (c := zs.length) (k := .i64) hj
    rw [Nat.zero_add, Nat.mul_one] at this; exact this
  have ho : j + [Value.int .i64 to_].length ≤ (ints .i64 zs).length := by rw [BG]; simp; omega
  have st1 := Rw.storeR (n := 1) (off := j) x0.wf hb256 (v := .int .i64 to_) rfl ho rfl
  have x1 := Rw.wr_ext x0 (Nat.le_trans hk hkb) (off := j) (vs := cellsOf (.int .i64 to_)) ho
  have n1 := Rw.wr_next (off := j) (vs := cellsOf (.int .i64 to_)) ho
  have o1 : ∀ b' el L, b' ≠ b → g0.Row b' el L → (g0.wr b j (cellsOf (.int .i64 to_))).Row b' el L := fun b' el L hn r => Rw.wr_other x0.wf (off := j) (vs := cellsOf (.int .i64 to_)) ho r hn
  have Rw1 := Rw.wr_self x0.wf (off := j) (vs := cellsOf (.int .i64 to_)) ho
  have Rc1 := o1 _ _ _ (Cy Rc0 Rw (by omega)) Rc0
  have G1 : (g0.wr b j (cellsOf (.int .i64 to_))).Own k 3 vg (ints .i64 gs) := G0.keep fun b' el L hb r => o1 b' el L (fun hx => hnb (hx ▸ hb)) r
  have U1 : (g0.wr b j (cellsOf (.int .i64 to_))).Own2 k vo cs n := U0.keep fun b' el L hb r => o1 b' el L (fun hx => U0.other Rw (by omega) (hx ▸ hb)) r
  generalize g0.wr b j (cellsOf (.int .i64 to_)) = g1 at st1 x1 n1 o1 Rw1 Rc1 G1 U1
  have Rw1 : g1.Row b 4 (over (ints .i64 zs) j [.int .i64 to_]) := Rw1
  rw [MI hj] at Rw1
  have le : load1 ⟨c, 0, none⟩ g1 = .ok (.int .i64 ep) g1 := Rc1.load1 (off := 0) (by simp)
  have ae : Ci .i64 (.int .i64 ep) (.int .i64 1) g1 = .ok (.int .i64 (ep + 1)) g1 := by rw [Bc, JR (by omega) (by omega)]
  obtain ⟨_, w2⟩ := o0.cells
  have kw : known w = true := by rw [hw]; rfl
  have cw : cellsOf w = [w] := by rw [hw]; rfl
  have ts : ∀ e : Env, AB 78 e = .agg ⟨[.int .i64 (ep + 1), w]⟩ → AU 1 (BE D8.zero 1) [(0, 2, AB 78)] F e g1 = .ok (.slice (some ⟨g1.next, 0, none⟩) 1 1) (g1.pushRow 0 [.int .i64 (ep + 1), w]) := fun e he => Hl x1.wf he
  obtain ⟨g2, vo2, a1, a2, a3, a4, a5⟩ := JD x1 hk (by omega) U1 (p := .int .i64 (ep + 1)) (q := w) (by show (bif Bl w then true else false) = true; rw [w2]; rfl) hn
  have G2 : g2.Own k 3 vg (ints .i64 gs) := CU G1 fun b' L _ r => (a5 b' 4 L (U1.other r (by omega)) r).1
  have Rw2 := (a5 b 4 _ (U1.other Rw1 (by omega)) Rw1).1
  have os : ∀ e : Env, AB 11 e = .int .i64 (i : Int) → AU 1 (BE ty3.zero 1) [(0, 1, AB 11)] F e g2 = .ok (.slice (some ⟨g2.next, 0, none⟩) 1 1) (g2.pushRow 0 [.int .i64 (i : Int)]) := fun e he => by rw [Hz]; exact Cn a2.wf he rfl rfl
  obtain ⟨g3, vg2, c1, c2, c3, c4, c5⟩ := Dt (eb := 8) (n := (i : Int)) (kd := .i64) a2 hk (by omega) G2 (by rw [BG]; omega)
  have c3 : g3.Own k 3 vg2 (ints .i64 (gs ++ [(i : Int)])) := by unfold ints; rw [List.map_append]; exact c3
  obtain ⟨Rw3, hnb3⟩ := c5 _ _ _ hnb Rw2
  have U3 : g3.Own2 k vo2 (cs ++ [.int .i64 (ep + 1), w]) (n + 1) := by
    rcases a3 with h1 | ⟨b', h1, h2, h3⟩
    · exact .inl h1
    · exact .inr ⟨b', h1, (c5 _ _ _ (G2.other h2 (by omega)) h2).1, h3⟩
  have z37 : D8.zero = [.int .i64 0, .slice none 0 0] := by kernel_rfl
  have hrun : ∃ e2, m9C F e g = .norm e2 g3 ∧ Jw e e2 ∧ AB 9 e2 = vo2 ∧ AB 10 e2 = vg2 := by
    have bw : ∀ e : Env, AB 76 e = .int .i64 (ep + 1) → AB 14 e = w → A6 D8.zero [(0, 1, AB 76), (1, 1, AB 14)] F e g1 = .ok (.agg ⟨[.int .i64 (ep + 1), w]⟩) g1 := fun e h1 h2 => by
      rw [z37, Bg, CV (hk := by rw [h1]; rfl), h1, De, if_pos (by rfl), if_pos (by simp), WC, CV (hk := by rw [h2]; exact kw), h2, cw, if_pos (by rfl), if_pos (by simp), WD, BU]
    unfold m9C Jw
    simp only [sT, Nat.reduceLT, Nat.reduceEqDiff, if_true, if_false, reduceIte, AW, s12, Aj, Ab, Am, Nat.zero_add, lu, Bv, b1, BV, s13, ci, Au, s2, st1, le, Bb, ae, bw, ts, s9, a1, os, s11, s10, c1]
    exact ⟨_, rfl, ⟨by simp [AE], by simp [AE], by simp only [AE, Nat.reduceLT, Nat.reduceEqDiff, if_true, if_false, reduceIte, s2], by simp only [AE, Nat.reduceLT, Nat.reduceEqDiff, if_true, if_false, reduceIte, s11]⟩, by simp [AE], by simp [AE]⟩
  obtain ⟨e2, r1, r2, r3, r4⟩ := hrun
  refine ⟨e2, g3, vo2, vg2, w, r1, c2, U3, c3, .inr ⟨b, by rw [BG, List.length_set]; exact hw, Rw3, hkb, hb256⟩, fun b' hb' => by rw [hwb hb']; exact hnb3, fun b' L r hv' => ?_, r2, r3, r4⟩
  obtain ⟨q1, q2⟩ := f0 b' 4 L r
  have q3 := o1 b' 4 L (fun hx => q2 (by rw [hx]; exact ⟨0, _, _, hw⟩)) q1
  exact c5 _ _ _ hv' (a5 b' 4 L (U1.other q3 (by omega)) q3).1
end
end Go.Proofs.Ytkafejncffinmaa
set_option linter.unusedVariables false
set_option linter.unusedSimpArgs false
namespace Go.Proofs.Ytkafejncffinmaa
noncomputable section
open Go
set_option maxRecDepth 100000
def eQ (ws : List Pw) (hL h' : Hp) (vg : Value) (outs : List Pw) : Prop := ∀ y ∈ outs, (∃ x ∈ ws, y.2 = x.2) ∨ (h'.Own hL.next 3 y.2.1 (ints .i64 y.2.2) ∧ ∀ b, B2 y.2.1 b → ¬ B2 vg b)
theorem OS {hL h' g : Hp} {vg vg2 : Value} {y : Pw} (o : h'.Own hL.next 3 y.2.1 (ints .i64 y.2.2) ∧ ∀ b, B2 y.2.1 b → ¬ B2 vg b) (hf : ∀ b L, h'.Row b 4 L → ¬ B2 vg b → g.Row b 4 L ∧ ¬ B2 vg2 b) : g.Own hL.next 3 y.2.1 (ints .i64 y.2.2) ∧ ∀ b, B2 y.2.1 b → ¬ B2 vg2 b := by
  obtain ⟨s1, s2⟩ := o
  rcases s1 with ⟨h1, h2⟩ | ⟨b, h1, h2, h3⟩
  · exact ⟨.inl ⟨h1, h2⟩, fun b hb => by rw [h1] at hb; exact (DS hb).elim⟩
  · obtain ⟨z1, z2⟩ := hf b _ h2 (s2 b ⟨0, _, _, h1⟩)
    refine ⟨.inr ⟨b, h1, z1, h3⟩, fun b' hb' => ?_⟩
    obtain ⟨_, _, _, q⟩ := hb'
    rw [h1] at q
    injection q with q _ _
    injection q with q
    injection q with q _ _
    rw [← q]; exact z2
theorem Uy {n : Nat} {hL : Hp} {v : Value} {fr to_ : Int} {ws : List Pw} (W0 : hL.Wf) (d : hL.PlI v ws) (D : hL.NdV ws) (hok : ∀ x ∈ ws, okP x.1 x.2.2) (hl : ws.length ≤ 1000)
    {e : Env} (s0 : AB 0 e = v) (s1 : AB 1 e = .int .i64 fr) (s2 : AB 2 e = .int .i64 to_) (s9 : AB 9 e = .slice none 0 0) (s10 : AB 10 e = .slice none 0 0) (s11 : AB 11 e = .int .i64 0) :
    (∃ e2 g vo outs, Ao m9L (call AG (n + 1)) e hL = .exit 0 e2 g ∧ hL.Ext g ∧ g.Own2 hL.next vo (CC outs) ws.length ∧ (∀ y ∈ outs, (∃ x ∈ ws, y.2 = x.2) ∨ g.Own hL.next 3 y.2.1 (ints .i64 y.2.2)) ∧ outs.map shP = ws.map (Ev fr to_) ∧ (∀ x ∈ ws, ¬ Gv fr to_ x) ∧ AB 9 e2 = vo) ∨
    (∃ e2 g, Ao m9L (call AG (n + 1)) e hL = .ret e2 g ∧ hL.Ext g ∧ AB 6 e2 = .slice none 0 0 ∧ AB 7 e2 = .slice none 0 0 ∧ AB 8 e2 = .int .i64 100 ∧ ∃ x ∈ ws, Gv fr to_ x) := by
  refine Bo (I := fun i e' h' => ∃ (vo vg : Value) (outs : List Pw) (gs : List Int), hL.Ext h' ∧ h'.Own2 hL.next vo (CC outs) i ∧ h'.Own hL.next 3 vg (ints .i64 gs) ∧ gs.length ≤ i ∧ i ≤ ws.length ∧ eQ ws hL h' vg outs ∧ outs.map shP = (ws.take i).map (Ev fr to_) ∧ (∀ x ∈ ws.take i, ¬ Gv fr to_ x) ∧ AB 0 e' = v ∧ AB 1 e' = .int .i64 fr ∧ AB 2 e' = .int .i64 to_ ∧ AB 9 e' = vo ∧ AB 10 e' = vg ∧ AB 11 e' = .int .i64 (i : Int))
    (Q := fun y => (∃ e2 g vo outs, y = .exit 0 e2 g ∧ hL.Ext g ∧ g.Own2 hL.next vo (CC outs) ws.length ∧ (∀ y ∈ outs, (∃ x ∈ ws, y.2 = x.2) ∨ g.Own hL.next 3 y.2.1 (ints .i64 y.2.2)) ∧ outs.map shP = ws.map (Ev fr to_) ∧ (∀ x ∈ ws, ¬ Gv fr to_ x) ∧ AB 9 e2 = vo) ∨
      (∃ e2 g, y = .ret e2 g ∧ hL.Ext g ∧ AB 6 e2 = .slice none 0 0 ∧ AB 7 e2 = .slice none 0 0 ∧ AB 8 e2 = .int .i64 100 ∧ ∃ x ∈ ws, Gv fr to_ x)) ws.length (by omega)
    (fun i e' h' ⟨vo, vg, outs, gs, ex, U, G, hgl, hi, hS, hM, hN, t0, t1, t2, t9, t10, t11⟩ => ?_) ⟨_, _, [], [], .refl W0, .inl ⟨rfl, rfl, rfl⟩, .inl ⟨rfl, rfl⟩, Nat.le_refl _, Nat.zero_le _, (fun y hy => by cases hy), rfl, (fun x hx => by cases hx), s0, s1, s2, s9, s10, s11⟩
  have ln : Ca v h' = .ok (.int .i64 (ws.length : Int)) h' := d.len
  have W := ex.wf
  by_cases hlt : i < ws.length
  · have hx : ws[i]? = some ws[i] := List.getElem?_eq_getElem hlt
    have hxm : ws[i] ∈ ws := List.getElem_mem hlt
    have htk : ws.take (i + 1) = ws.take i ++ [ws[i]] := by rw [List.take_add_one, hx]; rfl
    obtain ⟨aa, ci, ld⟩ := (d.ext W0 ex).at hx
    generalize ws[i] = x at hx hxm htk ld
    obtain ⟨p1, p2, p3, p4, p5⟩ := hok x hxm
    have Dx := D x hxm
    obtain ⟨ux1, ux2⟩ := Dx.cells (by omega)
    have big : 256 ≤ hL.next := W0.big
    have y1 := (Hp.Ext.refl W).push (.cells DQ 2 0)
    have Rc : (h'.push (.cells DQ 2 0)).Row h'.next 0 [.int .i64 0, .slice none 0 0] := Hp.Row.alloc W LC rfl
    have al := fun (e : Env) => Bz (F := call AG (n + 1)) (e := e) (n := 2) (t := DQ) W
    generalize h'.push (.cells DQ 2 0) = h1 at y1 Rc al
    have ho : 0 + (cellsOf (plV x.1 x.2.1)).length ≤ [Value.int .i64 0, .slice none 0 0].length := by simp [plV, Ax]
    have hcx : hL.next ≤ h'.next := ex.next
    have st1 := Rc.storeR (n := 2) (off := 0) y1.wf (by omega) (v := plV x.1 x.2.1) rfl ho (by show (bif Bl x.2.1 then true else false) = true; rw [ux2]; rfl)
    have y2 := Rc.wr_ext y1 (Nat.le_refl _) (off := 0) (vs := cellsOf (plV x.1 x.2.1)) ho
    have Rc2 := Rc.wr_self y1.wf (off := 0) (vs := cellsOf (plV x.1 x.2.1)) ho
    generalize h1.wr h'.next 0 (cellsOf (plV x.1 x.2.1)) = h2 at st1 y2 Rc2
    have Rc2 : h2.Row h'.next 0 [.int .i64 x.1, x.2.1] := Rc2
    have l1 : loadN 2 ⟨h'.next, 0, none⟩ h2 = .ok (plV x.1 x.2.1) h2 := Rc2.loadN (by simp)
    have k1 := Ha (n := n) (x := fr) y2.wf (ep := x.1) (((Dx.ext W0 ex).vals (by omega)).ext W y2) (by omega)
    have z3 := DK y2.wf (ep := x.1) (w := x.2.1)
    have y3 := y2.trans z3
    have Rc3 := Rc2.ext y2.wf z3
    generalize h2.pushRow 0 [.int .i64 x.1, x.2.1] = h3 at k1 z3 y3 Rc3
    have l3 : loadN 2 ⟨h'.next, 0, none⟩ h3 = .ok (plV x.1 x.2.1) h3 := Rc3.loadN (by simp)
    have c1 : iLt (i : Int) (ws.length : Int) = true := by rw [As]; simp; omega
    have x3 := ex.trans y3
    have inc : ∀ {e2 : Env} {g : Hp}, AB 11 e2 = .int .i64 (i : Int) → ∃ e4, (cOp (AC 42) (A4 .i64 (Ai .i64) (AB 11) (kV (.int .i64 1))) (cOp (AC 11) (AD (AB 42)) Ac)) (call AG (n + 1)) e2 g = .norm e4 g ∧ AB 0 e4 = AB 0 e2 ∧ AB 1 e4 = AB 1 e2 ∧ AB 2 e4 = AB 2 e2 ∧ AB 9 e4 = AB 9 e2 ∧ AB 10 e4 = AB 10 e2 ∧ AB 11 e4 = .int .i64 ((i + 1 : Nat) : Int) := fun {e2 g} h11 => by
      have a3 : Ci .i64 (.int .i64 (i : Int)) (.int .i64 1) g = .ok (.int .i64 ((i + 1 : Nat) : Int)) g := by
        have : (i : Int) + 1 = ((i + 1 : Nat) : Int) := by omega
        rw [Bc, this, BJ (by omega)]
      simp only [sT, Nat.reduceLT, Nat.reduceEqDiff, if_true, if_false, reduceIte, Bb, h11, a3]
      exact ⟨_, rfl, by simp [AE], by simp [AE], by simp [AE], by simp [AE], by simp [AE], by simp [AE]⟩
    by_cases hf : fr ∈ x.2.2
    · obtain ⟨j, hj, hjz, _⟩ := Ki hf
      rw [hjz] at k1
      have c2 : iLt (j : Int) 0 = false := by rw [As]; simp
      have pre : ∃ e2, m9L (call AG (n + 1)) e' h' = Hi (DT 1 (m9B (call AG (n + 1)) e2 h3)) (cOp (AC 42) (A4 .i64 (Ai .i64) (AB 11) (kV (.int .i64 1))) (cOp (AC 11) (AD (AB 42)) Ac)) (call AG (n + 1)) ∧ AB 0 e2 = v ∧ AB 1 e2 = .int .i64 fr ∧ AB 2 e2 = .int .i64 to_ ∧ AB 9 e2 = vo ∧ AB 10 e2 = vg ∧ AB 11 e2 = .int .i64 (i : Int) ∧ AB 12 e2 = .pointer (some ⟨h'.next, 0, none⟩) ∧ AB 13 e2 = .int .i64 (j : Int) := by
        unfold m9L
        simp only [BX, D9, Bj, BI, Aq, BZ, EB, CM, Ba, A5, Br, AE, Nat.reduceLT, Nat.reduceEqDiff, if_true, if_false, reduceIte, Al, t0, ln, AO, AN, t11, c1, BV, ci, Ay, Aw, ld, al, Au, st1, l1, Ah, AV, Ad, t1, k1, c2]
        exact ⟨_, rfl, by simp only [AE, Nat.reduceLT, Nat.reduceEqDiff, if_true, if_false, reduceIte]; exact t0, by simp only [AE, Nat.reduceLT, Nat.reduceEqDiff, if_true, if_false, reduceIte]; exact t1, by simp only [AE, Nat.reduceLT, Nat.reduceEqDiff, if_true, if_false, reduceIte]; exact t2, by simp only [AE, Nat.reduceLT, Nat.reduceEqDiff, if_true, if_false, reduceIte]; exact t9, by simp only [AE, Nat.reduceLT, Nat.reduceEqDiff, if_true, if_false, reduceIte]; exact t10, by simp only [AE, Nat.reduceLT, Nat.reduceEqDiff, if_true, if_false, reduceIte]; exact t11, by simp [AE], by simp [AE]⟩
      obtain ⟨e2, r, q0, q1, q2, q9, q10, q11, q12, q13⟩ := pre
      have k2 := Ha (n := n) (x := to_) y3.wf (ep := x.1) (((Dx.ext W0 ex).vals (by omega)).ext W y3) (by omega)
      have z4 := DK y3.wf (ep := x.1) (w := x.2.1)
      have y4 := y3.trans z4
      have Rc4 := Rc3.ext y3.wf z4
      generalize h3.pushRow 0 [.int .i64 x.1, x.2.1] = h4 at k2 z4 y4 Rc4
      have x4 := ex.trans y4
      have l4 : load1 ⟨h'.next, 0, none⟩ h4 = .ok (.int .i64 x.1) h4 := Rc4.load1 (off := 0) (by simp)
      have c3 := FU to_ x.2.2
      have c4 : iEq x.1 1099511627776 = decide (1099511627776 ≤ x.1) := by
        rw [B6, Bool.eq_iff_iff, beq_iff_eq, decide_eq_true_eq]; omega
      by_cases hh : to_ ∈ x.2.2 ∨ 1099511627776 ≤ x.1
      · right
        have hrun : ∃ e3, m9B (call AG (n + 1)) e2 h3 = .ret e3 h4 ∧ AB 6 e3 = .slice none 0 0 ∧ AB 7 e3 = .slice none 0 0 ∧ AB 8 e3 = .int .i64 100 := by
          unfold m9B
          by_cases h5 : to_ ∈ x.2.2
          · rw [decide_eq_true h5] at c3
            simp only [sT, Nat.reduceLT, Nat.reduceEqDiff, if_true, if_false, reduceIte, gD, Ay, q12, Aw, l3, Ah, AV, Ad, q2, k2, AO, AN, c3]
            exact ⟨_, rfl, by simp [AE], by simp [AE], by simp [AE]⟩
          · rw [decide_eq_false h5] at c3
            rw [decide_eq_true (hh.resolve_left h5)] at c4
            simp only [sT, Nat.reduceLT, Nat.reduceEqDiff, if_true, if_false, reduceIte, gD, Ay, q12, Aw, l3, Ah, AV, Ad, q2, k2, AO, AN, c3, AW, Aj, Ab, Am, l4, c4]
            exact ⟨_, rfl, by simp [AE], by simp [AE], by simp [AE]⟩
        obtain ⟨e3, r1, r2, r3, r4⟩ := hrun
        rw [r, r1, BL, Bw]
        exact ⟨rfl, .inr ⟨e3, h4, rfl, x4, r2, r3, r4, x, hxm, hf, hh⟩⟩
      · left
        have h5 : to_ ∉ x.2.2 := fun h => hh (.inl h)
        have h6 : ¬ 1099511627776 ≤ x.1 := fun h => hh (.inr h)
        rw [decide_eq_false h5] at c3
        rw [decide_eq_false h6] at c4
        have hrun : ∃ e3, m9B (call AG (n + 1)) e2 h3 = m9C (call AG (n + 1)) e3 h4 ∧ AB 0 e3 = v ∧ AB 1 e3 = .int .i64 fr ∧ AB 2 e3 = .int .i64 to_ ∧ AB 9 e3 = vo ∧ AB 10 e3 = vg ∧ AB 11 e3 = .int .i64 (i : Int) ∧ AB 12 e3 = .pointer (some ⟨h'.next, 0, none⟩) ∧ AB 13 e3 = .int .i64 (j : Int) := by
          unfold m9B
          simp only [sT, Nat.reduceLT, Nat.reduceEqDiff, if_true, if_false, reduceIte, gD, Ay, q12, Aw, l3, Ah, AV, Ad, q2, k2, AO, AN, c3, AW, Aj, Ab, Am, l4, c4]
          exact ⟨_, rfl, by simp only [AE, Nat.reduceLT, Nat.reduceEqDiff, if_true, if_false, reduceIte]; exact q0, by simp only [AE, Nat.reduceLT, Nat.reduceEqDiff, if_true, if_false, reduceIte]; exact q1, by simp only [AE, Nat.reduceLT, Nat.reduceEqDiff, if_true, if_false, reduceIte]; exact q2, by simp only [AE, Nat.reduceLT, Nat.reduceEqDiff, if_true, if_false, reduceIte]; exact q9, by simp only [AE, Nat.reduceLT, Nat.reduceEqDiff, if_true, if_false, reduceIte]; exact q10, by simp only [AE, Nat.reduceLT, Nat.reduceEqDiff, if_true, if_false, reduceIte]; exact q11, by simp only [AE, Nat.reduceLT, Nat.reduceEqDiff, if_true, if_false, reduceIte]; exact q12, by simp only [AE, Nat.reduceLT, Nat.reduceEqDiff, if_true, if_false, reduceIte]; exact q13⟩
        obtain ⟨e3, r1, v0, v1, v2, v9, v10, v11, v12, v13⟩ := hrun
        have G4 := G.ext W y4
        have U4 := U.ext W y4
        obtain ⟨e4, g, vo2, vg2, w, m1, m2, m3, m4, m5, m6, m7, ⟨m8, m9, m10, m11⟩, m12, m13⟩ := aF (F := call AG (n + 1)) big x4 (Nat.le_refl _) x4.next hcx Rc4 ((Dx.ext W0 x4).vals (by omega)) G4 U4 hj p4 ⟨by omega, by omega⟩ (by omega) (by omega) v2 v9 v10 v11 v12 v13
        obtain ⟨e5, w1, w2, w3, w4, w5, w6, w7⟩ := inc (g := g) (m11.trans v11)
        refine ⟨hlt, e5, g, by rw [r, r1, m1, Ce, BH, w1], vo2, vg2, outs ++ [(x.1 + 1, w, x.2.2.set j to_)], gs ++ [(i : Int)], m2, by rw [FD]; exact m3, m4, by rw [List.length_append, List.length_singleton]; omega, hlt, fun y hy => ?_, by rw [htk, List.map_append, List.map_append, hM]; show _ = _ ++ [Ev fr to_ x]; unfold Ev; rw [if_pos hf, hjz]; rfl, fun y hy => ?_, w2.trans (m8.trans v0), w3.trans (m9.trans v1), w4.trans (m10.trans v2), w5.trans m12, w6.trans m13, w7⟩
        · rcases List.mem_append.1 hy with hy | hy
          · rcases hS y hy with h1 | h1
            · exact .inl h1
            · exact .inr (OS h1 fun b L rr hv => m7 b L (rr.ext W y4) hv)
          · rw [List.mem_singleton.1 hy]
            exact .inr ⟨m5, m6⟩
        · rw [htk] at hy
          rcases List.mem_append.1 hy with hy | hy
          · exact hN y hy
          · rw [List.mem_singleton.1 hy]
            exact fun h => hh h.2
    · left
      rw [OY hf] at k1
      have c2 : iLt (-1) 0 = true := rfl
      have pre : ∃ e2, m9L (call AG (n + 1)) e' h' = Hi (DT 1 (m9A (call AG (n + 1)) e2 h3)) (cOp (AC 42) (A4 .i64 (Ai .i64) (AB 11) (kV (.int .i64 1))) (cOp (AC 11) (AD (AB 42)) Ac)) (call AG (n + 1)) ∧ AB 0 e2 = v ∧ AB 1 e2 = .int .i64 fr ∧ AB 2 e2 = .int .i64 to_ ∧ AB 9 e2 = vo ∧ AB 10 e2 = vg ∧ AB 11 e2 = .int .i64 (i : Int) ∧ AB 12 e2 = .pointer (some ⟨h'.next, 0, none⟩) := by
        unfold m9L
        simp only [BX, D9, Bj, BI, Aq, BZ, EB, CM, Ba, A5, Br, AE, Nat.reduceLT, Nat.reduceEqDiff, if_true, if_false, reduceIte, Al, t0, ln, AO, AN, t11, c1, BV, ci, Ay, Aw, ld, al, Au, st1, l1, Ah, AV, Ad, t1, k1, c2]
        exact ⟨_, rfl, by simp only [AE, Nat.reduceLT, Nat.reduceEqDiff, if_true, if_false, reduceIte]; exact t0, by simp only [AE, Nat.reduceLT, Nat.reduceEqDiff, if_true, if_false, reduceIte]; exact t1, by simp only [AE, Nat.reduceLT, Nat.reduceEqDiff, if_true, if_false, reduceIte]; exact t2, by simp only [AE, Nat.reduceLT, Nat.reduceEqDiff, if_true, if_false, reduceIte]; exact t9, by simp only [AE, Nat.reduceLT, Nat.reduceEqDiff, if_true, if_false, reduceIte]; exact t10, by simp only [AE, Nat.reduceLT, Nat.reduceEqDiff, if_true, if_false, reduceIte]; exact t11, by simp [AE]⟩
      obtain ⟨e2, r, q0, q1, q2, q9, q10, q11, q12⟩ := pre
      obtain ⟨e4, g, vo2, m1, m2, m3, m4, ⟨m5, m6, m7, m8⟩, m9, m10⟩ := aE (F := call AG (n + 1)) x3 (Nat.le_refl _) x3.next Rc3 ux2 (U.ext W y3) (by omega) q9 q12
      obtain ⟨e5, w1, w2, w3, w4, w5, w6, w7⟩ := inc (g := g) (m8.trans q11)
      have hvg : ∀ b L, h'.Row b 4 L → ¬ B2 vg b → g.Row b 4 L ∧ ¬ B2 vg b := fun b L rr hv => ⟨m4 b L (rr.ext W y3), hv⟩
      refine ⟨hlt, e5, g, by rw [r, m1, BA, BH, w1], vo2, vg, outs ++ [(x.1, x.2.1, x.2.2)], gs, m2, by rw [FD]; exact m3, CU G (fun b L _ rr => m4 b L (rr.ext W y3)), by omega, hlt, fun y hy => ?_, by rw [htk, List.map_append, List.map_append, hM]; show _ = _ ++ [Ev fr to_ x]; unfold Ev; rw [if_neg hf]; rfl, fun y hy => ?_, w2.trans (m5.trans q0), w3.trans (m6.trans q1), w4.trans (m7.trans q2), w5.trans m9, w6.trans (m10.trans q10), w7⟩
      · rcases List.mem_append.1 hy with hy | hy
        · rcases hS y hy with h1 | h1
          · exact .inl h1
          · exact .inr (OS h1 hvg)
        · rw [List.mem_singleton.1 hy]
          exact .inl ⟨x, hxm, rfl⟩
      · rw [htk] at hy
        rcases List.mem_append.1 hy with hy | hy
        · exact hN y hy
        · rw [List.mem_singleton.1 hy]
          exact fun h => hf h.1
  · right
    have c1 : iLt (i : Int) (ws.length : Int) = false := by rw [As]; simp; omega
    have hrun : ∃ e2, m9L (call AG (n + 1)) e' h' = .exit 0 e2 h' ∧ AB 9 e2 = vo := by
      unfold m9L
      simp only [sT, Nat.reduceLT, Nat.reduceEqDiff, if_true, if_false, reduceIte, Al, t0, ln, AO, AN, t11, c1]
      exact ⟨_, rfl, by simp only [AE, Nat.reduceLT, Nat.reduceEqDiff, if_true, if_false, reduceIte]; exact t9⟩
    obtain ⟨e2, r1, r2⟩ := hrun
    rw [r1]
    have hi' : i = ws.length := by omega
    subst hi'
    rw [List.take_length] at hM hN
    refine ⟨rfl, .inl ⟨e2, h', vo, outs, rfl, ex, U, fun y hy => ?_, hM, hN, r2⟩⟩
    rcases hS y hy with h1 | h1
    · exact .inl h1
    · exact .inr h1.1
theorem Ry {n : Nat} {h : Hp} (W : h.Wf) {v : Value} {ws : List Pw} (d : h.PlI v ws) (D : h.NdV ws) (hl : ws.length ≤ 1000) (fr to_ : Int) :
    ∃ h', h.Ext h' ∧ ((¬ Eu ws ∧ ∃ a b, call AG (n + 3) 39 [v, .int .i64 fr, .int .i64 to_] h = .ok (.tuple ⟨[a, b, .int .i64 2]⟩) h') ∨ (Eu ws ∧ Eo fr to_ ws ∧ ∃ a b, call AG (n + 3) 39 [v, .int .i64 fr, .int .i64 to_] h = .ok (.tuple ⟨[a, b, .int .i64 100]⟩) h') ∨
      (Eu ws ∧ ¬ Eo fr to_ ws ∧ ∃ vo vg outs k2, call AG (n + 3) 39 [v, .int .i64 fr, .int .i64 to_] h = .ok (.tuple ⟨[vo, vg, .int .i64 0]⟩) h' ∧ h'.Own2 k2 vo (CC outs) ws.length ∧ (∀ y ∈ outs, (∃ x ∈ ws, y.2 = x.2) ∨ h'.Own k2 3 y.2.1 (ints .i64 y.2.2)) ∧ outs.map shP = ws.map (Ev fr to_))) := by
  obtain ⟨r1, h1, k1, x1, t1⟩ := Te (n := n) W d D hl
  cases r1 with
  | false =>
    refine ⟨h1, x1, .inl ⟨fun h => (by have := t1.2 h; cases this), .slice none 0 0, .slice none 0 0, ?_⟩⟩
    rw [KU rfl, KY]
    unfold PM
    simp only [AK, AM, Nat.succ_eq_add_one, Nat.zero_add, Nat.reduceAdd, sT, Nat.reduceLT, Nat.reduceEqDiff, if_true, if_false, reduceIte, Ah, AV, Ad, k1, Bf, Be, Bool.not_false, AZ, CW]
  | true =>
    have hall := t1.1 rfl
    by_cases hb : (0 ≤ fr ∧ fr < 256) ∧ (0 ≤ to_ ∧ to_ < 256) ∧ fr ≠ to_
    · obtain ⟨⟨b1, b2⟩, ⟨b3, b4⟩, b5⟩ := hb
      have c1 : iLt fr 0 = false := by rw [As]; simp; omega
      have c2 : iGe fr 256 = false := by rw [Cl]; simp; omega
      have c3 : iLt to_ 0 = false := by rw [As]; simp; omega
      have c4 : iGe to_ 256 = false := by rw [Cl]; simp; omega
      have c5 : iEq fr to_ = false := by rw [B6]; simpa using b5
      have pre : ∃ e1, PM (call AG (n + 2)) (Ak e0 0 [v, .int .i64 fr, .int .i64 to_]) h = m9S (call AG (n + 2)) e1 h1 ∧ AB 0 e1 = v ∧ AB 1 e1 = .int .i64 fr ∧ AB 2 e1 = .int .i64 to_ ∧ AB 9 e1 = .slice none 0 0 ∧ AB 10 e1 = .slice none 0 0 ∧ AB 11 e1 = .int .i64 0 := by
        unfold PM
        simp only [AK, AM, Nat.succ_eq_add_one, Nat.zero_add, Nat.reduceAdd, BX, Bj, BZ, Ba, A5, Br, AE, Nat.reduceLT, Nat.reduceEqDiff, if_true, if_false, reduceIte, gD, Ah, AV, Ad, k1, Bf, Be, Bool.not_true, AO, AN, c1, c2, c3, c4, c5]
        exact ⟨_, rfl, by simp [AE], by simp [AE], by simp [AE], by simp [AE], by simp [AE], by simp [AE]⟩
      obtain ⟨e1, p1, p2, p3, p4, p5, p6, p7⟩ := pre
      rcases Uy (n := n + 1) x1.wf (d.ext W x1) (D.ext W x1) hall.2.2 hl p2 p3 p4 p5 p6 p7 with ⟨e2, g, vo, outs, q1, q2, q3, q4, q5, q6, q7⟩ | ⟨e2, g, q1, q2, q3, q4, q5, q6⟩
      · refine ⟨g, x1.trans q2, .inr (.inr ⟨hall, ?_, vo, AB 10 e2, outs, h1.next, ?_, q3, q4, q5⟩)⟩
        · rintro (h | h | h | ⟨x, hx, h⟩)
          · exact h ⟨b1, b2⟩
          · exact h ⟨b3, b4⟩
          · exact b5 h
          · exact q6 x hx h
        · rw [KU rfl, KY, p1, Ru]
          simp only [BI, Aq, q1, BA, BH]
          unfold m9E
          simp only [sT, Nat.reduceLT, Nat.reduceEqDiff, if_true, if_false, reduceIte, q7, AZ, CW]
      · refine ⟨g, x1.trans q2, .inr (.inl ⟨hall, .inr (.inr (.inr q6)), .slice none 0 0, .slice none 0 0, ?_⟩)⟩
        rw [KU rfl, KY, p1, Ru]
        simp only [BI, Aq, q1, BL, Bw, AZ, CW, q3, q4, q5]
    · have hbad : Eo fr to_ ws := by
        by_cases z1 : 0 ≤ fr ∧ fr < 256
        · by_cases z2 : 0 ≤ to_ ∧ to_ < 256
          · by_cases z3 : fr = to_
            · exact .inr (.inr (.inl z3))
            · exact (hb ⟨z1, z2, z3⟩).elim
          · exact .inr (.inl z2)
        · exact .inl z1
      refine ⟨h1, x1, .inr (.inl ⟨hall, hbad, .slice none 0 0, .slice none 0 0, ?_⟩)⟩
      rw [KU rfl, KY]
      unfold PM
      have fs : ∀ {a b c d f : Bool}, iLt fr 0 = a → iGe fr 256 = b → iLt to_ 0 = c → iGe to_ 256 = d → iEq fr to_ = f → (a || b || c || d || f) = true := fun ha hb' hc hd hf => by
        subst ha hb' hc hd hf
        rw [As, Cl, As, Cl, B6]
        simp only [Bool.or_eq_true, decide_eq_true_eq, beq_iff_eq]
        omega
      generalize c1 : iLt fr 0 = a1 at fs
      generalize c2 : iGe fr 256 = a2 at fs
      generalize c3 : iLt to_ 0 = a3 at fs
      generalize c4 : iGe to_ 256 = a4 at fs
      generalize c5 : iEq fr to_ = a5 at fs
      have fs := fs rfl rfl rfl rfl rfl
      cases a1
      · cases a2
        · cases a3
          · cases a4
            · cases a5
              · cases fs
              · simp only [AK, AM, Nat.succ_eq_add_one, Nat.zero_add, Nat.reduceAdd, sT, Nat.reduceLT, Nat.reduceEqDiff, if_true, if_false, reduceIte, gD, Ah, AV, Ad, k1, Bf, Be, Bool.not_true, AO, AN, c1, c2, c3, c4, c5, AZ, CW]
            · simp only [AK, AM, Nat.succ_eq_add_one, Nat.zero_add, Nat.reduceAdd, sT, Nat.reduceLT, Nat.reduceEqDiff, if_true, if_false, reduceIte, gD, Ah, AV, Ad, k1, Bf, Be, Bool.not_true, AO, AN, c1, c2, c3, c4, AZ, CW]
          · simp only [AK, AM, Nat.succ_eq_add_one, Nat.zero_add, Nat.reduceAdd, sT, Nat.reduceLT, Nat.reduceEqDiff, if_true, if_false, reduceIte, gD, Ah, AV, Ad, k1, Bf, Be, Bool.not_true, AO, AN, c1, c2, c3, AZ, CW]
        · simp only [AK, AM, Nat.succ_eq_add_one, Nat.zero_add, Nat.reduceAdd, sT, Nat.reduceLT, Nat.reduceEqDiff, if_true, if_false, reduceIte, gD, Ah, AV, Ad, k1, Bf, Be, Bool.not_true, AO, AN, c1, c2, AZ, CW]
      · simp only [AK, AM, Nat.succ_eq_add_one, Nat.zero_add, Nat.reduceAdd, sT, Nat.reduceLT, Nat.reduceEqDiff, if_true, if_false, reduceIte, gD, Ah, AV, Ad, k1, Bf, Be, Bool.not_true, AO, AN, c1, AZ, CW]
end
end Go.Proofs.Ytkafejncffinmaa
