/-
  'MoveTells' of layer 17 answers true, whatever memory it is called in, whatever placements, nodes, stripes, moves and bytes it is handed and whatever the tape answers: no condition. What the canonical machine gives is shown for any of them (YtkafejncffinmaaMt3); that machine is sound for the model (YtkafejncffinmaaFns).
  Placements that came in: what is known of a slice of them, and the rows that the machine holds for it.
  'MoveTells', on the machine: true for any placements, move, stripes, nodes and bytes.
  'MoveTells', on the machine: its parts ahead of the last one.
  'MoveTells', on the machine: its last part.
  The program's answer beside the document's: Begin, Mended, Bytes, Read.
  Placements that are few, that are the same; copies: what these functions give.
  Mended of the document (cooperageref17): what it gives, whatever it is handed.
  place.Of, slices.Delete, move.Mended, move.Over: what they give.
  Begin of the document (cooperageref17), whole.
  Begin of the document (cooperageref17): what it gives, whatever it is handed.
-/
import Derived.Test.YtkafejncffinmaaZG
import Derived.Test.YtkafejncffinmaaRows
import Derived.ProofKit
import Derived.OpenShut
import Derived.Carry
set_option linter.unusedVariables false
set_option linter.unusedSimpArgs false
namespace Go.Proofs.Ytkafejncffinmaa
noncomputable section
open Go
set_option maxRecDepth 100000
theorem So {F : CallF} {hB g : Hp} (WB : hB.Wf) (ex : hB.Ext g) {c : Nat} {f t d : Int} {w : Value} {ys : List Int} (hc : hB.next ≤ c) (R : g.Row c 0 [.int .i64 f, .int .i64 t, w]) (o : g.Own hB.next 3 w (ints .i64 ys)) (hy : ys.length ≤ 100000) : ∃ m1 m2 m3 w2,
    (∀ e : Env, AB 59 e = .int .i64 d → An .strong (AU 1 (BE ty3.zero 1) [(0, 1, AB 59)]) F e g.marked = .ok (.slice (some ⟨g.next, 0, none⟩) 1 1) m1) ∧
    (∀ e : Env, AB 55 e = w → AB 60 e = .slice (some ⟨g.next, 0, none⟩) 1 1 → An .free (Az 1 8 3 (AB 55) (AB 60)) F e m1 = .ok w2 m2) ∧
    (∀ e : Env, AB 62 e = .pointer (some ⟨c, 2, none⟩) → AB 61 e = w2 → An .free (AY 1 (AB 62) (AB 61)) F e m2 = .ok noRes m3) ∧ hB.Ext m3 ∧ m3.Row c 0 [.int .i64 f, .int .i64 t, w2] ∧ m3.Own hB.next 3 w2 (ints .i64 (ys ++ [d])) := by
  have big : 256 ≤ c := Nat.le_trans WB.big hc
  have xm := ex.marked
  have Wm := xm.wf
  have os : ∀ e : Env, AB 59 e = .int .i64 d → AU 1 (BE ty3.zero 1) [(0, 1, AB 59)] F e g.marked.quiet = .ok (.slice (some ⟨g.next, 0, none⟩) 1 1) (g.marked.quiet.pushRow 0 [.int .i64 d]) := fun e he => by rw [Hz]; exact Cn Wm.quiet he rfl rfl
  have y1 := (Hp.Ext.refl Wm.quiet).pushRow 0 [.int .i64 d]
  have q1 : ∀ e : Env, AB 59 e = .int .i64 d → An .strong (AU 1 (BE ty3.zero 1) [(0, 1, AB 59)]) F e g.marked = .ok (.slice (some ⟨g.next, 0, none⟩) 1 1) (g.marked.back (g.marked.quiet.pushRow 0 [.int .i64 d])) := fun e he => JI (os e he) y1 (Nat.le_refl _)
  have x1 : hB.Ext (g.marked.back (g.marked.quiet.pushRow 0 [.int .i64 d])) := xm.trans y1.back
  have V1 : (g.marked.back (g.marked.quiet.pushRow 0 [.int .i64 d])).quiet.Vals (.slice (some ⟨g.next, 0, none⟩) 1 1) [.int .i64 d] := (MG Wm.quiet).same rfl
  have R1 : (g.marked.back (g.marked.quiet.pushRow 0 [.int .i64 d])).quiet.Row c 0 [.int .i64 f, .int .i64 t, w] := ((R.same (h' := g.marked.quiet) rfl).push Wm.quiet _).same rfl
  have o1 : (g.marked.back (g.marked.quiet.pushRow 0 [.int .i64 d])).quiet.Own hB.next 3 w (ints .i64 ys) := ((o.same (h' := g.marked.quiet) rfl).ext Wm.quiet y1).same rfl
  have hn1 : g.next ≤ (g.marked.back (g.marked.quiet.pushRow 0 [.int .i64 d])).quiet.next := Nat.le_succ _
  generalize g.marked.back (g.marked.quiet.pushRow 0 [.int .i64 d]) = m1 at q1 x1 V1 R1 o1 hn1
  have hon : hB.next ≤ m1.quiet.next := Nat.le_trans ex.next hn1
  obtain ⟨g2, w2, a1, a2, a3, a4, a5⟩ := FZ (eb := 8) (en := 3) x1.quiet (Nat.le_refl _) hon o1 V1 (by simp) rfl (by rw [BG]; simp; omega)
  have a3 : g2.Own hB.next 3 w2 (ints .i64 (ys ++ [d])) := by unfold ints; rw [List.map_append]; exact a3
  have q2 : ∀ e : Env, AB 55 e = w → AB 60 e = .slice (some ⟨g.next, 0, none⟩) 1 1 → An .free (Az 1 8 3 (AB 55) (AB 60)) F e m1 = .ok w2 (m1.back g2) := fun e h1 h2 => DL (by rw [Bv, h1, h2]; exact a1)
  have R2 := (a5 _ _ _ (o1.other R1 (by omega)) R1).1
  have x2 : hB.Ext (m1.back g2) := x1.back2 a2
  have R2 : (m1.back g2).quiet.Row c 0 [.int .i64 f, .int .i64 t, w] := R2.same rfl
  have o2 : (m1.back g2).quiet.Own hB.next 3 w2 (ints .i64 (ys ++ [d])) := a3.same rfl
  generalize m1.back g2 = m2 at q2 x2 R2 o2
  obtain ⟨w21, w22⟩ := o2.cells
  have st := R2.storeR (n := 1) (off := 2) x2.wf.quiet big (v := w2) (by rw [w21]; rfl) (by rw [w21]; simp) (by rw [w21]; show (bif Bl w2 then true else false) = true; rw [w22]; rfl)
  rw [w21] at st
  have x3 := R2.wr_ext x2.quiet hc (off := 2) (vs := [w2]) (by simp)
  have R3 := R2.wr_self x2.wf.quiet (off := 2) (vs := [w2]) (by simp)
  have o3 : (m2.quiet.wr c 2 [w2]).Own hB.next 3 w2 (ints .i64 (ys ++ [d])) := o2.keep fun b el L hb r => R2.wr_other x2.wf.quiet (off := 2) (vs := [w2]) (by simp) r (fun hx => o2.other R2 (by omega) (hx ▸ hb))
  have q3 : ∀ e : Env, AB 62 e = .pointer (some ⟨c, 2, none⟩) → AB 61 e = w2 → An .free (AY 1 (AB 62) (AB 61)) F e m2 = .ok noRes (m2.back (m2.quiet.wr c 2 [w2])) := fun e h1 h2 => DL (by rw [Au, h1, h2]; exact st)
  exact ⟨m1, _, _, w2, q1, q2, q3, x2.back2 x3, R3.same rfl, o3.same rfl⟩
def u9M : C := (Bx (cOp (AC 54) (AF 2 (AB 14))
(cOp (AC 55) (AH (AB 54))
(cOp (AC 58) (A9 1 (AB 3) (AB 15))
(cOp (AC 59) (AH (AB 58))
(cOp (AC 60) (An .strong (AU 1 (BE ty3.zero 1) [(0, 1, (AB 59))]))
(cOp (AC 61) (An .free (Az 1 8 3 (AB 55) (AB 60)))
(cOp (AC 62) (AF 2 (AB 14))
(cDo (An .free (AY 1 (AB 62) (AB 61)))
Ac)))))))))
def u9B : C := (cOp (AC 37) (Af (AB 3))
(cOp (AC 38) (AL iLt .i64 (AB 15) (AB 37))
(AP (AB 38)
(Ar (AX 1 (cOp (AC 44) (A9 1 (AB 3) (AB 15))
(cOp (AC 45) (AH (AB 44))
(cOp (AC 47) (Af (AB 0))
(cOp (AC 48) (C8 .i64 (AB 45) (AB 47))
(cOp (AC 49) (A9 2 (AB 0) (AB 48))
(cOp (AC 50) (Aa 2 (AB 49))
(cOp (AC 52) (AQ 41 [(AB 50), (AB 1)])
(cOp (AC 53) (AL iGe .i64 (AB 52) (kV (.int .i64 0)))
(AP (AB 53)
u9M
Ac))))))))))
(cOp (AC 40) (A4 .i64 (Ai .i64) (AB 15) (kV (.int .i64 1)))
(cOp (AC 15) (AD (AB 40))
Ac)))
(A7 0))))
def u9F : C := (cOp (AC 63) (AF 2 (AB 14))
(cOp (AC 64) (AH (AB 63))
(cOp (AC 65) (Af (AB 64))
(cOp (AC 66) (AL iGt .i64 (AB 65) (kV (.int .i64 10000)))
(AP (AB 66)
(cOp (AC 67) (A6 B3.zero [])
(cOp (AC 8) (AD (kV (.slice none 0 0)))
(cDo (AY 3 (AB 9) (AB 67))
(cOp (AC 10) (AD (kV (.int .i64 5)))
Ae))))
(Bx (cOp (AC 69) (Aa 3 (AB 14))
(cOp (AC 8) (AD (AB 11))
(cDo (An .free (AY 3 (AB 9) (AB 69)))
(cOp (AC 10) (AD (kV (.int .i64 0)))
Ae))))))))))
def u9S : C := (Ar (AX 0 (Ao (cOp (AC 37) (Af (AB 3))
(cOp (AC 38) (AL iLt .i64 (AB 15) (AB 37))
(AP (AB 38)
(Ar (AX 1 (cOp (AC 44) (A9 1 (AB 3) (AB 15))
(cOp (AC 45) (AH (AB 44))
(cOp (AC 47) (Af (AB 0))
(cOp (AC 48) (C8 .i64 (AB 45) (AB 47))
(cOp (AC 49) (A9 2 (AB 0) (AB 48))
(cOp (AC 50) (Aa 2 (AB 49))
(cOp (AC 52) (AQ 41 [(AB 50), (AB 1)])
(cOp (AC 53) (AL iGe .i64 (AB 52) (kV (.int .i64 0)))
(AP (AB 53)
(Bx (cOp (AC 54) (AF 2 (AB 14))
(cOp (AC 55) (AH (AB 54))
(cOp (AC 58) (A9 1 (AB 3) (AB 15))
(cOp (AC 59) (AH (AB 58))
(cOp (AC 60) (An .strong (AU 1 (BE ty3.zero 1) [(0, 1, (AB 59))]))
(cOp (AC 61) (An .free (Az 1 8 3 (AB 55) (AB 60)))
(cOp (AC 62) (AF 2 (AB 14))
(cDo (An .free (AY 1 (AB 62) (AB 61)))
Ac)))))))))
Ac))))))))))
(cOp (AC 40) (A4 .i64 (Ai .i64) (AB 15) (kV (.int .i64 1)))
(cOp (AC 15) (AD (AB 40))
Ac)))
(A7 0))))))
(cOp (AC 63) (AF 2 (AB 14))
(cOp (AC 64) (AH (AB 63))
(cOp (AC 65) (Af (AB 64))
(cOp (AC 66) (AL iGt .i64 (AB 65) (kV (.int .i64 10000)))
(AP (AB 66)
(cOp (AC 67) (A6 B3.zero [])
(cOp (AC 8) (AD (kV (.slice none 0 0)))
(cDo (AY 3 (AB 9) (AB 67))
(cOp (AC 10) (AD (kV (.int .i64 5)))
Ae))))
(Bx (cOp (AC 69) (Aa 3 (AB 14))
(cOp (AC 8) (AD (AB 11))
(cDo (An .free (AY 3 (AB 9) (AB 69)))
(cOp (AC 10) (AD (kV (.int .i64 0)))
Ae)))))))))))
theorem cB : u9S = Ar (AX 0 (Ao u9B)) u9F := rfl
def Ie : C := (cOp (AC 8) (AD (kV (.slice none 0 0)))
(cOp (AC 9) (At 3 BB)
(cOp (AC 10) (AD (kV (.int .i64 0)))
(cOp (AC 20) (AQ 39 [(AB 0), (AB 1), (AB 2)])
(cOp (AC 21) (AJ 0 (AB 20))
(cOp (AC 22) (AJ 1 (AB 20))
(cOp (AC 23) (AJ 2 (AB 20))
(cOp (AC 11) (AD (AB 21))
(cOp (AC 12) (AD (AB 22))
(cOp (AC 13) (AD (AB 23))
(cOp (AC 25) (AL iNe .i64 (AB 13) (kV (.int .i64 0)))
(AP (AB 25)
(cOp (AC 26) (A6 B3.zero [])
(cOp (AC 8) (AD (kV (.slice none 0 0)))
(cDo (AY 3 (AB 9) (AB 26))
(cOp (AC 10) (AD (AB 13))
Ae))))
(cOp (AC 29) (AQ 40 [(AB 3)])
(cOp (AC 30) (B7 (AB 29))
(AP (AB 30)
(cOp (AC 31) (A6 B3.zero [])
(cOp (AC 8) (AD (kV (.slice none 0 0)))
(cDo (AY 3 (AB 9) (AB 31))
(cOp (AC 10) (AD (kV (.int .i64 2)))
Ae))))
(cOp (AC 34) (A6 B3.zero [(0, 1, (AB 1)), (1, 1, (AB 2))])
(cOp (AC 14) (At 3 BB)
(cDo (AY 3 (AB 14) (AB 34))
(cOp (AC 15) (AD (kV (.int .i64 0)))
u9S)))))))))))))))))))
def d20 : C := Ie
theorem Qg {n : Nat} {args : List Value} {h : Hp} (hl : Nat.ble (Bk args) 320 = true) : call AG (Nat.succ n) 20 args h = Bs [.t (AB 8), .cN (AB 9) 3, .t (AB 10)] (d20 (call AG n) (Ak e0 0 args) h) := by
  have hb : AG.get 20 = some b20 := by kernel_rfl
  rw [BM hb]
  have hd : b20 = ⟨[.t (AB 8), .cN (AB 9) 3, .t (AB 10)], d20⟩ := by kernel_rfl
  rw [hd, BC hl]
theorem Qx : d20 = Ie := rfl
def uP (v u w9 vo : Value) (fr : Int) (c : Nat) (e : Env) : Prop := AB 0 e = v ∧ AB 1 e = .int .i64 fr ∧ AB 3 e = u ∧ AB 9 e = w9 ∧ AB 11 e = vo ∧ AB 14 e = .pointer (some ⟨c, 0, none⟩)
theorem W7 {n : Nat} {hB h : Hp} (WB : hB.Wf) (x : hB.Ext h) {c : Nat} {v u w9 vo : Value} {fr to_ : Int} {ws : List Pw} {all : List Int} (d : hB.PlI v ws) (D : hB.NdV ws) (hz : ∀ x ∈ ws, 0 < x.2.2.length ∧ x.2.2.length < 900000) (hN : 0 < ws.length) (hl : ws.length ≤ 1000) (V : hB.Vals u (ints .i64 all)) (ha : ∀ z ∈ all, 0 ≤ z ∧ z ≤ 1099511627776) (hal : all.length ≤ 9000)
    (hc : hB.next ≤ c) (Rc : h.Row c 0 [.int .i64 fr, .int .i64 to_, .slice none 0 0]) {e : Env} (p : uP v u w9 vo fr c e) (s15 : AB 15 e = .int .i64 0) :
    ∃ e2 g w, Ao u9B (call AG (n + 1)) e h = .exit 0 e2 g ∧ hB.Ext g ∧ g.Row c 0 [.int .i64 fr, .int .i64 to_, w] ∧ g.Own hB.next 3 w (ints .i64 (Cz (grp fr 0 ws) ws.length all)) ∧ uP v u w9 vo fr c e2 := by
  refine Bo (I := fun i e' h' => ∃ (w : Value) (ys : List Int), hB.Ext h' ∧ h'.Row c 0 [.int .i64 fr, .int .i64 to_, w] ∧ h'.Own hB.next 3 w (ints .i64 ys) ∧ ys ++ Cz (grp fr 0 ws) ws.length (all.drop i) = Cz (grp fr 0 ws) ws.length all ∧ ys.length ≤ i ∧ i ≤ all.length ∧ uP v u w9 vo fr c e' ∧ AB 15 e' = .int .i64 (i : Int))
    (Q := fun y => ∃ e2 g w, y = .exit 0 e2 g ∧ hB.Ext g ∧ g.Row c 0 [.int .i64 fr, .int .i64 to_, w] ∧ g.Own hB.next 3 w (ints .i64 (Cz (grp fr 0 ws) ws.length all)) ∧ uP v u w9 vo fr c e2) all.length (by omega)
    (fun i e' h' ⟨w, ys, ex, R, o, hy, hyl, hi, ⟨t0, t1, t3, t9, t11, t14⟩, t15⟩ => ?_) ⟨_, [], x, Rc, .inl ⟨rfl, rfl⟩, rfl, Nat.le_refl _, Nat.zero_le _, p, s15⟩
  have Vx := V.ext WB ex
  have ln : Ca v h' = .ok (.int .i64 (ws.length : Int)) h' := d.len
  by_cases hlt : i < all.length
  · left
    obtain ⟨a, g1, g2⟩ := Vx.int hlt
    have hzm : all.getD i 0 ∈ all := by rw [List.getD_eq_getElem?_getD, List.getElem?_eq_getElem hlt]; exact List.getElem_mem hlt
    have hVm : ∀ g : Hp, h'.Ext g → ∃ a, ET 1 u (.int .i64 (i : Int)) g.marked = .ok (.pointer (some a)) g.marked ∧ Cu (.pointer (some a)) g.marked = .ok (.int .i64 (all.getD i 0)) g.marked := fun g xg => ((Vx.ext ex.wf xg).same (h' := g.marked) rfl).int hlt
    rw [Gk hlt] at hy
    obtain ⟨z0, z1⟩ := ha _ hzm
    generalize all.getD i 0 = z at g2 hzm hy z0 z1 hVm
    obtain ⟨q, rfl⟩ := Int.eq_ofNat_of_zero_le z0
    have hdm : q % ws.length < ws.length := Nat.mod_lt _ hN
    have hx : ws[q % ws.length]? = some ws[q % ws.length] := List.getElem?_eq_getElem hdm
    have hxm : ws[q % ws.length] ∈ ws := List.getElem_mem hdm
    have hgi := Rk (a := fr) ws 0 (q % ws.length)
    rw [Nat.zero_add] at hgi
    obtain ⟨aa, ci, ld⟩ := (d.ext WB ex).at hx
    generalize ws[q % ws.length] = y at hx hxm ld
    have hgi2 : ((q % ws.length : Nat) : Int) ∈ grp fr 0 ws ↔ fr ∈ y.2.2 := by
      rw [hgi]
      exact ⟨fun ⟨x, h1, h2⟩ => by rw [hx] at h1; cases h1; exact h2, fun h => ⟨y, hx, h⟩⟩
    have hfl : Cz (grp fr 0 ws) ws.length ((q : Int) :: all.drop (i + 1)) = if fr ∈ y.2.2 then (q : Int) :: Cz (grp fr 0 ws) ws.length (all.drop (i + 1)) else Cz (grp fr 0 ws) ws.length (all.drop (i + 1)) := by
      unfold Cz
      rw [List.filter_cons, Int.toNat_natCast]
      simp only [decide_eq_true_eq, hgi2]
    rw [hfl] at hy
    have c1 : iLt (i : Int) (all.length : Int) = true := by rw [As]; simp; omega
    have rm : MX .i64 (.int .i64 (q : Int)) (.int .i64 (ws.length : Int)) h' = .ok (.int .i64 ((q % ws.length : Nat) : Int)) h' := by rw [HD (by omega)]; rfl
    have k1 := Ha (n := n) (x := fr) ex.wf (ep := y.1) (((D y hxm).vals (hz y hxm).1).ext WB ex) (hz y hxm).2
    have y1 := DK ex.wf (ep := y.1) (w := y.2.1)
    have R1 := R.ext ex.wf y1
    have o1 := o.ext ex.wf y1
    generalize h'.pushRow 0 [.int .i64 y.1, y.2.1] = g at k1 y1 R1 o1
    have c2 := FU fr y.2.2
    have x1 := ex.trans y1
    by_cases hf : fr ∈ y.2.2
    · rw [if_pos hf] at hy
      rw [decide_eq_true hf] at c2
      obtain ⟨a2, g3, g4⟩ := hVm g y1
      have lw : Cu (.pointer (some ⟨c, 2, none⟩)) g.marked = .ok w g.marked := by rw [Am]; exact (R1.same (h' := g.marked) rfl).load1 (off := 2) (by simp)
      obtain ⟨m1, m2, m3, w2, b1, b2, b3, b4, b5, b6⟩ := So (F := call AG (n + 1)) WB x1 (d := (q : Int)) hc R1 o1 (by omega)
      have ad : Ci .i64 (.int .i64 (i : Int)) (.int .i64 1) m3 = .ok (.int .i64 ((i + 1 : Nat) : Int)) m3 := by
        have : (i : Int) + 1 = ((i + 1 : Nat) : Int) := by omega
        rw [Bc, this, BJ (by omega)]
      have hrun : ∃ e2, u9B (call AG (n + 1)) e' h' = .norm e2 m3 ∧ uP v u w9 vo fr c e2 ∧ AB 15 e2 = .int .i64 ((i + 1 : Nat) : Int) := by
        unfold u9B u9M uP
        simp only [sT, Nat.reduceLT, Nat.reduceEqDiff, if_true, if_false, reduceIte, Al, t3, Vx.ilen, AO, AN, t15, c1, BV, g1, Ab, g2, t0, ln, Ep, rm, ci, Ay, Aw, ld, Ah, AV, Ad, t1, k1, c2, Cw, AW, t14, Aj, Nat.zero_add, lw, g3, g4, b1, b2, b3, Bb, ad]
        exact ⟨_, rfl, ⟨by simp only [AE, Nat.reduceLT, Nat.reduceEqDiff, if_true, if_false, reduceIte]; exact t0, by simp only [AE, Nat.reduceLT, Nat.reduceEqDiff, if_true, if_false, reduceIte]; exact t1, by simp only [AE, Nat.reduceLT, Nat.reduceEqDiff, if_true, if_false, reduceIte]; exact t3, by simp only [AE, Nat.reduceLT, Nat.reduceEqDiff, if_true, if_false, reduceIte]; exact t9, by simp only [AE, Nat.reduceLT, Nat.reduceEqDiff, if_true, if_false, reduceIte]; exact t11, by simp only [AE, Nat.reduceLT, Nat.reduceEqDiff, if_true, if_false, reduceIte]; exact t14⟩, by simp [AE]⟩
      obtain ⟨e2, r1, r2, r3⟩ := hrun
      exact ⟨hlt, e2, m3, r1, w2, ys ++ [(q : Int)], b4, b5, b6, by rw [← hy]; simp, by rw [List.length_append, List.length_singleton]; omega, hlt, r2, r3⟩
    · rw [if_neg hf] at hy
      rw [decide_eq_false hf] at c2
      have ad : Ci .i64 (.int .i64 (i : Int)) (.int .i64 1) g = .ok (.int .i64 ((i + 1 : Nat) : Int)) g := by
        have : (i : Int) + 1 = ((i + 1 : Nat) : Int) := by omega
        rw [Bc, this, BJ (by omega)]
      have hrun : ∃ e2, u9B (call AG (n + 1)) e' h' = .norm e2 g ∧ uP v u w9 vo fr c e2 ∧ AB 15 e2 = .int .i64 ((i + 1 : Nat) : Int) := by
        unfold u9B uP
        simp only [sT, Nat.reduceLT, Nat.reduceEqDiff, if_true, if_false, reduceIte, Al, t3, Vx.ilen, AO, AN, t15, c1, BV, g1, Ab, g2, t0, ln, Ep, rm, ci, Ay, Aw, ld, Ah, AV, Ad, t1, k1, c2, Bb, ad]
        exact ⟨_, rfl, ⟨by simp only [AE, Nat.reduceLT, Nat.reduceEqDiff, if_true, if_false, reduceIte]; exact t0, by simp only [AE, Nat.reduceLT, Nat.reduceEqDiff, if_true, if_false, reduceIte]; exact t1, by simp only [AE, Nat.reduceLT, Nat.reduceEqDiff, if_true, if_false, reduceIte]; exact t3, by simp only [AE, Nat.reduceLT, Nat.reduceEqDiff, if_true, if_false, reduceIte]; exact t9, by simp only [AE, Nat.reduceLT, Nat.reduceEqDiff, if_true, if_false, reduceIte]; exact t11, by simp only [AE, Nat.reduceLT, Nat.reduceEqDiff, if_true, if_false, reduceIte]; exact t14⟩, by simp [AE]⟩
      obtain ⟨e2, r1, r2, r3⟩ := hrun
      exact ⟨hlt, e2, g, r1, w, ys, x1, R1, o1, hy, by omega, hlt, r2, r3⟩
  · right
    have c1 : iLt (i : Int) (all.length : Int) = false := by rw [As]; simp; omega
    have hrun : ∃ e2, u9B (call AG (n + 1)) e' h' = .exit 0 e2 h' ∧ uP v u w9 vo fr c e2 := by
      unfold u9B uP
      simp only [sT, Nat.reduceLT, Nat.reduceEqDiff, if_true, if_false, reduceIte, Al, t3, Vx.ilen, AO, AN, t15, c1]
      exact ⟨_, rfl, by simp only [AE, Nat.reduceLT, Nat.reduceEqDiff, if_true, if_false, reduceIte]; exact t0, by simp only [AE, Nat.reduceLT, Nat.reduceEqDiff, if_true, if_false, reduceIte]; exact t1, by simp only [AE, Nat.reduceLT, Nat.reduceEqDiff, if_true, if_false, reduceIte]; exact t3, by simp only [AE, Nat.reduceLT, Nat.reduceEqDiff, if_true, if_false, reduceIte]; exact t9, by simp only [AE, Nat.reduceLT, Nat.reduceEqDiff, if_true, if_false, reduceIte]; exact t11, by simp only [AE, Nat.reduceLT, Nat.reduceEqDiff, if_true, if_false, reduceIte]; exact t14⟩
    obtain ⟨e2, r1, r2⟩ := hrun
    rw [r1]
    rw [List.drop_of_length_le (by omega)] at hy
    have hy : ys ++ [] = Cz (grp fr 0 ws) ws.length all := hy
    rw [List.append_nil] at hy
    rw [hy] at o
    exact ⟨rfl, e2, h', w, rfl, ex, R, o, r2⟩
end
end Go.Proofs.Ytkafejncffinmaa
set_option linter.unusedVariables false
set_option linter.unusedSimpArgs false
namespace Go.Proofs.Ytkafejncffinmaa
noncomputable section
open Go
set_option maxRecDepth 100000
theorem aX {F : CallF} {h g : Hp} {c9 c : Nat} {fr to_ : Int} {w : Value} (W : h.Wf) (x : h.Ext g) (h9 : h.next ≤ c9) (R9 : g.Row c9 0 [.int .i64 0, .int .i64 0, .slice none 0 0]) (Rc : g.Row c 0 [.int .i64 fr, .int .i64 to_, w]) (hw : Bl w = true) : ∃ g',
    (∀ e : Env, AB 9 e = .pointer (some ⟨c9, 0, none⟩) → AB 69 e = mvV fr to_ w → An .free (AY 3 (AB 9) (AB 69)) F e g.marked = .ok noRes g') ∧ loadN 3 ⟨c, 0, none⟩ g.marked = .ok (mvV fr to_ w) g.marked ∧ h.Ext g' ∧ FV 3 (.pointer (some ⟨c9, 0, none⟩)) g' = .ok (mvV fr to_ w) g' ∧ ∀ b el L, el ≠ 0 → g.Row b el L → g'.Row b el L := by
  have Wg := x.wf
  have xm := x.marked
  have Rq : g.marked.quiet.Row c9 0 [.int .i64 0, .int .i64 0, .slice none 0 0] := R9.same rfl
  have Rcm : g.marked.Row c 0 [.int .i64 fr, .int .i64 to_, w] := Rc.same rfl
  have ho : 0 + (cellsOf (mvV fr to_ w)).length ≤ [Value.int .i64 0, .int .i64 0, .slice none 0 0].length := by simp [mvV, Ax]
  have h256 : 256 ≤ c9 := Nat.le_trans W.big h9
  have Wq := Wg.marked.quiet
  have st := Rq.storeR (n := 3) (off := 0) Wq h256 (v := mvV fr to_ w) rfl ho (by show (bif Bl w then true else false) = true; rw [hw]; rfl)
  have xw := Rq.wr_ext xm.quiet h9 (off := 0) (vs := cellsOf (mvV fr to_ w)) ho
  have Rw := Rq.wr_self Wq (off := 0) (vs := cellsOf (mvV fr to_ w)) ho
  refine ⟨g.marked.back (g.marked.quiet.wr c9 0 (cellsOf (mvV fr to_ w))), fun e h1 h2 => DL (by rw [Au, h1, h2]; exact st), Rcm.loadN (by simp), xm.back2 xw, (Rw.same (h' := g.marked.back (g.marked.quiet.wr c9 0 (cellsOf (mvV fr to_ w)))) rfl).loadN (by simp [over, mvV, Ax]), fun b el L hel r => ?_⟩
  have r1 : g.marked.quiet.Row b el L := r.same rfl
  exact (Rq.wr_other Wq (off := 0) (vs := cellsOf (mvV fr to_ w)) ho r1 (Cy r1 Rq hel)).same rfl
theorem Jy {gs : List Int} {N : Nat} {all : List Int} : (Cz gs N all).length ≤ all.length := List.length_filter_le ..
def XO (h h' : Hp) (ws : List Pw) (fr to_ : Int) (all : List Int) (r : R) : Prop := h.Ext h' ∧ ((¬ Eu ws ∧ r = .ok (.tuple ⟨[.slice none 0 0, zMv, .int .i64 2]⟩) h') ∨ (Eu ws ∧ Eo fr to_ ws ∧ r = .ok (.tuple ⟨[.slice none 0 0, zMv, .int .i64 100]⟩) h') ∨
  (Eu ws ∧ ¬ Eo fr to_ ws ∧ BN (-1) all = false ∧ r = .ok (.tuple ⟨[.slice none 0 0, zMv, .int .i64 2]⟩) h') ∨
  (Eu ws ∧ ¬ Eo fr to_ ws ∧ BN (-1) all = true ∧ ∃ vo w outs k2 k3, r = .ok (.tuple ⟨[vo, mvV fr to_ w, .int .i64 0]⟩) h' ∧ h'.Own2 k2 vo (CC outs) ws.length ∧ h'.NdW outs ∧ outs.map shP = ws.map (Ev fr to_) ∧ h'.Own k3 3 w (ints .i64 (Cz (grp fr 0 ws) ws.length all))))
theorem Ge {n : Nat} {h : Hp} (W : h.Wf) {v u : Value} {ws : List Pw} {all : List Int} (d : h.PlI v ws) (D : h.NdV ws) (hl : ws.length ≤ 1000) (hz : ∀ x ∈ ws, x.2.2.length < 900000) (fr to_ : Int) (V : h.Vals u (ints .i64 all)) (hal : all.length ≤ 9000) :
    ∃ h', XO h h' ws fr to_ all (call AG (n + 4) 20 [v, .int .i64 fr, .int .i64 to_, u] h) := by
  have x1 := (Hp.Ext.refl W).push (.cells BB 3 0)
  have R9 : (h.push (.cells BB 3 0)).Row h.next 0 [.int .i64 0, .int .i64 0, .slice none 0 0] := Hp.Row.alloc W C9 rfl
  have a9 := fun (e : Env) => Bz (F := call AG (n + 3)) (e := e) (n := 3) (t := BB) W
  generalize h.push (.cells BB 3 0) = h1 at x1 R9 a9
  obtain ⟨h2, y2, hM⟩ := Ry (n := n) x1.wf (d.ext W x1) (D.ext W x1) hl fr to_
  have x2 := x1.trans y2
  have R9 := R9.ext x1.wf y2
  obtain ⟨gf, f1, f2, f3⟩ := Ii W x2 (Nat.le_refl _) R9
  have f1' := f1
  unfold zMv at f1'
  have fin : ∀ {e2 : Env} {g : Hp} {er : Int}, Ie (call AG (n + 3)) (Ak e0 0 [v, .int .i64 fr, .int .i64 to_, u]) h = .ret e2 g → AB 8 e2 = .slice none 0 0 → AB 9 e2 = .pointer (some ⟨h.next, 0, none⟩) → AB 10 e2 = .int .i64 er → loadN 3 ⟨h.next, 0, none⟩ g = .ok zMv g → call AG (n + 4) 20 [v, .int .i64 fr, .int .i64 to_, u] h = .ok (.tuple ⟨[.slice none 0 0, zMv, .int .i64 er]⟩) g := fun q1 q2 q3 q4 q5 => by
    rw [Qg rfl, Qx, q1, AZ, F6 (v := zMv) (by rw [q3]; exact q5), q2, q4]
  rcases hM with ⟨hA, va, vb, m1⟩ | ⟨hA, hB, va, vb, m1⟩ | ⟨hA, hB, vo, vg, outs, k2, m1, U, hO, hOM⟩
  · refine ⟨gf, f2, .inl ⟨hA, ?_⟩⟩
    have c1 : iNe 2 0 = true := rfl
    have hrun : ∃ e2, Ie (call AG (n + 3)) (Ak e0 0 [v, .int .i64 fr, .int .i64 to_, u]) h = .ret e2 gf ∧ AB 8 e2 = .slice none 0 0 ∧ AB 9 e2 = .pointer (some ⟨h.next, 0, none⟩) ∧ AB 10 e2 = .int .i64 2 := by
      unfold Ie
      simp only [AK, AM, Nat.succ_eq_add_one, Nat.zero_add, Nat.reduceAdd, sT, Nat.reduceLT, Nat.reduceEqDiff, if_true, if_false, reduceIte, a9, Ah, AV, Ad, m1, BK, BP, BQ, Bd, AO, AN, c1, Bg, CI, BU, Au, f1']
      exact ⟨_, rfl, by simp [AE], by simp [AE], by simp [AE]⟩
    obtain ⟨e2, r1, r2, r3, r4⟩ := hrun
    exact fin r1 r2 r3 r4 f3
  · refine ⟨gf, f2, .inr (.inl ⟨hA, hB, ?_⟩)⟩
    have c1 : iNe 100 0 = true := rfl
    have hrun : ∃ e2, Ie (call AG (n + 3)) (Ak e0 0 [v, .int .i64 fr, .int .i64 to_, u]) h = .ret e2 gf ∧ AB 8 e2 = .slice none 0 0 ∧ AB 9 e2 = .pointer (some ⟨h.next, 0, none⟩) ∧ AB 10 e2 = .int .i64 100 := by
      unfold Ie
      simp only [AK, AM, Nat.succ_eq_add_one, Nat.zero_add, Nat.reduceAdd, sT, Nat.reduceLT, Nat.reduceEqDiff, if_true, if_false, reduceIte, a9, Ah, AV, Ad, m1, BK, BP, BQ, Bd, AO, AN, c1, Bg, CI, BU, Au, f1']
      exact ⟨_, rfl, by simp [AE], by simp [AE], by simp [AE]⟩
    obtain ⟨e2, r1, r2, r3, r4⟩ := hrun
    exact fin r1 r2 r3 r4 f3
  have c0 : iNe 0 0 = false := rfl
  obtain ⟨h3, rs, hh3⟩ := JM (n := n + 2) (V.ext W x2) (by omega)
  have y3 : h2.Ext h3 := by
    rcases hh3 with rfl | rfl
    · exact .refl x2.wf
    · exact (Hp.Ext.refl x2.wf).marked
  have x3 := x2.trans y3
  have R9 := R9.ext x2.wf y3
  cases hr : BN (-1) all with
  | false =>
    rw [hr] at rs
    obtain ⟨gf, f1, f2, f3⟩ := Ii W x3 (Nat.le_refl _) R9
    refine ⟨gf, f2, .inr (.inr (.inl ⟨hA, hB, hr, ?_⟩))⟩
    have hrun : ∃ e2, Ie (call AG (n + 3)) (Ak e0 0 [v, .int .i64 fr, .int .i64 to_, u]) h = .ret e2 gf ∧ AB 8 e2 = .slice none 0 0 ∧ AB 9 e2 = .pointer (some ⟨h.next, 0, none⟩) ∧ AB 10 e2 = .int .i64 2 := by
      unfold Ie
      unfold zMv at f1
      simp only [AK, AM, Nat.succ_eq_add_one, Nat.zero_add, Nat.reduceAdd, sT, Nat.reduceLT, Nat.reduceEqDiff, if_true, if_false, reduceIte, a9, Ah, AV, Ad, m1, BK, BP, BQ, Bd, AO, AN, c0, rs, Bf, Be, Bool.not_false, Bg, CI, BU, Au, f1]
      exact ⟨_, rfl, by simp [AE], by simp [AE], by simp [AE]⟩
    obtain ⟨e2, r1, r2, r3, r4⟩ := hrun
    exact fin r1 r2 r3 r4 f3
  | true =>
    rw [hr] at rs
    have big : 256 ≤ h3.next := x3.wf.big
    have y4 := (Hp.Ext.refl x3.wf).push (.cells BB 3 0)
    have Rc : (h3.push (.cells BB 3 0)).Row h3.next 0 [.int .i64 0, .int .i64 0, .slice none 0 0] := Hp.Row.alloc x3.wf C9 rfl
    have a14 := fun (e : Env) => Bz (F := call AG (n + 3)) (e := e) (n := 3) (t := BB) x3.wf
    generalize h3.push (.cells BB 3 0) = h4 at y4 Rc a14
    have ho : 0 + [Value.int .i64 fr, .int .i64 to_, .slice none 0 0].length ≤ [Value.int .i64 0, .int .i64 0, .slice none 0 0].length := by simp
    have st := Rc.storeR (n := 3) (off := 0) y4.wf big (v := .agg ⟨[.int .i64 fr, .int .i64 to_, .slice none 0 0]⟩) rfl ho rfl
    rw [Ax] at st
    have y5 := Rc.wr_ext y4 (Nat.le_refl _) (off := 0) (vs := [.int .i64 fr, .int .i64 to_, .slice none 0 0]) ho
    have Rc5 := Rc.wr_self y4.wf (off := 0) (vs := [.int .i64 fr, .int .i64 to_, .slice none 0 0]) ho
    generalize h4.wr h3.next 0 [.int .i64 fr, .int .i64 to_, .slice none 0 0] = h5 at st y5 Rc5
    have Rc5 : h5.Row h3.next 0 [.int .i64 fr, .int .i64 to_, .slice none 0 0] := Rc5
    have pre : ∃ e1, Ie (call AG (n + 3)) (Ak e0 0 [v, .int .i64 fr, .int .i64 to_, u]) h = u9S (call AG (n + 3)) e1 h5 ∧ uP v u (.pointer (some ⟨h.next, 0, none⟩)) vo fr h3.next e1 ∧ AB 15 e1 = .int .i64 0 := by
      unfold Ie uP
      simp only [AK, AM, Nat.succ_eq_add_one, Nat.zero_add, Nat.reduceAdd, BX, D9, Bj, BZ, EB, Ba, A5, Br, AE, Nat.reduceLT, Nat.reduceEqDiff, if_true, if_false, reduceIte, a9, Ah, AV, Ad, m1, BK, BP, BQ, Bd, AO, AN, c0, rs, Bf, Be, Bool.not_true, Bg, CI, CV, BU, F7, De, List.length_cons, List.length_nil, Nat.zero_add, Nat.reduceAdd, Nat.reduceLeDiff, G6, G7, a14, Au, st]
      exact ⟨_, rfl, ⟨by simp [AE], by simp [AE], by simp [AE], by simp [AE], by simp [AE], by simp [AE]⟩, by simp [AE]⟩
    obtain ⟨e1, p1, pp, p15⟩ := pre
    have hal2 : ∀ z ∈ all, 0 ≤ z ∧ z ≤ 1099511627776 := fun z hz => by have := GG all (-1) hr z hz; omega
    obtain ⟨e2, g, w, q1, q2, q3, q4, ⟨t0, t1, t3, t9, t11, t14⟩⟩ := W7 (n := n + 2) x3.wf y5 (d.ext W x3) (D.ext W x3) (fun x hx => ⟨(hA.2.2 x hx).2.2.1, hz x hx⟩) hA.1 hl (V.ext W x3) hal2 hal (Nat.le_refl _) Rc5 pp p15
    obtain ⟨g', z1, z2, z3, z4, z5⟩ := aX (F := call AG (n + 3)) W (x3.trans q2) (Nat.le_refl _) (R9.ext x3.wf q2) q3 q4.cells.2
    have lw : Cu (.pointer (some ⟨h3.next, 2, none⟩)) g = .ok w g := by rw [Am]; exact q3.load1 (off := 2) (by simp)
    have wl := q4.vals.ilen
    have hll : (Cz (grp fr 0 ws) ws.length all).length ≤ 9000 := Nat.le_trans Jy hal
    have c6 : iGt ((Cz (grp fr 0 ws) ws.length all).length : Int) 10000 = false := by rw [BS]; simp; omega
    have hrun : ∃ e3, u9F (call AG (n + 3)) e2 g = .ret e3 g' ∧ AB 8 e3 = vo ∧ AB 9 e3 = .pointer (some ⟨h.next, 0, none⟩) ∧ AB 10 e3 = .int .i64 0 := by
      unfold u9F
      simp only [sT, Nat.reduceLT, Nat.reduceEqDiff, if_true, if_false, reduceIte, AW, t14, Aj, Nat.zero_add, Ab, lw, Al, wl, AO, AN, c6, Cw, Ay, Aw, z2, t11, t9, z1]
      exact ⟨_, rfl, by simp [AE], by simp only [AE, Nat.reduceLT, Nat.reduceEqDiff, if_true, if_false, reduceIte]; exact t9, by simp [AE]⟩
    obtain ⟨e3, r1, r2, r3, r4⟩ := hrun
    refine ⟨g', z3, .inr (.inr (.inr ⟨hA, hB, hr, vo, w, outs, k2, h3.next, ?_, ?_, fun y hy => ?_, hOM, CU q4 fun b L _ r => z5 b 4 L (by omega) r⟩))⟩
    · rw [Qg rfl, Qx, p1, cB]
      simp only [BI, Aq, q1, BA, BH]
      rw [r1, AZ, F6 (v := mvV fr to_ w) (by rw [r3]; exact z4), r2, r4]
    · have U3 := (U.ext x2.wf y3).ext x3.wf q2
      rcases U3 with h1 | ⟨b, h1, h2, h3⟩
      · exact .inl h1
      · exact .inr ⟨b, h1, z5 b 38 _ (by omega) h2, h3⟩
    · rcases hO y hy with ⟨x, hx, hxy⟩ | ho
      · rw [hxy]; exact ((D x hx).ext W z3).vals (hA.2.2 x hx).2.2.1
      · exact (CU ((ho.ext x2.wf y3).ext x3.wf q2) fun b L _ r => z5 b 4 L (by omega) r).vals
end
end Go.Proofs.Ytkafejncffinmaa
set_option linter.unusedVariables false
set_option linter.unusedSimpArgs false
namespace Go.Proofs.Ytkafejncffinmaa
noncomputable section
open Go
set_option maxRecDepth 100000
theorem Tv {F : CallF} {e : Env} {h : Hp} {x y : O} {el b N m : Nat} (hx : x e = .slice (some ⟨b, 0, none⟩) N N) (hy : y e = .int .i64 (m : Int)) (hm : m < N) : Da el 1 x none (some y) none F e h = .ok (.slice (some ⟨b, 0, none⟩) m N) h := OG hx hy (Nat.le_of_lt hm)
theorem EL {e : Env} {h : Hp} {g g' : O} {n : Nat} {v : Value} (hv : FV n (g e) h = .ok v h) : EC [.cN g n, .t g'] e h = .ok (.tuple ⟨[v, g' e]⟩) h := by
  have h1 : EK e h (.cN g n) = .ok v h := hv
  show (match EK e h (.cN g n) with | .ok v _ => forceV v fun v => (forceV (g' e) fun y => F5 h [v, y]) | .no => .no) = _
  rw [h1]
  simp only [BF]; rfl
theorem V8 {n : Nat} {h : Hp} (W : h.Wf) {f t : Int} {u : Value} {zs : List Int} (V : h.Vals u (ints .i64 zs)) (hl : zs.length < 900000) : ∃ h', call AG (n + 3) 13 [mvV f t u] h = .ok (.bool (Bq f t zs && decide (zs.length = 0))) h' ∧ h.Ext h' := by
  have R := Hp.Row.new W 0 [.int .i64 f, .int .i64 t, u]
  have x1 := (Hp.Ext.refl W).pushRow 0 [.int .i64 f, .int .i64 t, u]
  have hbx : ∀ e : Env, AB 0 e = mvV f t u → Bu (AB 0) (call AG (n + 2)) e h = .ok (.pointer (some ⟨h.next, 0, none⟩)) (h.pushRow 0 [.int .i64 f, .int .i64 t, u]) := fun e he => by rw [DF, he, DD W]; rfl
  generalize h.pushRow 0 [.int .i64 f, .int .i64 t, u] = h1 at R x1 hbx
  have l1 : loadN 3 ⟨h.next, 0, none⟩ h1 = .ok (mvV f t u) h1 := R.loadN (by simp)
  have k1 := EZ (n := n) x1.wf (V.ext W x1) hl (f := f) (t := t)
  have y2 := DP x1.wf (f := f) (t := t) (u := u)
  have x2 := x1.trans y2
  have R2 := R.ext x1.wf y2
  generalize h1.pushRow 0 [.int .i64 f, .int .i64 t, u] = h2 at k1 y2 x2 R2
  have l2 : load1 ⟨h.next, 2, none⟩ h2 = .ok u h2 := R2.load1 (off := 2) (by simp)
  have V2 := V.ext W x2
  have c1 : iEq (zs.length : Int) 0 = decide (zs.length = 0) := by rw [B6, Bool.eq_iff_iff, beq_iff_eq, decide_eq_true_eq]; omega
  refine ⟨h2, ?_, x2⟩
  rw [YV rfl]
  unfold d13
  generalize decide (zs.length = 0) = b2 at c1 ⊢
  generalize Bq f t zs = b1 at k1 ⊢
  cases b1 <;>
  · simp only [AK, AM, Nat.succ_eq_add_one, Nat.zero_add, Nat.reduceAdd, sT, Nat.reduceLT, Nat.reduceEqDiff, if_true, if_false, reduceIte, gD, hbx, Ay, Aw, l1, Ah, AV, Ad, k1, AW, Aj, Ab, Am, l2, Al, V2.ilen, AO, AN, c1, AZ, Ap, Bool.true_and, Bool.false_and]
theorem Gb {h : Hp} {b l hh m : Nat} (hlm : l < m) : CB (some ⟨b, 0, none⟩) 1 l hh m h = .ok (.slice (some ⟨b, l, none⟩) (hh - l) (m - l)) h := by
  unfold CB
  simp only [Av]
  have e1 : Nat.beq m l = false := by
    cases e : Nat.beq m l
    · rfl
    · have := A8.1 e; omega
  rw [e1]
  cases l with
  | zero => rfl
  | succ l =>
    have e2 : Nat.mul (l + 1) 1 = Nat.succ l := Nat.mul_one _
    simp only [e2]
    show R.ok (.slice (some ⟨b, Nat.add 0 (Nat.succ l), none⟩) _ _) h = _
    rw [Nat.add_eq, Nat.zero_add]; rfl
theorem Nx {h : Hp} {b l : Nat} : CB (some ⟨b, 0, none⟩) 1 l l l h = .ok (.slice (some ⟨b, 0, none⟩) 0 0) h := by
  unfold CB
  simp only [Av]
  rw [Nat.beq_refl]
  show R.ok (.slice (some ⟨b, 0, none⟩) (l - l) (l - l)) h = _
  rw [Nat.sub_self]
theorem Tu {F : CallF} {e : Env} {h : Hp} {x y z m : O} {el b N i j : Nat} (hx : x e = .slice (some ⟨b, 0, none⟩) N N) (hy : y e = .int .i64 (i : Int)) (hz : z e = .int .i64 (j : Int)) (hm : m e = .int .i64 (N : Int)) (hij : i ≤ j) (hj : j ≤ N) (hi : i < N) : Da el 1 x (some y) (some z) (some m) F e h = .ok (.slice (some ⟨b, i, none⟩) (j - i) (N - i)) h := by
  show (match x e with | .slice a n c => ER e n c (some y) (some z) (some m) (fun l hh m => GJ el 1 a true l hh m h) | _ => .no) = _
  rw [hx]
  show (match C4 (m e) with | .ok M => (bif Nat.ble M N then (match C4 (z e) with | .ok H => (bif Nat.ble H M then (match C4 (y e) with | .ok L => (bif Nat.ble L H then GJ el 1 (some ⟨b, 0, none⟩) true L H M h else .no) | .no => .no) else .no) | .no => .no) else .no) | .no => .no) = _
  rw [hm, hz, hy, DN, DN, DN]
  simp only
  rw [A0.2 (Nat.le_refl N), A0.2 hj, A0.2 hij]
  exact Gb hi
theorem UL {h : Hp} {b : Nat} {L : List Value} (r : h.Row b 4 L) : GN 3 (some ⟨b, 0, none⟩) h = true := by
  obtain ⟨cc, hc, hl⟩ := r.rowOf
  unfold GN
  simp only [hc]
  rfl
theorem OE {h : Hp} {b l hh m : Nat} {L : List Value} (r : h.Row b 4 L) : GJ 3 1 (some ⟨b, 0, none⟩) false l hh m h = CB (some ⟨b, 0, none⟩) 1 l hh m h := by
  unfold GJ
  cases l with
  | zero => rfl
  | succ l =>
    show (bif GN 3 (some ⟨b, 0, none⟩) h then _ else _) = _
    rw [UL r]; rfl
theorem Qv {F : CallF} {e : Env} {h : Hp} {x y : O} {b N C l : Nat} {L : List Value} (r : h.Row b 4 L) (hx : x e = .slice (some ⟨b, 0, none⟩) N C) (hy : y e = .int .i64 (l : Int)) (hl : l ≤ N) : Da 3 1 x (some y) none none F e h = CB (some ⟨b, 0, none⟩) 1 l N C h := by
  show (match x e with | .slice a n c => ER e n c (some y) none none (fun l hh m => GJ 3 1 a false l hh m h) | _ => .no) = _
  rw [hx]
  show (match C4 (y e) with | .ok L => (bif Nat.ble L N then GJ 3 1 (some ⟨b, 0, none⟩) false L N C h else .no) | .no => .no) = _
  rw [hy, DN]
  simp only
  rw [A0.2 hl]
  exact OE r
theorem Qu {F : CallF} {e : Env} {h : Hp} {x y z : O} {b N C l hh : Nat} {L : List Value} (r : h.Row b 4 L) (hx : x e = .slice (some ⟨b, 0, none⟩) N C) (hy : y e = .int .i64 (l : Int)) (hz : z e = .int .i64 (hh : Int)) (hl : l ≤ hh) (hC : hh ≤ C) : Da 3 1 x (some y) (some z) none F e h = CB (some ⟨b, 0, none⟩) 1 l hh C h := by
  show (match x e with | .slice a n c => ER e n c (some y) (some z) none (fun l hh m => GJ 3 1 a false l hh m h) | _ => .no) = _
  rw [hx]
  show (match C4 (z e) with | .ok H => (bif Nat.ble H C then (match C4 (y e) with | .ok L => (bif Nat.ble L H then GJ 3 1 (some ⟨b, 0, none⟩) false L H C h else .no) | .no => .no) else .no) | .no => .no) = _
  rw [hz, hy, DN, DN]
  simp only
  rw [A0.2 hC, A0.2 hl]
  exact OE r
theorem LG {h : Hp} {b i C : Nat} {L ys : List Value} {u : Value} (W : h.Wf) (h256 : 256 ≤ b) (r : h.Row b 4 L) (y : h.Vals u ys) (hC : i + ys.length ≤ C) (hL : i + ys.length ≤ L.length) (ha : CR ys = true) : Gd 1 8 3 (.slice (some ⟨b, 0, none⟩) i C) u h = .ok (.slice (some ⟨b, 0, none⟩) (i + ys.length) C) (h.wr b i ys) := by
  unfold Gd Dn
  simp only [y.lenV, y.src rfl, Av, Nat.add_eq]
  rw [A0.2 hC]
  have e2 : FO ⟨b, 0, none⟩ (Nat.mul i 1) = ⟨b, i, none⟩ := by
    rw [show Nat.mul i 1 = i from Nat.mul_one i]
    cases i with
    | zero => rfl
    | succ n => show (⟨b, Nat.add 0 (Nat.succ n), none⟩ : Addr) = _; rw [Nat.add_eq, Nat.zero_add]
  simp only [e2]
  rw [r.store W h256 hL ha]
def Qt (zero : List Value) (v : Value) (h : Hp) : R := match v with
  | .slice none _ _ => DJ h
  | .slice (some a) n _ => match n with
    | 0 => DJ h
    | Nat.succ k => Co a (BE zero (Nat.succ k)) h DJ
  | _ => .no
theorem Pm {F : CallF} {e : Env} {h : Hp} {z : List Value} {x : O} : Hd z x F e h = Qt z (x e) h := rfl
theorem PN {n : Nat} {h0 h : Hp} (x0 : h0.Ext h) {b i : Nat} {zs : List Int} (r : h.Row b 4 (ints .i64 zs)) (hb : h0.next ≤ b) (hb2 : 256 ≤ b) (hi : i < zs.length) (hl : zs.length < 900000) :
    ∃ h' L', call AG (n + 1) 34 [.slice (some ⟨b, 0, none⟩) zs.length zs.length, .int .i64 (i : Int), .int .i64 ((i + 1 : Nat) : Int)] h = .ok (.slice (some ⟨b, 0, none⟩) (zs.length - 1) zs.length) h' ∧ h0.Ext h' ∧ h'.Row b 4 L' ∧ L'.length = zs.length ∧ L'.take (zs.length - 1) = ints .i64 (zs.take i ++ zs.drop (i + 1)) ∧ ∀ b' el L, b' ≠ b → h.Row b' el L → h'.Row b' el L := by
  have W := x0.wf
  have Wm := W.marked
  have rm : h.marked.Row b 4 (ints .i64 zs) := r.same rfl
  have rq : h.marked.quiet.Row b 4 (ints .i64 zs) := r.same rfl
  obtain ⟨v25, hv25, Y⟩ : ∃ v25, CB (some ⟨b, 0, none⟩) 1 (i + 1) zs.length zs.length h.marked = .ok v25 h.marked ∧ h.marked.quiet.Vals v25 (ints .i64 (zs.drop (i + 1))) := by
    rcases Nat.lt_or_ge (i + 1) zs.length with h1 | h1
    · refine ⟨_, Gb h1, .inr ⟨b, i + 1, zs.length - (i + 1), 4, ints .i64 zs, ?_, rq, ?_, ?_⟩⟩
      · rw [BG, List.length_drop]
      · rw [BG, BG, List.length_drop]; omega
      · have e : ints .i64 (zs.drop (i + 1)) = (ints .i64 zs).drop (i + 1) := List.map_drop ..
        rw [e, List.take_of_length_le (Nat.le_refl _)]
    · have e : zs.length = i + 1 := by omega
      rw [e]
      refine ⟨_, Nx, .inr ⟨b, 0, 0, 4, ints .i64 zs, ?_, rq, ?_, ?_⟩⟩
      · rw [List.drop_of_length_le (by omega)]; rfl
      · rw [List.drop_of_length_le (by omega)]; simp [ints]
      · rw [List.drop_of_length_le (by omega)]; rfl
  have hyl : (ints .i64 (zs.drop (i + 1))).length = zs.length - (i + 1) := by rw [BG, List.length_drop]
  have ap := LG (C := zs.length) Wm.quiet hb2 rq Y (i := i) (by rw [hyl]; omega) (by rw [hyl, BG]; omega) (Du _ _)
  have hsum : i + (ints .i64 (zs.drop (i + 1))).length = zs.length - 1 := by rw [hyl]; omega
  rw [hsum] at ap
  have ho : i + (ints .i64 (zs.drop (i + 1))).length ≤ (ints .i64 zs).length := by rw [hyl, BG]; omega
  have x1 := rq.wr_ext x0.marked.quiet hb (off := i) (vs := ints .i64 (zs.drop (i + 1))) ho
  have r1 := rq.wr_self Wm.quiet (off := i) (vs := ints .i64 (zs.drop (i + 1))) ho
  have f1 : ∀ b' el L, b' ≠ b → h.Row b' el L → (h.marked.quiet.wr b i (ints .i64 (zs.drop (i + 1)))).Row b' el L := fun b' el L hne q => rq.wr_other Wm.quiet (off := i) (vs := ints .i64 (zs.drop (i + 1))) ho (q.same rfl) hne
  have q1 : ∀ (F : CallF) (e : Env), AB 22 e = .slice (some ⟨b, 0, none⟩) i zs.length → AB 25 e = v25 → An .free (Az 1 8 3 (AB 22) (AB 25)) F e h.marked = .ok (.slice (some ⟨b, 0, none⟩) (zs.length - 1) zs.length) (h.marked.back (h.marked.quiet.wr b i (ints .i64 (zs.drop (i + 1))))) := fun F e h1 h2 => DL (by rw [Bv, h1, h2]; exact ap)
  have x2 : h0.Ext (h.marked.back (h.marked.quiet.wr b i (ints .i64 (zs.drop (i + 1))))) := x0.marked.back2 x1
  have r2 : (h.marked.back (h.marked.quiet.wr b i (ints .i64 (zs.drop (i + 1))))).Row b 4 (over (ints .i64 zs) i (ints .i64 (zs.drop (i + 1)))) := r1.same rfl
  have f2 : ∀ b' el L, b' ≠ b → h.Row b' el L → (h.marked.back (h.marked.quiet.wr b i (ints .i64 (zs.drop (i + 1))))).Row b' el L := fun b' el L hne q => (f1 b' el L hne q).same rfl
  generalize h.marked.back (h.marked.quiet.wr b i (ints .i64 (zs.drop (i + 1)))) = m at q1 x2 r2 f2
  have hol : (over (ints .i64 zs) i (ints .i64 (zs.drop (i + 1)))).length = zs.length := by rw [Fu ho, BG]
  have ho2 : (zs.length - 1) + [Value.int .i64 0].length ≤ (over (ints .i64 zs) i (ints .i64 (zs.drop (i + 1)))).length := by rw [hol]; simp; omega
  have x3 := r2.wr_ext x2 hb (off := zs.length - 1) (vs := [.int .i64 0]) ho2
  have r3 := r2.wr_self x2.wf (off := zs.length - 1) (vs := [.int .i64 0]) ho2
  have f3 : ∀ b' el L, b' ≠ b → h.Row b' el L → (m.wr b (zs.length - 1) [.int .i64 0]).Row b' el L := fun b' el L hne q => r2.wr_other x2.wf (off := zs.length - 1) (vs := [.int .i64 0]) ho2 (f2 b' el L hne q) hne
  have cl : Qt ty3.zero (.slice (some ⟨b, zs.length - 1, none⟩) 1 1) m = .ok noRes (m.wr b (zs.length - 1) [.int .i64 0]) := by
    have hz : BE ty3.zero 1 = [.int .i64 0] := Hz
    show Co ⟨b, zs.length - 1, none⟩ (BE ty3.zero 1) m DJ = _
    rw [hz, r2.store x2.wf hb2 ho2 rfl]; rfl
  have s31 : CB (some ⟨b, 0, none⟩) 1 (zs.length - 1) zs.length zs.length m = .ok (.slice (some ⟨b, zs.length - 1, none⟩) 1 1) m := by
    have := Gb (h := m) (b := b) (hh := zs.length) (show zs.length - 1 < zs.length by omega)
    rw [show zs.length - (zs.length - 1) = 1 by omega] at this
    exact this
  refine ⟨m.wr b (zs.length - 1) [.int .i64 0], _, ?_, x3, r3, ?_, ?_, f3⟩
  · have k1 : ∀ (F : CallF) (e : Env), AB 0 e = .slice (some ⟨b, 0, none⟩) zs.length zs.length → AB 1 e = .int .i64 (i : Int) → AB 2 e = .int .i64 ((i + 1 : Nat) : Int) → AB 12 e = .int .i64 (zs.length : Int) → Da 3 1 (AB 0) (some (AB 1)) (some (AB 2)) (some (AB 12)) F e h = .ok (.slice (some ⟨b, i, none⟩) 1 (zs.length - i)) h := fun F e q0 q1 q2 q3 => by
      have := Tu (F := F) (el := 3) (h := h) q0 q1 q2 q3 (Nat.le_succ i) hi hi
      rw [show i + 1 - i = 1 by omega] at this
      exact this
    have k2 : ∀ (F : CallF) (e : Env), AB 0 e = .slice (some ⟨b, 0, none⟩) zs.length zs.length → AB 1 e = .int .i64 (i : Int) → Da 3 1 (AB 0) none (some (AB 1)) none F e h.marked = .ok (.slice (some ⟨b, 0, none⟩) i zs.length) h.marked := fun F e q0 q1 => Tv q0 q1 hi
    have k3 : ∀ (F : CallF) (e : Env), AB 0 e = .slice (some ⟨b, 0, none⟩) zs.length zs.length → AB 2 e = .int .i64 ((i + 1 : Nat) : Int) → Da 3 1 (AB 0) (some (AB 2)) none none F e h.marked = .ok v25 h.marked := fun F e q0 q2 => (Qv rm q0 q2 hi).trans hv25
    have k4 : ∀ (F : CallF) (e : Env), AB 0 e = .slice (some ⟨b, 0, none⟩) (zs.length - 1) zs.length → AB 29 e = .int .i64 ((zs.length - 1 : Nat) : Int) → AB 7 e = .int .i64 (zs.length : Int) → Da 3 1 (AB 0) (some (AB 29)) (some (AB 7)) none F e m = .ok (.slice (some ⟨b, zs.length - 1, none⟩) 1 1) m := fun F e q0 q29 q7 => (Qu r2 q0 q29 q7 (by omega) (Nat.le_refl _)).trans s31
    have ln : ∀ (a : Option Addr) (N C : Nat) (g : Hp), Ca (.slice a N C) g = .ok (.int .i64 (N : Int)) g := fun _ _ _ _ => rfl
    have c1 : iEq (i : Int) ((i + 1 : Nat) : Int) = false := by rw [B6, beq_eq_false_iff_ne]; omega
    rw [Yf rfl]
    unfold d34
    simp only [AK, AM, Nat.succ_eq_add_one, Nat.zero_add, Nat.reduceAdd, sT, Nat.reduceLT, Nat.reduceEqDiff, if_true, if_false, reduceIte, Al, ln, k1, AO, AN, c1, Cw, k2, k3, q1, k4, Pm, cl, AZ, Ap]
  · rw [Fu ho2, hol]
  · have hml : i ≤ zs.length := by omega
    unfold over
    have e1 : ((List.take i (ints .i64 zs) ++ ints .i64 (zs.drop (i + 1)) ++ List.drop (i + (ints .i64 (zs.drop (i + 1))).length) (ints .i64 zs)).take (zs.length - 1)) = List.take i (ints .i64 zs) ++ ints .i64 (zs.drop (i + 1)) := by
      rw [List.take_left' (by rw [List.length_append, List.length_take, hyl, BG]; omega)]
    rw [e1, List.append_assoc, List.take_left' (by rw [List.length_append, List.length_take, hyl, BG]; omega)]
    unfold ints
    rw [List.map_append, List.map_take, List.map_drop]
def Hp.Sl4 (h : Hp) (w : Value) (zs : List Int) : Prop := (w = .slice none 0 0 ∧ zs = []) ∨ ∃ b c L, w = .slice (some ⟨b, 0, none⟩) zs.length c ∧ h.Row b 4 L ∧ zs.length ≤ L.length ∧ L.take zs.length = ints .i64 zs
theorem Hp.Sl4.vals {h : Hp} {w : Value} {zs : List Int} (s : h.Sl4 w zs) : h.Vals w (ints .i64 zs) := by
  rcases s with ⟨h1, h2⟩ | ⟨b, c, L, h1, h2, h3, h4⟩
  · exact .inl ⟨h1, by rw [h2]; rfl⟩
  · exact .inr ⟨b, 0, c, 4, L, by rw [BG]; exact h1, h2, by rw [BG]; omega, by rw [BG, List.drop_zero]; exact h4⟩
theorem Hp.Sl4.keep {h h' : Hp} {w : Value} {zs : List Int} (s : h.Sl4 w zs) (hk : ∀ b L, h.Row b 4 L → h'.Row b 4 L) : h'.Sl4 w zs := by
  rcases s with h1 | ⟨b, c, L, h1, h2, h3⟩
  · exact .inl h1
  · exact .inr ⟨b, c, L, h1, hk b L h2, h3⟩
theorem Hp.Sl4.ext {h h' : Hp} {w : Value} {zs : List Int} (s : h.Sl4 w zs) (W : h.Wf) (x : h.Ext h') : h'.Sl4 w zs := s.keep fun _ _ r => r.ext W x
def mdB : C := (cOp (AC 18) (Aa 3 (AB 2))
(cDo (AY 3 (AB 4) (AB 18))
(cOp (AC 5) (AD (kV (.int .i64 167)))
Ae)))
def mdO : C := (cOp (AC 19) (AF 2 (AB 2))
(cOp (AC 20) (AH (AB 19))
(cOp (AC 21) (AQ 35 [(AB 20)])
(cOp (AC 24) (A4 .i64 (Ai .i64) (AB 6) (kV (.int .i64 1)))
(cOp (AC 25) (AQ 34 [(AB 21), (AB 6), (AB 24)])
(cOp (AC 26) (AF 2 (AB 2))
(cDo (AY 1 (AB 26) (AB 25))
(cOp (AC 27) (Aa 3 (AB 2))
(cDo (AY 3 (AB 4) (AB 27))
(cOp (AC 5) (AD (kV (.int .i64 0)))
Ae))))))))))
def NA : C := (cOp (AC 2) (Bu (AB 0))
(cOp (AC 4) (At 3 BB)
(cOp (AC 5) (AD (kV (.int .i64 0)))
(cOp (AC 7) (AF 2 (AB 2))
(cOp (AC 8) (AH (AB 7))
(cOp (AC 10) (AQ 33 [(AB 8), (AB 1)])
(cOp (AC 6) (AD (AB 10))
(cOp (AC 11) (Aa 3 (AB 2))
(cOp (AC 12) (AQ 9 [(AB 11)])
(cOp (AC 13) (B7 (AB 12))
(cG (AB 13) false (AC 15) (AD (AB 6))
(cG (AB 13) false (AC 16) (AL iLt .i64 (AB 15) (kV (.int .i64 0)))
(cOp (AC 17) (AS (AB 13) (kV (.bool true)) (AB 16))
(AP (AB 17)
mdB
mdO))))))))))))))
def d12 : C := NA
theorem Mx {n : Nat} {args : List Value} {h : Hp} (hl : Nat.ble (Bk args) 320 = true) : call AG (Nat.succ n) 12 args h = Bs [.cN (AB 4) 3, .t (AB 5)] (d12 (call AG n) (Ak e0 0 args) h) := by
  have hb : AG.get 12 = some b12 := by kernel_rfl
  rw [BM hb]
  have hd : b12 = ⟨[.cN (AB 4) 3, .t (AB 5)], d12⟩ := by kernel_rfl
  rw [hd, BC hl]
theorem M9 : d12 = NA := rfl
theorem I2 {n : Nat} {h : Hp} (W : h.Wf) {f t x : Int} {u : Value} {zs : List Int} (V : h.Vals u (ints .i64 zs)) (hl : zs.length < 900000) (hr : Bq f t zs = true) :
    ∃ e g, NA (call AG (n + 2)) (Ak e0 0 [mvV f t u, .int .i64 x]) h = (if x ∈ zs then mdO else mdB) (call AG (n + 2)) e g ∧ h.Ext g ∧ g.Row h.next 0 [.int .i64 f, .int .i64 t, u] ∧ g.Row (h.next + 1) 0 [.int .i64 0, .int .i64 0, .slice none 0 0] ∧
      AB 2 e = .pointer (some ⟨h.next, 0, none⟩) ∧ AB 4 e = .pointer (some ⟨h.next + 1, 0, none⟩) ∧ AB 6 e = .int .i64 (C1 x 0 zs) := by
  have R := Hp.Row.new W 0 [.int .i64 f, .int .i64 t, u]
  have x1 := (Hp.Ext.refl W).pushRow 0 [.int .i64 f, .int .i64 t, u]
  have n1 : (h.pushRow 0 [.int .i64 f, .int .i64 t, u]).next = h.next + 1 := rfl
  have hbx : ∀ e : Env, AB 0 e = mvV f t u → Bu (AB 0) (call AG (n + 2)) e h = .ok (.pointer (some ⟨h.next, 0, none⟩)) (h.pushRow 0 [.int .i64 f, .int .i64 t, u]) := fun e he => by rw [DF, he, DD W]; rfl
  generalize h.pushRow 0 [.int .i64 f, .int .i64 t, u] = h1 at R x1 hbx n1
  have y2 := (Hp.Ext.refl x1.wf).push (.cells BB 3 0)
  have x2 := x1.trans y2
  have S : (h1.push (.cells BB 3 0)).Row h1.next 0 [.int .i64 0, .int .i64 0, .slice none 0 0] := Hp.Row.alloc x1.wf C9 rfl
  have al := fun (e : Env) => Bz (F := call AG (n + 2)) (e := e) (n := 3) (t := BB) x1.wf
  have R2 := R.ext x1.wf y2
  rw [n1] at S al
  generalize h1.push (.cells BB 3 0) = h2 at y2 x2 S al R2
  have l2 : load1 ⟨h.next, 2, none⟩ h2 = .ok u h2 := R2.load1 (off := 2) (by simp)
  have l3 : loadN 3 ⟨h.next, 0, none⟩ h2 = .ok (mvV f t u) h2 := R2.loadN (by simp)
  have k1 := Gw (n := n + 1) (x := x) (V.ext W x2) hl
  have k2 := EZ (n := n) x2.wf (V.ext W x2) hl (f := f) (t := t)
  rw [hr] at k2
  have y3 := DP x2.wf (f := f) (t := t) (u := u)
  have x3 := x2.trans y3
  have R3 := R2.ext x2.wf y3
  have S3 := S.ext x2.wf y3
  generalize h2.pushRow 0 [.int .i64 f, .int .i64 t, u] = h3 at k2 y3 x3 R3 S3
  by_cases hx : x ∈ zs
  · have c1 : iLt (C1 x 0 zs) 0 = false := by
      rw [As, decide_eq_false]
      have := (OX x zs).2 hx
      omega
    rw [if_pos hx]
    unfold NA
    simp only [AK, AM, Nat.succ_eq_add_one, Nat.zero_add, Nat.reduceAdd, BX, Bj, BZ, Ba, A5, Br, AE, Nat.reduceLT, Nat.reduceEqDiff, if_true, if_false, reduceIte, gD, hbx, al, AW, Aj, Ab, Am, l2, Ah, AV, Ad, k1, Ay, Aw, l3, k2, Bf, Be, Bool.not_true, AO, AN, c1]
    exact ⟨_, _, rfl, x3, R3, S3, by simp [AE], by simp [AE], by simp [AE]⟩
  · have c1 : iLt (C1 x 0 zs) 0 = true := by rw [OY hx]; rfl
    rw [if_neg hx]
    unfold NA
    simp only [AK, AM, Nat.succ_eq_add_one, Nat.zero_add, Nat.reduceAdd, BX, Bj, BZ, CM, A5, Br, AE, Nat.reduceLT, Nat.reduceEqDiff, if_true, if_false, reduceIte, gD, hbx, al, AW, Aj, Ab, Am, l2, Ah, AV, Ad, k1, Ay, Aw, l3, k2, Bf, Be, Bool.not_true, AO, AN, c1]
    exact ⟨_, _, rfl, x3, R3, S3, by simp [AE], by simp [AE], by simp [AE]⟩
theorem Pd {n : Nat} {h : Hp} (W : h.Wf) {f t x : Int} {u : Value} {zs : List Int} (V : h.Vals u (ints .i64 zs)) (hl : zs.length < 900000) (hr : Bq f t zs = true) (hx : x ∉ zs) :
    ∃ h', call AG (n + 3) 12 [mvV f t u, .int .i64 x] h = .ok (.tuple ⟨[mvV f t u, .int .i64 167]⟩) h' ∧ h.Ext h' := by
  obtain ⟨e, g, p1, xg, R, S, s2, s4, s6⟩ := I2 (n := n) W (x := x) V hl hr
  rw [if_neg hx] at p1
  obtain ⟨u1, u2⟩ := V.cells1
  have l3 : loadN 3 ⟨h.next, 0, none⟩ g = .ok (mvV f t u) g := R.loadN (by simp)
  have big := W.big
  have ho : 0 + (cellsOf (mvV f t u)).length ≤ [Value.int .i64 0, .int .i64 0, .slice none 0 0].length := by simp [mvV, Ax]
  have st := S.storeR (n := 3) (off := 0) xg.wf (by omega) (v := mvV f t u) rfl ho (by show (bif Bl u then true else false) = true; rw [u2]; rfl)
  have x2 := S.wr_ext xg (Nat.le_succ _) (off := 0) (vs := cellsOf (mvV f t u)) ho
  have S2 := S.wr_self xg.wf (off := 0) (vs := cellsOf (mvV f t u)) ho
  generalize g.wr (h.next + 1) 0 (cellsOf (mvV f t u)) = g2 at st x2 S2
  have lr : loadN 3 ⟨h.next + 1, 0, none⟩ g2 = .ok (mvV f t u) g2 := S2.loadN (by simp [over, mvV, Ax])
  have hrun : ∃ e2, mdB (call AG (n + 2)) e g = .ret e2 g2 ∧ AB 4 e2 = .pointer (some ⟨h.next + 1, 0, none⟩) ∧ AB 5 e2 = .int .i64 167 := by
    unfold mdB
    simp only [sT, Nat.reduceLT, Nat.reduceEqDiff, if_true, if_false, reduceIte, Ay, s2, Aw, l3, Au, s4, st]
    exact ⟨_, rfl, by simp only [AE, Nat.reduceLT, Nat.reduceEqDiff, if_true, if_false, reduceIte, s4], by simp [AE]⟩
  obtain ⟨e2, r1, r2, r3⟩ := hrun
  refine ⟨g2, ?_, x2⟩
  rw [Mx rfl, M9, p1, r1, AZ, EL (v := mvV f t u) (by rw [r2]; exact lr), r3]
theorem Pe {n : Nat} {h : Hp} (W : h.Wf) {f t x : Int} {u : Value} {zs : List Int} (V : h.Vals u (ints .i64 zs)) (hl : zs.length < 900000) (hr : Bq f t zs = true) (hx : x ∈ zs) :
    ∃ h' w k, k < zs.length ∧ zs.getD k 0 = x ∧ call AG (n + 3) 12 [mvV f t u, .int .i64 x] h = .ok (.tuple ⟨[mvV f t w, .int .i64 0]⟩) h' ∧ h.Ext h' ∧ h'.Sl4 w (zs.take k ++ zs.drop (k + 1)) := by
  obtain ⟨e, g, p1, xg, R, S, s2, s4, s6⟩ := I2 (n := n) W (x := x) V hl hr
  rw [if_pos hx] at p1
  obtain ⟨k, hk, hkz, hkx⟩ := Ki hx
  rw [hkz] at s6
  have big := W.big
  have l2 : load1 ⟨h.next, 2, none⟩ g = .ok u g := R.load1 (off := 2) (by simp)
  obtain ⟨g2, v2, c1, x2, o2, n2, f2⟩ := LO (n := n + 1) (h0 := h) xg (k := h.next) xg.next (V.ext W xg) (by omega) hl
  obtain ⟨b, hv, Rb, hb, hb2⟩ : ∃ b, v2 = .slice (some ⟨b, 0, none⟩) zs.length zs.length ∧ g2.Row b 4 (ints .i64 zs) ∧ h.next ≤ b ∧ 256 ≤ b := by
    rcases o2 with ⟨_, h2⟩ | ⟨b, h1, h2, h3, h4⟩
    · have := congrArg List.length h2
      rw [BG, List.length_nil] at this; omega
    · rw [BG] at h1; exact ⟨b, h1, h2, h3, h4⟩
  have R2 := (f2 _ _ _ R).1
  have S2 := (f2 _ _ _ S).1
  have ad : Ci .i64 (.int .i64 (k : Int)) (.int .i64 1) g2 = .ok (.int .i64 ((k + 1 : Nat) : Int)) g2 := by
    have : (k : Int) + 1 = ((k + 1 : Nat) : Int) := by omega
    rw [Bc, this, BJ (by omega)]
  obtain ⟨g3, L', d1, x3, Rb3, hL', hLt, f3⟩ := PN (n := n + 1) x2 Rb hb hb2 hk hl
  have R3 := f3 _ _ _ (Cy R2 Rb (by omega)) R2
  have S3 := f3 _ _ _ (Cy S2 Rb (by omega)) S2
  have st1 := R3.storeR (n := 1) (off := 2) x3.wf big (v := .slice (some ⟨b, 0, none⟩) (zs.length - 1) zs.length) rfl (by simp [cellsOf]) rfl
  have x4 := R3.wr_ext x3 (Nat.le_refl _) (off := 2) (vs := cellsOf (.slice (some ⟨b, 0, none⟩) (zs.length - 1) zs.length)) (by simp [cellsOf])
  have R4 := R3.wr_self x3.wf (off := 2) (vs := cellsOf (.slice (some ⟨b, 0, none⟩) (zs.length - 1) zs.length)) (by simp [cellsOf])
  have S4 := R3.wr_other x3.wf (off := 2) (vs := cellsOf (.slice (some ⟨b, 0, none⟩) (zs.length - 1) zs.length)) (by simp [cellsOf]) S3 (by omega)
  have Rb4 := R3.wr_other x3.wf (off := 2) (vs := cellsOf (.slice (some ⟨b, 0, none⟩) (zs.length - 1) zs.length)) (by simp [cellsOf]) Rb3 (Cy Rb3 R3 (by omega))
  generalize g3.wr h.next 2 (cellsOf (.slice (some ⟨b, 0, none⟩) (zs.length - 1) zs.length)) = g4 at st1 x4 R4 S4 Rb4
  have R4 : g4.Row h.next 0 [.int .i64 f, .int .i64 t, .slice (some ⟨b, 0, none⟩) (zs.length - 1) zs.length] := R4
  have l4 : loadN 3 ⟨h.next, 0, none⟩ g4 = .ok (mvV f t (.slice (some ⟨b, 0, none⟩) (zs.length - 1) zs.length)) g4 := R4.loadN (by simp)
  have ho : 0 + (cellsOf (mvV f t (.slice (some ⟨b, 0, none⟩) (zs.length - 1) zs.length))).length ≤ [Value.int .i64 0, .int .i64 0, .slice none 0 0].length := by simp [mvV, Ax]
  have st2 := S4.storeR (n := 3) (off := 0) x4.wf (by omega) (v := mvV f t (.slice (some ⟨b, 0, none⟩) (zs.length - 1) zs.length)) rfl ho rfl
  have x5 := S4.wr_ext x4 (Nat.le_succ _) (off := 0) (vs := cellsOf (mvV f t (.slice (some ⟨b, 0, none⟩) (zs.length - 1) zs.length))) ho
  have S5 := S4.wr_self x4.wf (off := 0) (vs := cellsOf (mvV f t (.slice (some ⟨b, 0, none⟩) (zs.length - 1) zs.length))) ho
  have Rb5 := S4.wr_other x4.wf (off := 0) (vs := cellsOf (mvV f t (.slice (some ⟨b, 0, none⟩) (zs.length - 1) zs.length))) ho Rb4 (Cy Rb4 S4 (by omega))
  generalize g4.wr (h.next + 1) 0 (cellsOf (mvV f t (.slice (some ⟨b, 0, none⟩) (zs.length - 1) zs.length))) = g5 at st2 x5 S5 Rb5
  have lr : loadN 3 ⟨h.next + 1, 0, none⟩ g5 = .ok (mvV f t (.slice (some ⟨b, 0, none⟩) (zs.length - 1) zs.length)) g5 := S5.loadN (by simp [over, mvV, Ax])
  have hrun : ∃ e2, mdO (call AG (n + 2)) e g = .ret e2 g5 ∧ AB 4 e2 = .pointer (some ⟨h.next + 1, 0, none⟩) ∧ AB 5 e2 = .int .i64 0 := by
    rw [hv] at c1
    unfold mdO
    simp only [sT, Nat.reduceLT, Nat.reduceEqDiff, if_true, if_false, reduceIte, AW, s2, Aj, Ab, Am, Nat.zero_add, l2, Ah, AV, Ad, c1, Bb, s6, ad, d1, Au, st1, Ay, Aw, l4, s4, st2]
    exact ⟨_, rfl, by simp only [AE, Nat.reduceLT, Nat.reduceEqDiff, if_true, if_false, reduceIte, s4], by simp [AE]⟩
  obtain ⟨e2, r1, r2, r3⟩ := hrun
  have hll : (zs.take k ++ zs.drop (k + 1)).length = zs.length - 1 := by rw [List.length_append, List.length_take, List.length_drop]; omega
  refine ⟨g5, _, k, hk, hkx, ?_, x5, .inr ⟨b, zs.length, L', by rw [hll], Rb5, by rw [hll, hL']; omega, by rw [hll]; exact hLt⟩⟩
  rw [Mx rfl, M9, p1, r1, AZ, EL (v := mvV f t (.slice (some ⟨b, 0, none⟩) (zs.length - 1) zs.length)) (by rw [r2]; exact lr), r3]
theorem NW {n : Nat} {h : Hp} (W : h.Wf) {f t x : Int} {u : Value} {zs : List Int} (V : h.Vals u (ints .i64 zs)) (hl : zs.length < 900000) (hr : Bq f t zs = false) :
    ∃ h', call AG (n + 3) 12 [mvV f t u, .int .i64 x] h = .ok (.tuple ⟨[mvV f t u, .int .i64 167]⟩) h' ∧ h.Ext h' := by
  have R := Hp.Row.new W 0 [.int .i64 f, .int .i64 t, u]
  have x1 := (Hp.Ext.refl W).pushRow 0 [.int .i64 f, .int .i64 t, u]
  have n1 : (h.pushRow 0 [.int .i64 f, .int .i64 t, u]).next = h.next + 1 := rfl
  have hbx : ∀ e : Env, AB 0 e = mvV f t u → Bu (AB 0) (call AG (n + 2)) e h = .ok (.pointer (some ⟨h.next, 0, none⟩)) (h.pushRow 0 [.int .i64 f, .int .i64 t, u]) := fun e he => GU W he
  generalize h.pushRow 0 [.int .i64 f, .int .i64 t, u] = h1 at R x1 hbx n1
  have y2 := (Hp.Ext.refl x1.wf).push (.cells BB 3 0)
  have x2 := x1.trans y2
  have S : (h1.push (.cells BB 3 0)).Row h1.next 0 [.int .i64 0, .int .i64 0, .slice none 0 0] := Hp.Row.alloc x1.wf C9 rfl
  have al := fun (e : Env) => Bz (F := call AG (n + 2)) (e := e) (n := 3) (t := BB) x1.wf
  have R2 := R.ext x1.wf y2
  rw [n1] at S al
  generalize h1.push (.cells BB 3 0) = h2 at y2 x2 S al R2
  have l2 : load1 ⟨h.next, 2, none⟩ h2 = .ok u h2 := R2.load1 (off := 2) (by simp)
  have l3 : loadN 3 ⟨h.next, 0, none⟩ h2 = .ok (mvV f t u) h2 := R2.loadN (by simp)
  have k1 := Gw (n := n + 1) (x := x) (V.ext W x2) hl
  have k2 := EZ (n := n) x2.wf (V.ext W x2) hl (f := f) (t := t)
  rw [hr] at k2
  have y3 := DP x2.wf (f := f) (t := t) (u := u)
  have xg := x2.trans y3
  have R := R2.ext x2.wf y3
  have S := S.ext x2.wf y3
  generalize h2.pushRow 0 [.int .i64 f, .int .i64 t, u] = g at k2 y3 xg R S
  have pre : ∃ e, NA (call AG (n + 2)) (Ak e0 0 [mvV f t u, .int .i64 x]) h = mdB (call AG (n + 2)) e g ∧ AB 2 e = .pointer (some ⟨h.next, 0, none⟩) ∧ AB 4 e = .pointer (some ⟨h.next + 1, 0, none⟩) := by
    unfold NA
    simp only [AK, AM, Nat.succ_eq_add_one, Nat.zero_add, Nat.reduceAdd, BX, Bj, BZ, CM, A5, Br, AE, Nat.reduceLT, Nat.reduceEqDiff, if_true, if_false, reduceIte, gD, hbx, al, AW, Aj, Ab, Am, l2, Ah, AV, Ad, k1, Ay, Aw, l3, k2, Bf, Be, Bool.not_false]
    exact ⟨_, rfl, by simp [AE], by simp [AE]⟩
  obtain ⟨e, p1, s2, s4⟩ := pre
  obtain ⟨u1, u2⟩ := V.cells1
  have l3 : loadN 3 ⟨h.next, 0, none⟩ g = .ok (mvV f t u) g := R.loadN (by simp)
  have big := W.big
  have ho : 0 + (cellsOf (mvV f t u)).length ≤ [Value.int .i64 0, .int .i64 0, .slice none 0 0].length := by simp [mvV, Ax]
  have st := S.storeR (n := 3) (off := 0) xg.wf (by omega) (v := mvV f t u) rfl ho (by show (bif Bl u then true else false) = true; rw [u2]; rfl)
  have x2 := S.wr_ext xg (Nat.le_succ _) (off := 0) (vs := cellsOf (mvV f t u)) ho
  have S2 := S.wr_self xg.wf (off := 0) (vs := cellsOf (mvV f t u)) ho
  generalize g.wr (h.next + 1) 0 (cellsOf (mvV f t u)) = g2 at st x2 S2
  have lr : loadN 3 ⟨h.next + 1, 0, none⟩ g2 = .ok (mvV f t u) g2 := S2.loadN (by simp [over, mvV, Ax])
  have hrun : ∃ e2, mdB (call AG (n + 2)) e g = .ret e2 g2 ∧ AB 4 e2 = .pointer (some ⟨h.next + 1, 0, none⟩) ∧ AB 5 e2 = .int .i64 167 := by
    unfold mdB
    simp only [sT, Nat.reduceLT, Nat.reduceEqDiff, if_true, if_false, reduceIte, Ay, s2, Aw, l3, Au, s4, st]
    exact ⟨_, rfl, by simp only [AE, Nat.reduceLT, Nat.reduceEqDiff, if_true, if_false, reduceIte, s4], by simp [AE]⟩
  obtain ⟨e2, r1, r2, r3⟩ := hrun
  refine ⟨g2, ?_, x2⟩
  rw [Mx rfl, M9, p1, r1, AZ, EL (v := mvV f t u) (by rw [r2]; exact lr), r3]
def EF (x : Int) (zs : List Int) : List Int := zs.filter fun z => decide (z ≠ x)
theorem OA : ∀ (zs : List Int) (p x : Int), BN p zs = true → x ≤ p → EF x zs = zs
  | [], _, _, _, _ => rfl
  | z :: l, p, x, h, hx => by
    have h : (decide (0 ≤ z ∧ z ≤ 1099511627776 ∧ p < z) && BN z l) = true := h
    rw [Bool.and_eq_true, decide_eq_true_eq] at h
    obtain ⟨⟨_, _, h1⟩, h2⟩ := h
    unfold EF
    rw [List.filter_cons, if_pos (by rw [decide_eq_true_eq]; omega)]
    exact congrArg (z :: ·) (OA l z x h2 (by omega))
theorem QY : ∀ (zs : List Int) (p x : Int) (k : Nat), BN p zs = true → k < zs.length → zs.getD k 0 = x → EF x zs = zs.take k ++ zs.drop (k + 1)
  | [], _, _, _, _, h, _ => by cases h
  | z :: l, p, x, 0, h, _, hx => by
    have h : (decide (0 ≤ z ∧ z ≤ 1099511627776 ∧ p < z) && BN z l) = true := h
    rw [Bool.and_eq_true, decide_eq_true_eq] at h
    have hx : z = x := hx
    subst hx
    show EF z (z :: l) = l
    unfold EF
    rw [List.filter_cons, if_neg (by simp)]
    exact OA l z z h.2 (Int.le_refl _)
  | z :: l, p, x, k + 1, h, hk, hx => by
    have h : (decide (0 ≤ z ∧ z ≤ 1099511627776 ∧ p < z) && BN z l) = true := h
    rw [Bool.and_eq_true, decide_eq_true_eq] at h
    have hk : k < l.length := Nat.lt_of_succ_lt_succ hk
    have hx : l.getD k 0 = x := hx
    have hm : x ∈ l := by
      rw [← hx, List.getD_eq_getElem?_getD, List.getElem?_eq_getElem hk]; exact List.getElem_mem hk
    have := GG l z h.2 x hm
    show EF x (z :: l) = z :: (l.take k ++ l.drop (k + 1))
    unfold EF
    rw [List.filter_cons, if_pos (by rw [decide_eq_true_eq]; omega)]
    exact congrArg (z :: ·) (QY l z x k h.2 hk hx)
theorem QZ {x : Int} {zs : List Int} (h : x ∉ zs) : EF x zs = zs := List.filter_eq_self.2 fun z hz => by
  rw [decide_eq_true_eq]; exact fun e => h (e ▸ hz)
theorem OB {x : Int} {zs : List Int} (h : x ∈ zs) : (EF x zs).length < zs.length := by
  have h1 : (EF x zs).length ≤ zs.length := List.length_filter_le ..
  rcases Nat.lt_or_eq_of_le h1 with h2 | h2
  · exact h2
  · have := List.length_filter_eq_length_iff.1 h2 x h
    simp at this
end
end Go.Proofs.Ytkafejncffinmaa
set_option linter.unusedVariables false
set_option linter.unusedSimpArgs false
namespace Go.Proofs.Ytkafejncffinmaa
noncomputable section
open Go
set_option maxRecDepth 100000
def mrB : C := (cOp (AC 13) (AF 2 (AB 2))
(cOp (AC 14) (AH (AB 13))
(cOp (AC 15) (Af (AB 14))
(cOp (AC 16) (AL iLt .i64 (AB 7) (AB 15))
(AP (AB 16)
(Ar (AX 1 (cOp (AC 19) (AF 2 (AB 2))
(cOp (AC 20) (AH (AB 19))
(cOp (AC 22) (A9 1 (AB 20) (AB 7))
(cOp (AC 23) (AH (AB 22))
(cOp (AC 25) (AL iNe .i64 (AB 23) (AB 1))
(AP (AB 25)
(cOp (AC 27) (AF 2 (AB 2))
(cOp (AC 28) (AH (AB 27))
(cOp (AC 30) (A9 1 (AB 28) (AB 7))
(cOp (AC 31) (AH (AB 30))
(cOp (AC 32) (AU 1 (BE ty3.zero 1) [(0, 1, (AB 31))])
(cOp (AC 33) (Az 1 8 3 (AB 6) (AB 32))
(cOp (AC 6) (AD (AB 33))
Ac)))))))
Ac)))))))
(cOp (AC 18) (A4 .i64 (Ai .i64) (AB 7) (kV (.int .i64 1)))
(cOp (AC 7) (AD (AB 18))
Ac)))
(A7 0))))))
def mrE : C := (cOp (AC 35) (Af (AB 6))
(cOp (AC 36) (AF 2 (AB 2))
(cOp (AC 37) (AH (AB 36))
(cOp (AC 38) (Af (AB 37))
(cOp (AC 39) (AL iEq .i64 (AB 35) (AB 38))
(AP (AB 39)
(cOp (AC 40) (Aa 3 (AB 2))
(cDo (AY 3 (AB 4) (AB 40))
(cOp (AC 5) (AD (kV (.int .i64 167)))
Ae)))
(cOp (AC 42) (AF 2 (AB 2))
(cDo (AY 1 (AB 42) (AB 6))
(cOp (AC 43) (Aa 3 (AB 2))
(cDo (AY 3 (AB 4) (AB 43))
(cOp (AC 5) (AD (kV (.int .i64 0)))
Ae)))))))))))
def mrS : C := (Ar (AX 0 (Ao (cOp (AC 13) (AF 2 (AB 2))
(cOp (AC 14) (AH (AB 13))
(cOp (AC 15) (Af (AB 14))
(cOp (AC 16) (AL iLt .i64 (AB 7) (AB 15))
(AP (AB 16)
(Ar (AX 1 (cOp (AC 19) (AF 2 (AB 2))
(cOp (AC 20) (AH (AB 19))
(cOp (AC 22) (A9 1 (AB 20) (AB 7))
(cOp (AC 23) (AH (AB 22))
(cOp (AC 25) (AL iNe .i64 (AB 23) (AB 1))
(AP (AB 25)
(cOp (AC 27) (AF 2 (AB 2))
(cOp (AC 28) (AH (AB 27))
(cOp (AC 30) (A9 1 (AB 28) (AB 7))
(cOp (AC 31) (AH (AB 30))
(cOp (AC 32) (AU 1 (BE ty3.zero 1) [(0, 1, (AB 31))])
(cOp (AC 33) (Az 1 8 3 (AB 6) (AB 32))
(cOp (AC 6) (AD (AB 33))
Ac)))))))
Ac)))))))
(cOp (AC 18) (A4 .i64 (Ai .i64) (AB 7) (kV (.int .i64 1)))
(cOp (AC 7) (AD (AB 18))
Ac)))
(A7 0))))))))
(cOp (AC 35) (Af (AB 6))
(cOp (AC 36) (AF 2 (AB 2))
(cOp (AC 37) (AH (AB 36))
(cOp (AC 38) (Af (AB 37))
(cOp (AC 39) (AL iEq .i64 (AB 35) (AB 38))
(AP (AB 39)
(cOp (AC 40) (Aa 3 (AB 2))
(cDo (AY 3 (AB 4) (AB 40))
(cOp (AC 5) (AD (kV (.int .i64 167)))
Ae)))
(cOp (AC 42) (AF 2 (AB 2))
(cDo (AY 1 (AB 42) (AB 6))
(cOp (AC 43) (Aa 3 (AB 2))
(cDo (AY 3 (AB 4) (AB 43))
(cOp (AC 5) (AD (kV (.int .i64 0)))
Ae))))))))))))
theorem R6 : mrS = Ar (AX 0 (Ao mrB)) mrE := rfl
def mrW : C := (cOp (AC 11) (Aa 3 (AB 2))
(cDo (AY 3 (AB 4) (AB 11))
(cOp (AC 5) (AD (kV (.int .i64 167)))
Ae)))
def PL : C := (cOp (AC 2) (Bu (AB 0))
(cOp (AC 4) (At 3 BB)
(cOp (AC 5) (AD (kV (.int .i64 0)))
(cOp (AC 8) (Aa 3 (AB 2))
(cOp (AC 9) (AQ 27 [(AB 8)])
(cOp (AC 10) (B7 (AB 9))
(AP (AB 10)
mrW
(cOp (AC 6) (AD (kV (.slice none 0 0)))
(cOp (AC 7) (AD (kV (.int .i64 0)))
mrS)))))))))
def d23 : C := PL
theorem Mz {n : Nat} {args : List Value} {h : Hp} (hl : Nat.ble (Bk args) 320 = true) : call AG (Nat.succ n) 23 args h = Bs [.cN (AB 4) 3, .t (AB 5)] (d23 (call AG n) (Ak e0 0 args) h) := by
  have hb : AG.get 23 = some b23 := by kernel_rfl
  rw [BM hb]
  have hd : b23 = ⟨[.cN (AB 4) 3, .t (AB 5)], d23⟩ := by kernel_rfl
  rw [hd, BC hl]
theorem NC : d23 = PL := rfl
def eV : C := (cOp (AC 40) (Aa 3 (AB 2))
(cDo (AY 3 (AB 4) (AB 40))
(cOp (AC 5) (AD (kV (.int .i64 167)))
Ae)))
def aH : C := (cOp (AC 35) (Af (AB 6))
(cOp (AC 36) (AF 2 (AB 2))
(cOp (AC 37) (AH (AB 36))
(cOp (AC 38) (Af (AB 37))
(cOp (AC 39) (AL iEq .i64 (AB 35) (AB 38))
(AP (AB 39)
eV
(cOp (AC 42) (AF 2 (AB 2))
(cDo (AY 1 (AB 42) (AB 6))
(cOp (AC 43) (Aa 3 (AB 2))
(cDo (AY 3 (AB 4) (AB 43))
(cOp (AC 5) (AD (kV (.int .i64 0)))
Ae)))))))))))
theorem Rz : mrE = aH := rfl
def rP (x : Int) (A B : Nat) (e : Env) : Prop := AB 1 e = .int .i64 x ∧ AB 2 e = .pointer (some ⟨A, 0, none⟩) ∧ AB 4 e = .pointer (some ⟨B, 0, none⟩)
theorem U8 {F : CallF} {hB : Hp} (WB : hB.Wf) {A B : Nat} {f t x : Int} {u : Value} {zs : List Int} (V : hB.Vals u (ints .i64 zs)) (RA : hB.Row A 0 [.int .i64 f, .int .i64 t, u]) (hl : zs.length < 900000) {e : Env} (p : rP x A B e) (s6 : AB 6 e = .slice none 0 0) (s7 : AB 7 e = .int .i64 0) :
    ∃ e2 g w, Ao mrB F e hB = .exit 0 e2 g ∧ hB.Ext g ∧ g.Own hB.next 3 w (ints .i64 (EF x zs)) ∧ rP x A B e2 ∧ AB 6 e2 = w := by
  refine Bo (I := fun i e' h' => ∃ (w : Value) (ys : List Int), hB.Ext h' ∧ h'.Own hB.next 3 w (ints .i64 ys) ∧ ys ++ EF x (zs.drop i) = EF x zs ∧ ys.length ≤ i ∧ i ≤ zs.length ∧ rP x A B e' ∧ AB 6 e' = w ∧ AB 7 e' = .int .i64 (i : Int))
    (Q := fun y => ∃ e2 g w, y = .exit 0 e2 g ∧ hB.Ext g ∧ g.Own hB.next 3 w (ints .i64 (EF x zs)) ∧ rP x A B e2 ∧ AB 6 e2 = w) zs.length (by omega)
    (fun i e' h' ⟨w, ys, ex, o, hy, hyl, hi, ⟨t1, t2, t4⟩, t6, t7⟩ => ?_) ⟨_, [], .refl WB, .inl ⟨rfl, rfl⟩, rfl, Nat.le_refl _, Nat.zero_le _, p, s6, s7⟩
  have Vx := V.ext WB ex
  have la : Cu (.pointer (some ⟨A, 2, none⟩)) h' = .ok u h' := by rw [Am]; exact (RA.ext WB ex).load1 (off := 2) (by simp)
  by_cases hlt : i < zs.length
  · left
    obtain ⟨a, g1, g2⟩ := Vx.int hlt
    rw [Gk hlt] at hy
    generalize zs.getD i 0 = z at g2 hy
    have hfl : EF x (z :: zs.drop (i + 1)) = if z ≠ x then z :: EF x (zs.drop (i + 1)) else EF x (zs.drop (i + 1)) := by
      unfold EF
      rw [List.filter_cons]
      simp only [decide_eq_true_eq]
    rw [hfl] at hy
    have c1 : iLt (i : Int) (zs.length : Int) = true := by rw [As]; simp; omega
    by_cases hz : z = x
    · rw [if_neg (fun h => h hz)] at hy
      have c2 : iNe z x = false := by rw [DB]; simpa using hz
      have ad : Ci .i64 (.int .i64 (i : Int)) (.int .i64 1) h' = .ok (.int .i64 ((i + 1 : Nat) : Int)) h' := by
        have : (i : Int) + 1 = ((i + 1 : Nat) : Int) := by omega
        rw [Bc, this, BJ (by omega)]
      have hrun : ∃ e2, mrB F e' h' = .norm e2 h' ∧ rP x A B e2 ∧ AB 6 e2 = w ∧ AB 7 e2 = .int .i64 ((i + 1 : Nat) : Int) := by
        unfold mrB rP
        simp only [sT, Nat.reduceLT, Nat.reduceEqDiff, if_true, if_false, reduceIte, AW, t2, Aj, Nat.zero_add, Ab, la, Al, Vx.ilen, AO, AN, t7, c1, BV, g1, g2, t1, c2, Bb, ad]
        exact ⟨_, rfl, ⟨by simp only [AE, Nat.reduceLT, Nat.reduceEqDiff, if_true, if_false, reduceIte]; exact t1, by simp only [AE, Nat.reduceLT, Nat.reduceEqDiff, if_true, if_false, reduceIte]; exact t2, by simp only [AE, Nat.reduceLT, Nat.reduceEqDiff, if_true, if_false, reduceIte]; exact t4⟩, by simp only [AE, Nat.reduceLT, Nat.reduceEqDiff, if_true, if_false, reduceIte]; exact t6, by simp [AE]⟩
      obtain ⟨e2, r1, r2, r3, r4⟩ := hrun
      exact ⟨hlt, e2, h', r1, w, ys, ex, o, hy, by omega, hlt, r2, r3, r4⟩
    · rw [if_pos hz] at hy
      have c2 : iNe z x = true := by rw [DB]; simpa using hz
      have os : ∀ e : Env, AB 31 e = .int .i64 z → AU 1 (BE ty3.zero 1) [(0, 1, AB 31)] F e h' = .ok (.slice (some ⟨h'.next, 0, none⟩) 1 1) (h'.pushRow 0 [.int .i64 z]) := fun e he => by rw [Hz]; exact Cn ex.wf he rfl rfl
      obtain ⟨h2, w2, a1, a2, a3, a4, a5⟩ := Dt (eb := 8) (n := z) (kd := .i64) ex (Nat.le_refl _) ex.next o (by rw [BG]; omega)
      have a3 : h2.Own hB.next 3 w2 (ints .i64 (ys ++ [z])) := by unfold ints; rw [List.map_append]; exact a3
      have ad : Ci .i64 (.int .i64 (i : Int)) (.int .i64 1) h2 = .ok (.int .i64 ((i + 1 : Nat) : Int)) h2 := by
        have : (i : Int) + 1 = ((i + 1 : Nat) : Int) := by omega
        rw [Bc, this, BJ (by omega)]
      have hrun : ∃ e2, mrB F e' h' = .norm e2 h2 ∧ rP x A B e2 ∧ AB 6 e2 = w2 ∧ AB 7 e2 = .int .i64 ((i + 1 : Nat) : Int) := by
        unfold mrB rP
        simp only [sT, Nat.reduceLT, Nat.reduceEqDiff, if_true, if_false, reduceIte, AW, t2, Aj, Nat.zero_add, Ab, la, Al, Vx.ilen, AO, AN, t7, c1, BV, g1, g2, t1, c2, os, Bv, t6, a1, Bb, ad]
        exact ⟨_, rfl, ⟨by simp only [AE, Nat.reduceLT, Nat.reduceEqDiff, if_true, if_false, reduceIte]; exact t1, by simp only [AE, Nat.reduceLT, Nat.reduceEqDiff, if_true, if_false, reduceIte]; exact t2, by simp only [AE, Nat.reduceLT, Nat.reduceEqDiff, if_true, if_false, reduceIte]; exact t4⟩, by simp [AE], by simp [AE]⟩
      obtain ⟨e2, r1, r2, r3, r4⟩ := hrun
      exact ⟨hlt, e2, h2, r1, w2, ys ++ [z], a2, a3, by rw [← hy]; simp, by rw [List.length_append, List.length_singleton]; omega, hlt, r2, r3, r4⟩
  · right
    have c1 : iLt (i : Int) (zs.length : Int) = false := by rw [As]; simp; omega
    have hrun : ∃ e2, mrB F e' h' = .exit 0 e2 h' ∧ rP x A B e2 ∧ AB 6 e2 = w := by
      unfold mrB rP
      simp only [sT, Nat.reduceLT, Nat.reduceEqDiff, if_true, if_false, reduceIte, AW, t2, Aj, Nat.zero_add, Ab, la, Al, Vx.ilen, AO, AN, t7, c1]
      exact ⟨_, rfl, ⟨by simp only [AE, Nat.reduceLT, Nat.reduceEqDiff, if_true, if_false, reduceIte]; exact t1, by simp only [AE, Nat.reduceLT, Nat.reduceEqDiff, if_true, if_false, reduceIte]; exact t2, by simp only [AE, Nat.reduceLT, Nat.reduceEqDiff, if_true, if_false, reduceIte]; exact t4⟩, by simp only [AE, Nat.reduceLT, Nat.reduceEqDiff, if_true, if_false, reduceIte]; exact t6⟩
    obtain ⟨e2, r1, r2, r3⟩ := hrun
    rw [r1]
    rw [List.drop_of_length_le (by omega)] at hy
    have hy : ys ++ [] = EF x zs := hy
    rw [List.append_nil] at hy
    rw [hy] at o
    exact ⟨rfl, e2, h', w, rfl, ex, o, r2, r3⟩
theorem N4 {h g : Hp} (W : h.Wf) (xg : h.Ext g) {A B : Nat} (hB : h.next ≤ B) {f t : Int} {u : Value} (hu : Bl u = true) (S : g.Row B 0 [.int .i64 0, .int .i64 0, .slice none 0 0]) : ∃ g2, storeR 3 (.pointer (some ⟨B, 0, none⟩)) (mvV f t u) g = .ok noRes g2 ∧ h.Ext g2 ∧ loadN 3 ⟨B, 0, none⟩ g2 = .ok (mvV f t u) g2 ∧ ∀ b el L, b ≠ B → g.Row b el L → g2.Row b el L := by
  have big := W.big
  have ho : 0 + (cellsOf (mvV f t u)).length ≤ [Value.int .i64 0, .int .i64 0, .slice none 0 0].length := by simp [mvV, Ax]
  have st := S.storeR (n := 3) (off := 0) xg.wf (by omega) (v := mvV f t u) rfl ho (by show (bif Bl u then true else false) = true; rw [hu]; rfl)
  have S2 := S.wr_self xg.wf (off := 0) (vs := cellsOf (mvV f t u)) ho
  exact ⟨_, st, S.wr_ext xg hB (off := 0) (vs := cellsOf (mvV f t u)) ho, S2.loadN (by simp [over, mvV, Ax]), fun b el L hne r => S.wr_other xg.wf (off := 0) (vs := cellsOf (mvV f t u)) ho r hne⟩
theorem I1 {n : Nat} {h : Hp} (W : h.Wf) {f t x : Int} {u : Value} {zs : List Int} (V : h.Vals u (ints .i64 zs)) (hl : zs.length < 900000) :
    ∃ h', h.Ext h' ∧ ((¬ (Bq f t zs = true ∧ x ∈ zs) ∧ call AG (n + 3) 23 [mvV f t u, .int .i64 x] h = .ok (.tuple ⟨[mvV f t u, .int .i64 167]⟩) h') ∨
      (Bq f t zs = true ∧ x ∈ zs ∧ ∃ w k, call AG (n + 3) 23 [mvV f t u, .int .i64 x] h = .ok (.tuple ⟨[mvV f t w, .int .i64 0]⟩) h' ∧ h'.Own k 3 w (ints .i64 (EF x zs)))) := by
  have u2 := V.cells1.2
  have R := Hp.Row.new W 0 [.int .i64 f, .int .i64 t, u]
  have x1 := (Hp.Ext.refl W).pushRow 0 [.int .i64 f, .int .i64 t, u]
  have n1 : (h.pushRow 0 [.int .i64 f, .int .i64 t, u]).next = h.next + 1 := rfl
  have hbx : ∀ e : Env, AB 0 e = mvV f t u → Bu (AB 0) (call AG (n + 2)) e h = .ok (.pointer (some ⟨h.next, 0, none⟩)) (h.pushRow 0 [.int .i64 f, .int .i64 t, u]) := fun e he => GU W he
  generalize h.pushRow 0 [.int .i64 f, .int .i64 t, u] = h1 at R x1 hbx n1
  have y2 := (Hp.Ext.refl x1.wf).push (.cells BB 3 0)
  have x2 := x1.trans y2
  have S : (h1.push (.cells BB 3 0)).Row h1.next 0 [.int .i64 0, .int .i64 0, .slice none 0 0] := Hp.Row.alloc x1.wf C9 rfl
  have al := fun (e : Env) => Bz (F := call AG (n + 2)) (e := e) (n := 3) (t := BB) x1.wf
  have R2 := R.ext x1.wf y2
  generalize h1.push (.cells BB 3 0) = h2 at y2 x2 S al R2
  have l3 : loadN 3 ⟨h.next, 0, none⟩ h2 = .ok (mvV f t u) h2 := R2.loadN (by simp)
  obtain ⟨h3, k2, y3⟩ := FK (n := n) x2.wf (V.ext W x2) hl (f := f) (t := t)
  have x3 := x2.trans y3
  have R3 := R2.ext x2.wf y3
  have S3 := S.ext x2.wf y3
  have l4 : loadN 3 ⟨h.next, 0, none⟩ h3 = .ok (mvV f t u) h3 := R3.loadN (by simp)
  cases hr : Bq f t zs with
  | false =>
    rw [hr] at k2
    obtain ⟨g2, st, xg, lr, _⟩ := N4 (A := 0) W x3 (B := h1.next) (by omega) (f := f) (t := t) u2 S3
    refine ⟨g2, xg, .inl ⟨(fun h => by cases h.1), ?_⟩⟩
    have hrun : ∃ e2, PL (call AG (n + 2)) (Ak e0 0 [mvV f t u, .int .i64 x]) h = .ret e2 g2 ∧ AB 4 e2 = .pointer (some ⟨h1.next, 0, none⟩) ∧ AB 5 e2 = .int .i64 167 := by
      unfold PL mrW
      simp only [AK, AM, Nat.succ_eq_add_one, Nat.zero_add, Nat.reduceAdd, sT, Nat.reduceLT, Nat.reduceEqDiff, if_true, if_false, reduceIte, hbx, al, Ay, Aw, l3, Ah, AV, Ad, k2, Bf, Be, Bool.not_false, l4, Au, st]
      exact ⟨_, rfl, by simp [AE], by simp [AE]⟩
    obtain ⟨e2, r1, r2, r3⟩ := hrun
    rw [Mz rfl, NC, r1, AZ, EL (v := mvV f t u) (by rw [r2]; exact lr), r3]
  | true =>
    rw [hr] at k2
    have pre : ∃ e1, PL (call AG (n + 2)) (Ak e0 0 [mvV f t u, .int .i64 x]) h = mrS (call AG (n + 2)) e1 h3 ∧ rP x h.next h1.next e1 ∧ AB 6 e1 = .slice none 0 0 ∧ AB 7 e1 = .int .i64 0 := by
      unfold PL rP
      simp only [AK, AM, Nat.succ_eq_add_one, Nat.zero_add, Nat.reduceAdd, BX, Bj, BZ, Ba, A5, Br, AE, Nat.reduceLT, Nat.reduceEqDiff, if_true, if_false, reduceIte, hbx, al, Ay, Aw, l3, Ah, AV, Ad, k2, Bf, Be, Bool.not_true]
      exact ⟨_, rfl, ⟨by simp [AE], by simp [AE], by simp [AE]⟩, by simp [AE], by simp [AE]⟩
    obtain ⟨e1, p1, pp, p6, p7⟩ := pre
    obtain ⟨e2, g, w, q1, q2, q3, ⟨t1, t2, t4⟩, t6⟩ := U8 (F := call AG (n + 2)) x3.wf (V.ext W x3) R3 hl pp p6 p7
    have xg := x3.trans q2
    have Rg := R3.ext x3.wf q2
    have Sg := S3.ext x3.wf q2
    have wl := q3.vals.ilen
    have ul := (V.ext W xg).ilen
    have la : Cu (.pointer (some ⟨h.next, 2, none⟩)) g = .ok u g := by rw [Am]; exact Rg.load1 (off := 2) (by simp)
    have lm : loadN 3 ⟨h.next, 0, none⟩ g = .ok (mvV f t u) g := Rg.loadN (by simp)
    by_cases hx : x ∈ zs
    · have c1 : iEq ((EF x zs).length : Int) (zs.length : Int) = false := by
        have := OB hx
        rw [B6]; simp; omega
      obtain ⟨w1, w2⟩ := q3.cells
      have big := W.big
      have st1 := Rg.storeR (n := 1) (off := 2) xg.wf big (v := w) (by rw [w1]; rfl) (by rw [w1]; simp) (by rw [w1]; show (bif Bl w then true else false) = true; rw [w2]; rfl)
      rw [w1] at st1
      have x4 := Rg.wr_ext xg (Nat.le_refl _) (off := 2) (vs := [w]) (by simp)
      have R4 := Rg.wr_self xg.wf (off := 2) (vs := [w]) (by simp)
      have ot : ∀ b el L, b ≠ h.next → g.Row b el L → (g.wr h.next 2 [w]).Row b el L := fun b el L hne r => Rg.wr_other xg.wf (off := 2) (vs := [w]) (by simp) r hne
      have S4 := ot _ _ _ (by omega) Sg
      have o4 : (g.wr h.next 2 [w]).Own h3.next 3 w (ints .i64 (EF x zs)) := CU q3 fun b L _ r => ot b 4 L (Cy r Rg (by omega)) r
      generalize g.wr h.next 2 [w] = g4 at st1 x4 R4 S4 o4
      have R4 : g4.Row h.next 0 [.int .i64 f, .int .i64 t, w] := R4
      have l5 : loadN 3 ⟨h.next, 0, none⟩ g4 = .ok (mvV f t w) g4 := R4.loadN (by simp)
      obtain ⟨g5, st2, x5, lr, fr⟩ := N4 (A := 0) W x4 (B := h1.next) (by omega) (f := f) (t := t) w2 S4
      refine ⟨g5, x5, .inr ⟨rfl, hx, w, h3.next, ?_, CU o4 fun b L _ r => fr b 4 L (Cy r S4 (by omega)) r⟩⟩
      have hrun : ∃ e3, mrE (call AG (n + 2)) e2 g = .ret e3 g5 ∧ AB 4 e3 = .pointer (some ⟨h1.next, 0, none⟩) ∧ AB 5 e3 = .int .i64 0 := by
        rw [Rz]
        unfold aH
        simp only [sT, Nat.reduceLT, Nat.reduceEqDiff, if_true, if_false, reduceIte, Al, t6, wl, AW, t2, Aj, Nat.zero_add, Ab, la, ul, AO, AN, c1, Au, st1, Ay, Aw, l5, t4, st2]
        exact ⟨_, rfl, by simp only [AE, Nat.reduceLT, Nat.reduceEqDiff, if_true, if_false, reduceIte]; exact t4, by simp [AE]⟩
      obtain ⟨e3, r1, r2, r3⟩ := hrun
      rw [Mz rfl, NC, p1, R6]
      simp only [BI, Aq, q1, BA, BH]
      rw [r1, AZ, EL (v := mvV f t w) (by rw [r2]; exact lr), r3]
    · have c1 : iEq ((EF x zs).length : Int) (zs.length : Int) = true := by rw [QZ hx, B6]; simp
      obtain ⟨g5, st2, x5, lr, _⟩ := N4 (A := 0) W xg (B := h1.next) (by omega) (f := f) (t := t) u2 Sg
      refine ⟨g5, x5, .inl ⟨fun h => hx h.2, ?_⟩⟩
      have hrun : ∃ e3, mrE (call AG (n + 2)) e2 g = .ret e3 g5 ∧ AB 4 e3 = .pointer (some ⟨h1.next, 0, none⟩) ∧ AB 5 e3 = .int .i64 167 := by
        rw [Rz]
        unfold aH eV
        simp only [sT, Nat.reduceLT, Nat.reduceEqDiff, if_true, if_false, reduceIte, Al, t6, wl, AW, t2, Aj, Nat.zero_add, Ab, la, ul, AO, AN, c1, Au, Ay, Aw, lm, t4, st2]
        exact ⟨_, rfl, by simp only [AE, Nat.reduceLT, Nat.reduceEqDiff, if_true, if_false, reduceIte]; exact t4, by simp [AE]⟩
      obtain ⟨e3, r1, r2, r3⟩ := hrun
      rw [Mz rfl, NC, p1, R6]
      simp only [BI, Aq, q1, BA, BH]
      rw [r1, AZ, EL (v := mvV f t u) (by rw [r2]; exact lr), r3]
end
end Go.Proofs.Ytkafejncffinmaa
set_option linter.unusedVariables false
set_option linter.unusedSimpArgs false
namespace Go.Proofs.Ytkafejncffinmaa
noncomputable section
open Go
set_option maxRecDepth 100000
theorem Im : ∀ (ws : List Pw) (i : Nat) (x : Pw) (L : List Value), ws[i]? = some x → (CC ws ++ L)[i * 2]? = some (.int .i64 x.1) ∧ (CC ws ++ L)[i * 2 + 1]? = some x.2.1
  | [], _, _, _, h => by cases h
  | y :: l, 0, x, _, h => by cases h; exact ⟨rfl, rfl⟩
  | y :: l, i + 1, x, L, h => by
    have := Im l i x L h
    rw [show (i + 1) * 2 = i * 2 + 1 + 1 by omega]
    exact this
theorem Hp.PlI.at2 {h : Hp} {v : Value} {ws : List Pw} (d : h.PlI v ws) {i : Nat} {x : Pw} (hx : ws[i]? = some x) : ∃ b, ET 2 v (.int .i64 (i : Int)) h = .ok (.pointer (some ⟨b, i * 2, none⟩)) h ∧ Cu (.pointer (some ⟨b, i * 2 + 0, none⟩)) h = .ok (.int .i64 x.1) h ∧ Cu (.pointer (some ⟨b, i * 2 + 1, none⟩)) h = .ok x.2.1 h := by
  have hlt : i < ws.length := (List.getElem?_eq_some_iff.1 hx).1
  rcases d with ⟨_, rfl⟩ | ⟨b, c, el, L, rfl, R⟩
  · cases hlt
  · have hf := Dj ws
    obtain ⟨q1, q2⟩ := Im ws i x L hx
    refine ⟨b, ?_, ?_, ?_⟩
    · have := FE (h := h) (es := 2) (b := b) (off := 0) (c := c) (k := .i64) hlt
      rw [Nat.zero_add] at this; exact this
    · rw [Am, R.load1 (off := i * 2 + 0) (by rw [List.length_append]; omega), List.getD_eq_getElem?_getD, Nat.add_zero, q1]; rfl
    · rw [Am, R.load1 (off := i * 2 + 1) (by rw [List.length_append]; omega), List.getD_eq_getElem?_getD, q2]; rfl
theorem Hp.Own2.pli {h : Hp} {k n : Nat} {v : Value} {ws : List Pw} (o : h.Own2 k v (CC ws) n) : h.PlI v ws := by
  rcases o with ⟨h1, h2, _⟩ | ⟨b, h1, h2, h3, _⟩
  · refine .inl ⟨h1, ?_⟩
    cases ws with
    | nil => rfl
    | cons x l => cases h2
  · have := Dj ws
    have : n = ws.length := by omega
    subst this
    exact .inr ⟨b, ws.length, 38, [], h1, by rw [List.append_nil]; exact h2⟩
def smB : C := (cOp (AC 14) (Af (AB 0))
(cOp (AC 15) (AL iLt .i64 (AB 7) (AB 14))
(AP (AB 15)
(Ar (AX 1 (cOp (AC 20) (A9 2 (AB 0) (AB 7))
(cOp (AC 21) (AF 1 (AB 20))
(cOp (AC 22) (AH (AB 21))
(cOp (AC 23) (Af (AB 22))
(cOp (AC 25) (AL iGt .i64 (AB 23) (AB 2))
(AP (AB 25)
(cOp (AC 6) (AD (kV (.bool false)))
Ae)
Ac)))))))
(cOp (AC 17) (A4 .i64 (Ai .i64) (AB 7) (kV (.int .i64 1)))
(cOp (AC 7) (AD (AB 17))
Ac)))
(A7 0))))
def smE : C := (cOp (AC 6) (AD (kV (.bool true)))
Ae)
def smS : C := (Ar (AX 0 (Ao (cOp (AC 14) (Af (AB 0))
(cOp (AC 15) (AL iLt .i64 (AB 7) (AB 14))
(AP (AB 15)
(Ar (AX 1 (cOp (AC 20) (A9 2 (AB 0) (AB 7))
(cOp (AC 21) (AF 1 (AB 20))
(cOp (AC 22) (AH (AB 21))
(cOp (AC 23) (Af (AB 22))
(cOp (AC 25) (AL iGt .i64 (AB 23) (AB 2))
(AP (AB 25)
(cOp (AC 6) (AD (kV (.bool false)))
Ae)
Ac)))))))
(cOp (AC 17) (A4 .i64 (Ai .i64) (AB 7) (kV (.int .i64 1)))
(cOp (AC 7) (AD (AB 17))
Ac)))
(A7 0))))))
(cOp (AC 6) (AD (kV (.bool true)))
Ae))
theorem TH : smS = Ar (AX 0 (Ao smB)) smE := rfl
def Qw : C := (cOp (AC 6) (AD (kV (.bool false)))
(cOp (AC 9) (Af (AB 0))
(cOp (AC 11) (AL iGt .i64 (AB 9) (AB 1))
(AP (AB 11)
(cOp (AC 6) (AD (kV (.bool false)))
Ae)
(cOp (AC 7) (AD (kV (.int .i64 0)))
smS)))))
def d18 : C := Qw
theorem My {n : Nat} {args : List Value} {h : Hp} (hl : Nat.ble (Bk args) 320 = true) : call AG (Nat.succ n) 18 args h = Bs [.t (AB 6)] (d18 (call AG n) (Ak e0 0 args) h) := by
  have hb : AG.get 18 = some b18 := by kernel_rfl
  rw [BM hb]
  have hd : b18 = ⟨[.t (AB 6)], d18⟩ := by kernel_rfl
  rw [hd, BC hl]
theorem NB : d18 = Qw := rfl
theorem ZD {n : Nat} {h : Hp} {v : Value} {N : Nat} (ln : Ca v h = .ok (.int .i64 (N : Int)) h) (hN : 20 < N) : call AG (n + 1) 18 [v, .int .i64 20, .int .i64 30] h = .ok (.bool false) h := by
  have c1 : iGt (N : Int) 20 = true := by rw [BS]; simp; omega
  rw [My rfl, NB]
  unfold Qw
  simp only [AK, AM, Nat.succ_eq_add_one, Nat.zero_add, Nat.reduceAdd, sT, Nat.reduceLT, Nat.reduceEqDiff, if_true, if_false, reduceIte, Al, ln, AO, AN, c1, AZ, Ap]
theorem WO {F : CallF} {h : Hp} {v : Value} {ws : List Pw} (d : h.PlI v ws) (D : h.NdV ws) (hl : ws.length ≤ 1000) {e : Env} (s0 : AB 0 e = v) (s2 : AB 2 e = .int .i64 30) (s7 : AB 7 e = .int .i64 0) :
    (∃ e', Ao smB F e h = .exit 0 e' h ∧ ∀ x ∈ ws, x.2.2.length ≤ 30) ∨ (∃ e', Ao smB F e h = .ret e' h ∧ AB 6 e' = .bool false ∧ ¬ ∀ x ∈ ws, x.2.2.length ≤ 30) := by
  refine Bo (I := fun i e' h' => h' = h ∧ AB 0 e' = v ∧ AB 2 e' = .int .i64 30 ∧ AB 7 e' = .int .i64 (i : Int) ∧ i ≤ ws.length ∧ ∀ x ∈ ws.take i, x.2.2.length ≤ 30)
    (Q := fun y => (∃ e', y = .exit 0 e' h ∧ ∀ x ∈ ws, x.2.2.length ≤ 30) ∨ (∃ e', y = .ret e' h ∧ AB 6 e' = .bool false ∧ ¬ ∀ x ∈ ws, x.2.2.length ≤ 30)) ws.length (by omega) (fun i e' h' ⟨hh, t0, t2, t7, hi, hok⟩ => ?_) ⟨rfl, s0, s2, s7, Nat.zero_le _, fun x hx => by cases hx⟩
  subst hh
  have ln : Ca v h' = .ok (.int .i64 (ws.length : Int)) h' := d.len
  by_cases hlt : i < ws.length
  · have hx : ws[i]? = some ws[i] := List.getElem?_eq_getElem hlt
    have hxm : ws[i] ∈ ws := List.getElem_mem hlt
    have htk : ws.take (i + 1) = ws.take i ++ [ws[i]] := by rw [List.take_add_one, hx]; rfl
    obtain ⟨b, ci, _, l1⟩ := d.at2 hx
    generalize ws[i] = x at hx hxm htk l1
    have nl := (D x hxm).ilen
    have c1 : iLt (i : Int) (ws.length : Int) = true := by rw [As]; simp; omega
    by_cases h30 : x.2.2.length ≤ 30
    · left
      have c2 : iGt (x.2.2.length : Int) 30 = false := by rw [BS]; simp; omega
      have a3 : Ci .i64 (.int .i64 (i : Int)) (.int .i64 1) h' = .ok (.int .i64 ((i + 1 : Nat) : Int)) h' := by
        have : (i : Int) + 1 = ((i + 1 : Nat) : Int) := by omega
        rw [Bc, this, BJ (by omega)]
      have hrun : ∃ e2, smB F e' h' = .norm e2 h' ∧ AB 0 e2 = v ∧ AB 2 e2 = .int .i64 30 ∧ AB 7 e2 = .int .i64 ((i + 1 : Nat) : Int) := by
        unfold smB
        simp only [sT, Nat.reduceLT, Nat.reduceEqDiff, if_true, if_false, reduceIte, Al, t0, ln, AO, AN, t7, c1, BV, ci, AW, Aj, Ab, l1, nl, t2, c2, Bb, a3]
        exact ⟨_, rfl, by simp only [AE, Nat.reduceLT, Nat.reduceEqDiff, if_true, if_false, reduceIte]; exact t0, by simp only [AE, Nat.reduceLT, Nat.reduceEqDiff, if_true, if_false, reduceIte]; exact t2, by simp [AE]⟩
      obtain ⟨e2, r1, r2, r3, r4⟩ := hrun
      refine ⟨hlt, e2, h', r1, rfl, r2, r3, r4, hlt, fun y hy => ?_⟩
      rw [htk] at hy
      rcases List.mem_append.1 hy with hy | hy
      · exact hok y hy
      · rw [List.mem_singleton.1 hy]; exact h30
    · right
      have c2 : iGt (x.2.2.length : Int) 30 = true := by rw [BS]; simp; omega
      have hrun : ∃ e2, smB F e' h' = .ret e2 h' ∧ AB 6 e2 = .bool false := by
        unfold smB
        simp only [sT, Nat.reduceLT, Nat.reduceEqDiff, if_true, if_false, reduceIte, Al, t0, ln, AO, AN, t7, c1, BV, ci, AW, Aj, Ab, l1, nl, t2, c2]
        exact ⟨_, rfl, by simp [AE]⟩
      obtain ⟨e2, r1, r2⟩ := hrun
      rw [r1]
      exact ⟨rfl, .inr ⟨e2, rfl, r2, fun h => h30 (h x hxm)⟩⟩
  · right
    have c1 : iLt (i : Int) (ws.length : Int) = false := by rw [As]; simp; omega
    have hrun : ∃ e2, smB F e' h' = .exit 0 e2 h' := by
      unfold smB
      simp only [sT, Nat.reduceLT, Nat.reduceEqDiff, if_true, if_false, reduceIte, Al, t0, ln, AO, AN, t7, c1]
      exact ⟨_, rfl⟩
    obtain ⟨e2, r1⟩ := hrun
    rw [r1]
    rw [List.take_of_length_le (by omega)] at hok
    exact ⟨rfl, .inl ⟨e2, rfl, hok⟩⟩
theorem ZC {n : Nat} {h : Hp} {v : Value} {ws : List Pw} (d : h.PlI v ws) (D : h.NdV ws) (hl : ws.length ≤ 20) : ∃ r, call AG (n + 1) 18 [v, .int .i64 20, .int .i64 30] h = .ok (.bool r) h ∧ (r = true ↔ ∀ x ∈ ws, x.2.2.length ≤ 30) := by
  have ln : Ca v h = .ok (.int .i64 (ws.length : Int)) h := d.len
  have c1 : iGt (ws.length : Int) 20 = false := by rw [BS]; simp; omega
  have pre : ∃ e1, Qw (call AG n) (Ak e0 0 [v, .int .i64 20, .int .i64 30]) h = smS (call AG n) e1 h ∧ AB 0 e1 = v ∧ AB 2 e1 = .int .i64 30 ∧ AB 7 e1 = .int .i64 0 := by
    unfold Qw
    simp only [AK, AM, Nat.succ_eq_add_one, Nat.zero_add, Nat.reduceAdd, BX, Bj, BZ, Ba, A5, Br, AE, Nat.reduceLT, Nat.reduceEqDiff, if_true, if_false, reduceIte, Al, ln, AO, AN, c1]
    exact ⟨_, rfl, by simp [AE], by simp [AE], by simp [AE]⟩
  obtain ⟨e1, p1, p2, p3, p4⟩ := pre
  rcases WO (F := call AG n) d D (by omega) p2 p3 p4 with ⟨e2, q1, q2⟩ | ⟨e2, q1, q2, q3⟩
  · refine ⟨true, ?_, ⟨fun _ => q2, fun _ => rfl⟩⟩
    rw [My rfl, NB, p1, TH]
    simp only [BI, Aq, q1, BA, BH]
    unfold smE
    simp only [sT, Nat.reduceLT, Nat.reduceEqDiff, if_true, if_false, reduceIte, AZ, Ap]
  · refine ⟨false, ?_, ⟨(fun h => by cases h), fun h => (q3 h).elim⟩⟩
    rw [My rfl, NB, p1, TH]
    simp only [BI, Aq, q1, BL, Bw, AZ, Ap, q2]
def spB : C := (cOp (AC 13) (Af (AB 0))
(cOp (AC 14) (AL iLt .i64 (AB 5) (AB 13))
(AP (AB 14)
(Ar (AX 1 (Bx (cOp (AC 19) (A9 2 (AB 0) (AB 5))
(cOp (AC 20) (AF 0 (AB 19))
(cOp (AC 21) (AH (AB 20))
(cOp (AC 24) (A9 2 (AB 1) (AB 5))
(cOp (AC 25) (AF 0 (AB 24))
(cOp (AC 26) (AH (AB 25))
(cOp (AC 27) (AL iNe .i64 (AB 21) (AB 26))
(cG (AB 27) false (AC 29) (AD (AB 0))
(cG (AB 27) false (AC 30) (AD (AB 5))
(cG (AB 27) false (AC 31) (A9 2 (AB 29) (AB 30))
(cG (AB 27) false (AC 32) (AF 1 (AB 31))
(cG (AB 27) false (AC 33) (AH (AB 32))
(cG (AB 27) false (AC 34) (AD (AB 1))
(cG (AB 27) false (AC 35) (AD (AB 5))
(cG (AB 27) false (AC 36) (A9 2 (AB 34) (AB 35))
(cG (AB 27) false (AC 37) (AF 1 (AB 36))
(cG (AB 27) false (AC 38) (AH (AB 37))
(cG (AB 27) false (AC 39) (An .free (AQ 17 [(AB 33), (AB 38)]))
(cG (AB 27) false (AC 40) (B7 (AB 39))
(cOp (AC 41) (AS (AB 27) (kV (.bool true)) (AB 40))
(AP (AB 41)
(cOp (AC 4) (AD (kV (.bool false)))
Ae)
Ac)))))))))))))))))))))))
(cOp (AC 16) (A4 .i64 (Ai .i64) (AB 5) (kV (.int .i64 1)))
(cOp (AC 5) (AD (AB 16))
Ac)))
(A7 0))))
def spE : C := (cOp (AC 4) (AD (kV (.bool true)))
Ae)
def spS : C := (Ar (AX 0 (Ao (cOp (AC 13) (Af (AB 0))
(cOp (AC 14) (AL iLt .i64 (AB 5) (AB 13))
(AP (AB 14)
(Ar (AX 1 (Bx (cOp (AC 19) (A9 2 (AB 0) (AB 5))
(cOp (AC 20) (AF 0 (AB 19))
(cOp (AC 21) (AH (AB 20))
(cOp (AC 24) (A9 2 (AB 1) (AB 5))
(cOp (AC 25) (AF 0 (AB 24))
(cOp (AC 26) (AH (AB 25))
(cOp (AC 27) (AL iNe .i64 (AB 21) (AB 26))
(cG (AB 27) false (AC 29) (AD (AB 0))
(cG (AB 27) false (AC 30) (AD (AB 5))
(cG (AB 27) false (AC 31) (A9 2 (AB 29) (AB 30))
(cG (AB 27) false (AC 32) (AF 1 (AB 31))
(cG (AB 27) false (AC 33) (AH (AB 32))
(cG (AB 27) false (AC 34) (AD (AB 1))
(cG (AB 27) false (AC 35) (AD (AB 5))
(cG (AB 27) false (AC 36) (A9 2 (AB 34) (AB 35))
(cG (AB 27) false (AC 37) (AF 1 (AB 36))
(cG (AB 27) false (AC 38) (AH (AB 37))
(cG (AB 27) false (AC 39) (An .free (AQ 17 [(AB 33), (AB 38)]))
(cG (AB 27) false (AC 40) (B7 (AB 39))
(cOp (AC 41) (AS (AB 27) (kV (.bool true)) (AB 40))
(AP (AB 41)
(cOp (AC 4) (AD (kV (.bool false)))
Ae)
Ac)))))))))))))))))))))))
(cOp (AC 16) (A4 .i64 (Ai .i64) (AB 5) (kV (.int .i64 1)))
(cOp (AC 5) (AD (AB 16))
Ac)))
(A7 0))))))
(cOp (AC 4) (AD (kV (.bool true)))
Ae))
theorem ag : spS = Ar (AX 0 (Ao spB)) spE := rfl
def UA : C := (cOp (AC 4) (AD (kV (.bool false)))
(cOp (AC 7) (Af (AB 0))
(cOp (AC 9) (Af (AB 1))
(cOp (AC 10) (AL iNe .i64 (AB 7) (AB 9))
(AP (AB 10)
(cOp (AC 4) (AD (kV (.bool false)))
Ae)
(cOp (AC 5) (AD (kV (.int .i64 0)))
spS))))))
def d21 : C := UA
theorem YX {n : Nat} {args : List Value} {h : Hp} (hl : Nat.ble (Bk args) 320 = true) : call AG (Nat.succ n) 21 args h = Bs [.t (AB 4)] (d21 (call AG n) (Ak e0 0 args) h) := by
  have hb : AG.get 21 = some b21 := by kernel_rfl
  rw [BM hb]
  have hd : b21 = ⟨[.t (AB 4)], d21⟩ := by kernel_rfl
  rw [hd, BC hl]
theorem Yx : d21 = UA := rfl
theorem WP {n : Nat} {h : Hp} (W : h.Wf) {v v2 : Value} {ws ws2 : List Pw} (d : h.PlI v ws) (D : h.NdW ws) (d2 : h.PlI v2 ws2) (D2 : h.NdW ws2) (hq : ws.map shP = ws2.map shP) (hl : ws.length ≤ 1000) (hz : ∀ x ∈ ws, x.2.2.length < 900000) {e : Env} (s0 : AB 0 e = v) (s1 : AB 1 e = v2) (s5 : AB 5 e = .int .i64 0) :
    ∃ e' h', Ao spB (call AG (n + 1)) e h = .exit 0 e' h' ∧ h.Ext h' := by
  have hlen : ws.length = ws2.length := by have := congrArg List.length hq; simpa using this
  refine Bo (I := fun i e' h' => h.Ext h' ∧ AB 0 e' = v ∧ AB 1 e' = v2 ∧ AB 5 e' = .int .i64 (i : Int) ∧ i ≤ ws.length)
    (Q := fun y => ∃ e' h', y = .exit 0 e' h' ∧ h.Ext h') ws.length (by omega) (fun i e' h' ⟨x, t0, t1, t5, hi⟩ => ?_) ⟨.refl W, s0, s1, s5, Nat.zero_le _⟩
  have ln : Ca v h' = .ok (.int .i64 (ws.length : Int)) h' := d.len
  by_cases hlt : i < ws.length
  · left
    have hx : ws[i]? = some ws[i] := List.getElem?_eq_getElem hlt
    have hx2 : ws2[i]? = some (ws2[i]'(by omega)) := List.getElem?_eq_getElem (by omega)
    have hxm : ws[i] ∈ ws := List.getElem_mem hlt
    have hxm2 : ws2[i]'(by omega) ∈ ws2 := List.getElem_mem (by omega)
    have xm := x.marked
    obtain ⟨b, ci, l0, l1⟩ := (d.ext W xm).at2 hx
    obtain ⟨b2, ci2, m0, m1⟩ := (d2.ext W xm).at2 hx2
    have heq : shP ws[i] = shP (ws2[i]'(by omega)) := by
      have := congrArg (fun l => l[i]?) hq
      simp only [List.getElem?_map, hx, hx2] at this
      exact Option.some.inj this
    generalize ws[i] = y at hx hxm l0 l1 heq
    generalize ws2[i]'(by omega) = y2 at hx2 hxm2 m0 m1 heq
    have e1 : y.1 = y2.1 := congrArg (fun p : Int × List Int => p.1) heq
    have e2 : y.2.2 = y2.2.2 := congrArg (fun p : Int × List Int => p.2) heq
    rw [← e1] at m0
    have V1 : h'.marked.quiet.Vals y.2.1 (ints .i64 y.2.2) := ((D y hxm).ext W xm.quiet)
    have V2 : h'.marked.quiet.Vals y2.2.1 (ints .i64 y.2.2) := by rw [e2]; exact ((D2 y2 hxm2).ext W xm.quiet)
    obtain ⟨g, k1, k2⟩ := XL (n := n) V1 V2 (hz y hxm)
    have xg : h.Ext g := by
      rcases k2 with rfl | rfl
      · exact xm.quiet
      · exact xm.quiet.marked
    have qq : ∀ e : Env, AB 33 e = y.2.1 → AB 38 e = y2.2.1 → An .free (AQ 17 [AB 33, AB 38]) (call AG (n + 1)) e h'.marked = .ok (.bool true) (h'.marked.back g) := fun e h1 h2 => DL (by simp only [Ah, AV, Ad, h1, h2]; exact k1)
    have xb : h.Ext (h'.marked.back g) := xm.back2 xg
    have c1 : iLt (i : Int) (ws.length : Int) = true := by rw [As]; simp; omega
    have c2 : iNe y.1 y.1 = false := by rw [DB]; simp
    have a3 : Ci .i64 (.int .i64 (i : Int)) (.int .i64 1) (h'.marked.back g) = .ok (.int .i64 ((i + 1 : Nat) : Int)) (h'.marked.back g) := by
      have : (i : Int) + 1 = ((i + 1 : Nat) : Int) := by omega
      rw [Bc, this, BJ (by omega)]
    have hrun : ∃ e2, spB (call AG (n + 1)) e' h' = .norm e2 (h'.marked.back g) ∧ AB 0 e2 = v ∧ AB 1 e2 = v2 ∧ AB 5 e2 = .int .i64 ((i + 1 : Nat) : Int) := by
      unfold spB
      simp only [sT, Nat.reduceLT, Nat.reduceEqDiff, if_true, if_false, reduceIte, gD, Al, t0, ln, AO, AN, t5, c1, Cw, BV, ci, ci2, t1, AW, Aj, Ab, l0, l1, m0, m1, c2, qq, Bf, Be, Bool.not_true, Bb, a3]
      exact ⟨_, rfl, by simp only [AE, Nat.reduceLT, Nat.reduceEqDiff, if_true, if_false, reduceIte]; exact t0, by simp only [AE, Nat.reduceLT, Nat.reduceEqDiff, if_true, if_false, reduceIte]; exact t1, by simp [AE]⟩
    obtain ⟨e2, r1, r2, r3, r4⟩ := hrun
    exact ⟨hlt, e2, _, r1, xb, r2, r3, r4, hlt⟩
  · right
    have c1 : iLt (i : Int) (ws.length : Int) = false := by rw [As]; simp; omega
    have hrun : ∃ e2, spB (call AG (n + 1)) e' h' = .exit 0 e2 h' := by
      unfold spB
      simp only [sT, Nat.reduceLT, Nat.reduceEqDiff, if_true, if_false, reduceIte, Al, t0, ln, AO, AN, t5, c1]
      exact ⟨_, rfl⟩
    obtain ⟨e2, r1⟩ := hrun
    rw [r1]
    exact ⟨rfl, e2, h', rfl, x⟩
theorem ey {n : Nat} {h : Hp} (W : h.Wf) {v v2 : Value} {ws ws2 : List Pw} (d : h.PlI v ws) (D : h.NdW ws) (d2 : h.PlI v2 ws2) (D2 : h.NdW ws2) (hq : ws.map shP = ws2.map shP) (hl : ws.length ≤ 1000) (hz : ∀ x ∈ ws, x.2.2.length < 900000) : ∃ h', call AG (n + 2) 21 [v, v2] h = .ok (.bool true) h' ∧ h.Ext h' := by
  have hlen : ws.length = ws2.length := by have := congrArg List.length hq; simpa using this
  have ln : Ca v h = .ok (.int .i64 (ws.length : Int)) h := d.len
  have ln2 : Ca v2 h = .ok (.int .i64 (ws.length : Int)) h := by rw [hlen]; exact d2.len
  have c1 : iNe (ws.length : Int) (ws.length : Int) = false := by rw [DB]; simp
  have pre : ∃ e1, UA (call AG (n + 1)) (Ak e0 0 [v, v2]) h = spS (call AG (n + 1)) e1 h ∧ AB 0 e1 = v ∧ AB 1 e1 = v2 ∧ AB 5 e1 = .int .i64 0 := by
    unfold UA
    simp only [AK, AM, Nat.succ_eq_add_one, Nat.zero_add, Nat.reduceAdd, BX, Bj, BZ, Ba, A5, Br, AE, Nat.reduceLT, Nat.reduceEqDiff, if_true, if_false, reduceIte, Al, ln, ln2, AO, AN, c1]
    exact ⟨_, rfl, by simp [AE], by simp [AE], by simp [AE]⟩
  obtain ⟨e1, p1, p2, p3, p4⟩ := pre
  obtain ⟨e2, h', q1, q2⟩ := WP (n := n) W d D d2 D2 hq hl hz p2 p3 p4
  refine ⟨h', ?_, q2⟩
  rw [YX rfl, Yx, p1, ag]
  simp only [BI, Aq, q1, BA, BH]
  unfold spE
  simp only [sT, Nat.reduceLT, Nat.reduceEqDiff, if_true, if_false, reduceIte, AZ, Ap]
theorem Tt {n : Nat} {h : Hp} (W : h.Wf) {u : Value} {zs : List Int} (V : h.Vals u (ints .i64 zs)) (hl : zs.length < 900000) : ∃ h' v, call AG (n + 1) 19 [u] h = .ok v h' ∧ h.Ext h' ∧ h'.Own h.next 3 v (ints .i64 zs) := by
  by_cases hz : 0 < zs.length
  · obtain ⟨h', v, a, b, c, d, f⟩ := FZ (eb := 8) (en := 3) (.refl W) (Nat.le_refl _) (Nat.le_refl _) (.inl ⟨rfl, rfl⟩) V (by rw [BG]; exact hz) (Du _ _) (by rw [BG]; simp; omega)
    refine ⟨h', v, ?_, b, c⟩
    rw [Qf rfl]
    unfold d19
    simp only [AK, AM, Nat.succ_eq_add_one, Nat.zero_add, Nat.reduceAdd, sT, Nat.reduceLT, Nat.reduceEqDiff, if_true, if_false, reduceIte, Bv, a, AZ, Ap]
  · have hz : zs = [] := List.eq_nil_of_length_eq_zero (by omega)
    subst hz
    refine ⟨h, .slice none 0 0, ?_, .refl W, .inl ⟨rfl, rfl⟩⟩
    have a : Gd 1 8 3 (.slice none 0 0) u h = .ok (.slice none 0 0) h := by
      have V0 : h.Vals u ([] : List Value) := V
      unfold Gd Dn
      simp only [V0.lenV, V0.src rfl, Av]
      rfl
    rw [Qf rfl]
    unfold d19
    simp only [AK, AM, Nat.succ_eq_add_one, Nat.zero_add, Nat.reduceAdd, sT, Nat.reduceLT, Nat.reduceEqDiff, if_true, if_false, reduceIte, Bv, a, AZ, Ap]
end
end Go.Proofs.Ytkafejncffinmaa
set_option linter.unusedVariables false
set_option linter.unusedSimpArgs false
namespace Go.Proofs.Ytkafejncffinmaa
noncomputable section
open Go
set_option maxRecDepth 100000
def MdR (h' : Hp) (r : R) (f t : Int) (Z : List Int) (E : Int) : Prop := ∃ w, r = .ok (.tuple ⟨[mvV f t w, .int .i64 E]⟩) h' ∧ h'.Vals w (ints .i64 Z)
def ByR (h' : Hp) (r : R) (L : List Nat) (E : Int) : Prop := ∃ w, r = .ok (.tuple ⟨[w, .int .i64 E]⟩) h' ∧ h'.Vals w (L.map bv)
def BgR (h' : Hp) (r : R) (P : List (Int × List Int)) (f t : Int) (Z : List Int) (E : Int) : Prop := ∃ vo w outs, r = .ok (.tuple ⟨[vo, mvV f t w, .int .i64 E]⟩) h' ∧ h'.PlI vo outs ∧ h'.NdW outs ∧ outs.map shP = P ∧ h'.Vals w (ints .i64 Z)
theorem KJ {h : Hp} : h.Vals (.slice none 0 0) (ints .i64 []) := .inl ⟨rfl, rfl⟩
theorem F1 {h' : Hp} {r : R} {E : Int} (hr : r = .ok (.tuple ⟨[.slice none 0 0, zMv, .int .i64 E]⟩) h') : BgR h' r [] 0 0 [] E := ⟨_, _, [], hr, .inl ⟨rfl, rfl⟩, (fun x hx => by cases hx), rfl, KJ⟩
theorem PE {v u : Value} {ws : List Pw} {all : List Int} (hl : ws.length ≤ 1000) (hz : ∀ x ∈ ws, x.2.2.length ≤ 1000) (fr to_ : Int) (hal : all.length ≤ 9000) :
    ∃ P F T Z E, Z.length < 900000 ∧ P.length ≤ 1000 ∧ (∀ p ∈ P, p.2.length < 900000) ∧ (∀ (n : Nat) (h : Hp), h.Wf → h.PlI v ws → h.NdV ws → h.Vals u (ints .i64 all) → ∃ h', h.Ext h' ∧ BgR h' (call AG (n + 9) 8 [v, .int .i64 fr, .int .i64 to_, u] h) P F T Z E) ∧
      (∀ (n : Nat) (h : Hp), h.Wf → h.PlI v ws → h.NdV ws → h.Vals u (ints .i64 all) → ∃ h', h.Ext h' ∧ BgR h' (call AG (n + 4) 20 [v, .int .i64 fr, .int .i64 to_, u] h) P F T Z E) := by
  have hz' : ∀ x ∈ ws, x.2.2.length < 900000 := fun x hx => by have := hz x hx; omega
  have nilP : ∀ p ∈ ([] : List (Int × List Int)), p.2.length < 900000 := fun p hp => by cases hp
  by_cases hA : Eu ws
  · by_cases hB : Eo fr to_ ws
    · refine ⟨[], 0, 0, [], 100, by simp, by simp, nilP, fun n h W d D V => ?_, fun n h W d D V => ?_⟩
      · obtain ⟨h', x, r⟩ := H6 (n := n) W d D hl hz' fr to_ V hal
        rcases r with ⟨a, _⟩ | ⟨_, _, r⟩ | ⟨_, b, _⟩ | ⟨_, b, _⟩
        · exact (a hA).elim
        · exact ⟨h', x, F1 r⟩
        · exact (b hB).elim
        · exact (b hB).elim
      · obtain ⟨h', x, r⟩ := Ge (n := n) W d D hl hz' fr to_ V hal
        rcases r with ⟨a, _⟩ | ⟨_, _, r⟩ | ⟨_, b, _⟩ | ⟨_, b, _⟩
        · exact (a hA).elim
        · exact ⟨h', x, F1 r⟩
        · exact (b hB).elim
        · exact (b hB).elim
    · cases hr : BN (-1) all with
      | false =>
        refine ⟨[], 0, 0, [], 2, by simp, by simp, nilP, fun n h W d D V => ?_, fun n h W d D V => ?_⟩
        · obtain ⟨h', x, r⟩ := H6 (n := n) W d D hl hz' fr to_ V hal
          rcases r with ⟨a, _⟩ | ⟨_, b, r⟩ | ⟨_, _, _, r⟩ | ⟨_, _, b, _⟩
          · exact (a hA).elim
          · exact (hB b).elim
          · exact ⟨h', x, F1 r⟩
          · rw [hr] at b; cases b
        · obtain ⟨h', x, r⟩ := Ge (n := n) W d D hl hz' fr to_ V hal
          rcases r with ⟨a, _⟩ | ⟨_, b, r⟩ | ⟨_, _, _, r⟩ | ⟨_, _, b, _⟩
          · exact (a hA).elim
          · exact (hB b).elim
          · exact ⟨h', x, F1 r⟩
          · rw [hr] at b; cases b
      | true =>
        refine ⟨ws.map (Ev fr to_), fr, to_, Cz (grp fr 0 ws) ws.length all, 0, Nat.lt_of_le_of_lt Jy (by omega), by rw [List.length_map]; exact hl, fun p hp => ?_, fun n h W d D V => ?_, fun n h W d D V => ?_⟩
        · obtain ⟨x, hx, rfl⟩ := List.mem_map.1 hp
          have := hz x hx
          unfold Ev
          by_cases hf : fr ∈ x.2.2
          · rw [if_pos hf, List.length_set]; omega
          · rw [if_neg hf]; show x.2.2.length < 900000; omega
        · obtain ⟨h', x, r⟩ := H6 (n := n) W d D hl hz' fr to_ V hal
          rcases r with ⟨a, _⟩ | ⟨_, b, r⟩ | ⟨_, _, b, r⟩ | ⟨_, _, _, vo, w, outs, k2, r, U, O, M, o⟩
          · exact (a hA).elim
          · exact (hB b).elim
          · rw [hr] at b; cases b
          · exact ⟨h', x, vo, w, outs, r, U.pli, fun y hy => (O y hy).vals, M, o.vals⟩
        · obtain ⟨h', x, r⟩ := Ge (n := n) W d D hl hz' fr to_ V hal
          rcases r with ⟨a, _⟩ | ⟨_, b, r⟩ | ⟨_, _, b, r⟩ | ⟨_, _, _, vo, w, outs, k2, k3, r, U, O, M, o⟩
          · exact (a hA).elim
          · exact (hB b).elim
          · rw [hr] at b; cases b
          · exact ⟨h', x, vo, w, outs, r, U.pli, O, M, o.vals⟩
  · refine ⟨[], 0, 0, [], 2, by simp, by simp, nilP, fun n h W d D V => ?_, fun n h W d D V => ?_⟩
    · obtain ⟨h', x, r⟩ := H6 (n := n) W d D hl hz' fr to_ V hal
      rcases r with ⟨_, r⟩ | ⟨a, _⟩ | ⟨a, _⟩ | ⟨a, _⟩
      · exact ⟨h', x, F1 r⟩
      · exact (hA a).elim
      · exact (hA a).elim
      · exact (hA a).elim
    · obtain ⟨h', x, r⟩ := Ge (n := n) W d D hl hz' fr to_ V hal
      rcases r with ⟨_, r⟩ | ⟨a, _⟩ | ⟨a, _⟩ | ⟨a, _⟩
      · exact ⟨h', x, F1 r⟩
      · exact (hA a).elim
      · exact (hA a).elim
      · exact (hA a).elim
theorem NX (f t x : Int) {zs : List Int} (hl : zs.length < 900000) :
    ∃ Z E, Z.length < 900000 ∧ (∀ (n : Nat) (h : Hp) (u : Value), h.Wf → h.Vals u (ints .i64 zs) → ∃ h', h.Ext h' ∧ MdR h' (call AG (n + 3) 12 [mvV f t u, .int .i64 x] h) f t Z E) ∧
      (∀ (n : Nat) (h : Hp) (u : Value), h.Wf → h.Vals u (ints .i64 zs) → ∃ h', h.Ext h' ∧ MdR h' (call AG (n + 3) 23 [mvV f t u, .int .i64 x] h) f t Z E) := by
  by_cases hc : Bq f t zs = true ∧ x ∈ zs
  · obtain ⟨hr, hx⟩ := hc
    have hrise := (D7 hr).2.2.2.2.2.2
    refine ⟨EF x zs, 0, Nat.lt_trans (OB hx) hl, fun n h u W V => ?_, fun n h u W V => ?_⟩
    · obtain ⟨h', w, k, hk, hkx, r, xh, o⟩ := Pe (n := n) W V hl hr hx
      rw [← QY zs (-1) x k hrise hk hkx] at o
      exact ⟨h', xh, w, r, o.vals⟩
    · obtain ⟨h', xh, r⟩ := I1 (n := n) W (f := f) (t := t) (x := x) V hl
      rcases r with ⟨a, _⟩ | ⟨_, _, w, k, r, o⟩
      · exact (a ⟨hr, hx⟩).elim
      · exact ⟨h', xh, w, r, o.vals⟩
  · refine ⟨zs, 167, hl, fun n h u W V => ?_, fun n h u W V => ?_⟩
    · cases hr : Bq f t zs with
      | false =>
        obtain ⟨h', r, xh⟩ := NW (n := n) W (x := x) V hl hr
        exact ⟨h', xh, u, r, V.ext W xh⟩
      | true =>
        obtain ⟨h', r, xh⟩ := Pd (n := n) W V hl hr (fun hx => hc ⟨hr, hx⟩)
        exact ⟨h', xh, u, r, V.ext W xh⟩
    · obtain ⟨h', xh, r⟩ := I1 (n := n) W (f := f) (t := t) (x := x) V hl
      rcases r with ⟨_, r⟩ | ⟨a, b, _⟩
      · exact ⟨h', xh, u, r, V.ext W xh⟩
      · exact (hc ⟨a, b⟩).elim
theorem PJ (f t : Int) {zs : List Int} (hl : zs.length < 900000) :
    ∃ L E, (∀ (n : Nat) (h : Hp) (u : Value), h.Wf → h.Vals u (ints .i64 zs) → ∃ h', h.Ext h' ∧ ByR h' (call AG (n + 3) 15 [mvV f t u] h) L E) ∧
      (∀ (n : Nat) (h : Hp) (u : Value), h.Wf → h.Vals u (ints .i64 zs) → ∃ h', h.Ext h' ∧ ByR h' (call AG (n + 3) 24 [mvV f t u] h) L E) := by
  cases hr : Bq f t zs with
  | false =>
    refine ⟨[], 167, fun n h u W V => ?_, fun n h u W V => ?_⟩
    · obtain ⟨h', r, x⟩ := Qb (n := n) W V hl hr
      exact ⟨h', x, _, r, .inl ⟨rfl, rfl⟩⟩
    · obtain ⟨h', r, x⟩ := Jf (n := n) W V hl hr
      exact ⟨h', x, _, r, .inl ⟨rfl, rfl⟩⟩
  | true =>
    refine ⟨Cj f t zs, 0, fun n h u W V => ?_, fun n h u W V => ?_⟩
    · obtain ⟨h', w, k, r, x, _, _, o⟩ := Qd (n := n) W V hr
      exact ⟨h', x, w, r, o.vals⟩
    · obtain ⟨h', w, r, x, o⟩ := Jg (n := n) W V hr
      exact ⟨h', x, w, r, o.vals⟩
theorem SB {h' : Hp} {r : R} (hr : r = .ok Kt h') : MdR h' r 0 0 [] 167 := ⟨_, hr, KJ⟩
theorem Ss {l : List Nat} (hb : ∀ x ∈ l, x < 256) (hl : l.length ≤ 1000000) :
    ∃ F T Z E, Z.length < 900000 ∧ (∀ (n : Nat) (h : Hp) (u : Value), h.Wf → h.Vals u (l.map bv) → ∃ h', h.Ext h' ∧ MdR h' (call AG (n + 4) 16 [u] h) F T Z E) ∧
      (∀ (n : Nat) (h : Hp) (u : Value), h.Wf → h.Vals u (l.map bv) → ∃ h', h.Ext h' ∧ MdR h' (call AG (n + 4) 25 [u] h) F T Z E) := by
  have kn : ∀ {h : Hp} {u : Value}, h.Vals u (l.map bv) → known u = true ∧ cellsOf u = [u] := fun {h u} V => by
    obtain ⟨a, c, rfl⟩ := V.shape
    exact ⟨rfl, rfl⟩
  cases hr : EE l with
  | none =>
    refine ⟨0, 0, [], 167, by simp, fun n h u W V => ?_, fun n h u W V => ?_⟩
    · rcases Ou (n := n) W V hb hl (kn V).1 (kn V).2 with ⟨f, t, zs, h', w, q, _⟩ | ⟨_, h', r, x⟩
      · rw [hr] at q; cases q
      · exact ⟨h', x, SB r⟩
    · rcases MV (n := n) W V hb hl with ⟨f, t, zs, h', w, q, _⟩ | ⟨_, h', r, x⟩
      · rw [hr] at q; cases q
      · exact ⟨h', x, SB r⟩
  | some y =>
    obtain ⟨f, t, zs⟩ := y
    have hlz := (D7 (J9 hb hr).1).2.2.2.2.2.1
    refine ⟨f, t, zs, 0, by omega, fun n h u W V => ?_, fun n h u W V => ?_⟩
    · rcases Ou (n := n) W V hb hl (kn V).1 (kn V).2 with ⟨f', t', zs', h', w, q, r, x, v⟩ | ⟨q, _⟩
      · rw [hr] at q; cases q; exact ⟨h', x, w, r, v⟩
      · rw [hr] at q; cases q
    · rcases MV (n := n) W V hb hl with ⟨f', t', zs', h', w, q, r, x, v⟩ | ⟨q, _⟩
      · rw [hr] at q; cases q; exact ⟨h', x, w, r, v⟩
      · rw [hr] at q; cases q
end
end Go.Proofs.Ytkafejncffinmaa
set_option linter.unusedVariables false
set_option linter.unusedSimpArgs false
namespace Go.Proofs.Ytkafejncffinmaa
noncomputable section
open Go
set_option maxRecDepth 100000
theorem l6 : ty4.k = .bool := by kernel_rfl
def Y9 (neg : Bool) (a b : Value) (h : Hp) : R := match eqV .bool a b with
  | some r => okB (neg != r) h
  | none => .no
theorem SM {F : CallF} {e : Env} {h : Hp} {x y : O} {neg : Bool} : oEq ty4.k neg x y F e h = Y9 neg (x e) (y e) h := by rw [l6]; rfl
theorem UJ {h : Hp} {neg c d : Bool} : Y9 neg (.bool c) (.bool d) h = .ok (.bool (neg != (c == d))) h := JC
theorem LU {h : Hp} {c : Bool} : Y9 false (.bool c) (.bool c) h = .ok (.bool true) h := by rw [UJ]; cases c <;> rfl
def tD : C := (Bx (cOp (AC 125) (Aa 3 (AB 20))
(cOp (AC 126) (Aa 3 (AB 22))
(cOp (AC 127) (An .free (AQ 22 [(AB 125), (AB 126)]))
(cG (AB 127) true (AC 129) (AD (AB 21))
(cG (AB 127) true (AC 130) (AD (AB 23))
(cG (AB 127) true (AC 131) (AL iEq .i64 (AB 129) (AB 130))
(cOp (AC 132) (AS (AB 127) (AB 131) (kV (.bool false)))
(cG (AB 132) true (AC 134) (AD (AB 24))
(cG (AB 132) true (AC 135) (AD (AB 26))
(cG (AB 132) true (AC 136) (An .free (AQ 26 [(AB 134), (AB 135)]))
(cOp (AC 137) (AS (AB 132) (AB 136) (kV (.bool false)))
(cG (AB 137) true (AC 139) (AD (AB 25))
(cG (AB 137) true (AC 140) (AD (AB 27))
(cG (AB 137) true (AC 141) (AL iEq .i64 (AB 139) (AB 140))
(cOp (AC 142) (AS (AB 137) (AB 141) (kV (.bool false)))
(cG (AB 142) true (AC 144) (Aa 3 (AB 28))
(cG (AB 142) true (AC 145) (Aa 3 (AB 30))
(cG (AB 142) true (AC 146) (An .free (AQ 22 [(AB 144), (AB 145)]))
(cOp (AC 147) (AS (AB 142) (AB 146) (kV (.bool false)))
(cG (AB 147) true (AC 149) (AD (AB 29))
(cG (AB 147) true (AC 150) (AD (AB 31))
(cG (AB 147) true (AC 151) (AL iEq .i64 (AB 149) (AB 150))
(cOp (AC 152) (AS (AB 147) (AB 151) (kV (.bool false)))
(cG (AB 152) true (AC 154) (Aa 3 (AB 13))
(cG (AB 152) true (AC 155) (An .weak (AQ 9 [(AB 154)]))
(EG (AB 7) (DZ (AB 7) []
(cG (AB 152) true (AC 156) (Aa 3 (AB 7))
(cG (AB 152) true (AC 157) (An .free (AQ 27 [(AB 156)]))
(cG (AB 152) true (AC 158) (oEq ty4.k false (AB 155) (AB 157))
(cOp (AC 159) (AS (AB 152) (AB 158) (kV (.bool false)))
(cG (AB 159) true (AC 161) (Aa 3 (AB 13))
(cG (AB 159) true (AC 162) (An .weak (AQ 13 [(AB 161)]))
(EG (AB 7) (DZ (AB 7) []
(cG (AB 159) true (AC 163) (Aa 3 (AB 7))
(cG (AB 159) true (AC 164) (An .free (AQ 27 [(AB 163)]))
(cG (AB 159) true (AC 165) (AD (AB 164))
(cG (AB 165) true (AC 166) (AF 2 (AB 7))
(cG (AB 165) true (AC 167) (AH (AB 166))
(cG (AB 165) true (AC 168) (Af (AB 167))
(cG (AB 165) true (AC 169) (AL iEq .i64 (AB 168) (kV (.int .i64 0)))
(cG (AB 159) true (AC 170) (AS (AB 165) (AB 169) (kV (.bool false)))
(cG (AB 159) true (AC 171) (oEq ty4.k false (AB 162) (AB 170))
(cOp (AC 172) (AS (AB 159) (AB 171) (kV (.bool false)))
(cG (AB 172) true (AC 174) (Aa 3 (AB 13))
(cG (AB 172) true (AC 175) (Aa 3 (AB 7))
(cG (AB 172) true (AC 176) (An .free (AQ 22 [(AB 174), (AB 175)]))
(cOp (AC 177) (AS (AB 172) (AB 176) (kV (.bool false)))
(cG (AB 177) true (AC 179) (An .free (AQ 14 []))
(cOp (AC 180) (AS (AB 177) (AB 179) (kV (.bool false)))
(cOp (AC 12) (AD (AB 180))
Ae)))))))))))))))))))))))))))))))))))))))))))))))))))))
theorem Ez {F : CallF} {m g : Hp} {q : Qm} {k : Nat} {l : List O} {v : Value} {e : Env} (hm : m.mark ≤ m.next) (y : m.quiet.Ext g) (hk : F k (vals e l) m.quiet = .ok v g) : An q (AQ k l) F e m = .ok v (m.back g) := JI (by rw [Ah]; exact hk) y hm
theorem DR {m g : Hp} (hm : m.mark ≤ m.next) (y : m.quiet.Ext g) : m.Ext (m.back g) ∧ (m.back g).mark = m.mark ∧ (m.back g).mark ≤ (m.back g).next := ⟨y.back, rfl, Nat.le_trans hm y.next⟩
structure TdM (g : Hp) (A c13 c20 c22 c28 c30 : Nat) (f t : Int) (u u' : Value) (zs : List Int) (w1 w2 : Value) (Z1 : List Int) (b1 b2 : Value) (L : List Nat) (f3 t3 : Int) (w3 w4 : Value) (Z3 : List Int) : Prop where
  rA : g.Row A 0 [.int .i64 f, .int .i64 t, u]
  r13 : g.Row c13 0 [.int .i64 f, .int .i64 t, u']
  r20 : g.Row c20 0 [.int .i64 f, .int .i64 t, w1]
  r22 : g.Row c22 0 [.int .i64 f, .int .i64 t, w2]
  r28 : g.Row c28 0 [.int .i64 f3, .int .i64 t3, w3]
  r30 : g.Row c30 0 [.int .i64 f3, .int .i64 t3, w4]
  vu : g.Vals u (ints .i64 zs)
  vu' : g.Vals u' (ints .i64 zs)
  v1 : g.Vals w1 (ints .i64 Z1)
  v2 : g.Vals w2 (ints .i64 Z1)
  vb1 : g.Vals b1 (L.map bv)
  vb2 : g.Vals b2 (L.map bv)
  v3 : g.Vals w3 (ints .i64 Z3)
  v4 : g.Vals w4 (ints .i64 Z3)
theorem TdM.ext {g g' : Hp} {A c13 c20 c22 c28 c30 : Nat} {f t : Int} {u u' : Value} {zs : List Int} {w1 w2 : Value} {Z1 : List Int} {b1 b2 : Value} {L : List Nat} {f3 t3 : Int} {w3 w4 : Value} {Z3 : List Int} (M : TdM g A c13 c20 c22 c28 c30 f t u u' zs w1 w2 Z1 b1 b2 L f3 t3 w3 w4 Z3) (W : g.Wf) (x : g.Ext g') : TdM g' A c13 c20 c22 c28 c30 f t u u' zs w1 w2 Z1 b1 b2 L f3 t3 w3 w4 Z3 :=
  ⟨M.rA.ext W x, M.r13.ext W x, M.r20.ext W x, M.r22.ext W x, M.r28.ext W x, M.r30.ext W x, M.vu.ext W x, M.vu'.ext W x, M.v1.ext W x, M.v2.ext W x, M.vb1.ext W x, M.vb2.ext W x, M.v3.ext W x, M.v4.ext W x⟩
theorem fq {n : Nat} {g : Hp} (W : g.Wf) {A c13 c20 c22 c28 c30 : Nat} {f t : Int} {u u' : Value} {zs : List Int} {w1 w2 : Value} {Z1 : List Int} {b1 b2 : Value} {L : List Nat} {f3 t3 : Int} {w3 w4 : Value} {Z3 : List Int} {E1 E2 E3 : Int} (M : TdM g A c13 c20 c22 c28 c30 f t u u' zs w1 w2 Z1 b1 b2 L f3 t3 w3 w4 Z3)
    (hzs : zs.length < 900000) (hZ1 : Z1.length < 900000) (hZ3 : Z3.length < 900000) {e : Env} (s7 : AB 7 e = .pointer (some ⟨A, 0, none⟩)) (s13 : AB 13 e = .pointer (some ⟨c13, 0, none⟩)) (s20 : AB 20 e = .pointer (some ⟨c20, 0, none⟩)) (s22 : AB 22 e = .pointer (some ⟨c22, 0, none⟩)) (s28 : AB 28 e = .pointer (some ⟨c28, 0, none⟩)) (s30 : AB 30 e = .pointer (some ⟨c30, 0, none⟩))
    (s21 : AB 21 e = .int .i64 E1) (s23 : AB 23 e = .int .i64 E1) (s24 : AB 24 e = b1) (s26 : AB 26 e = b2) (s25 : AB 25 e = .int .i64 E2) (s27 : AB 27 e = .int .i64 E2) (s29 : AB 29 e = .int .i64 E3) (s31 : AB 31 e = .int .i64 E3) :
    ∃ e2 g', tD (call AG (n + 11)) e g = .ret e2 g' ∧ AB 12 e2 = .bool true ∧ g.Ext g' := by
  have hA : A < g.marked.mark := M.rA.lt W
  have hgm : ∀ (K : C) (F : CallF) (e : Env), Bx K F e g = K F e g.marked := fun _ _ _ => rfl
  have x0 := (Hp.Ext.refl W).marked
  have m0 : g.marked.mark ≤ g.marked.next := Nat.le_refl _
  have M0 := M.ext W x0
  generalize g.marked = m at hA x0 m0 M0 hgm
  have lA : ∀ {h : Hp}, h.Row A 0 [.int .i64 f, .int .i64 t, u] → loadN 3 ⟨A, 0, none⟩ h = .ok (mvV f t u) h := fun r => r.loadN (by simp)
  have l13 : ∀ {h : Hp}, h.Row c13 0 [.int .i64 f, .int .i64 t, u'] → loadN 3 ⟨c13, 0, none⟩ h = .ok (mvV f t u') h := fun r => r.loadN (by simp)
  have a20 : loadN 3 ⟨c20, 0, none⟩ m = .ok (mvV f t w1) m := M0.r20.loadN (by simp)
  have a22 : loadN 3 ⟨c22, 0, none⟩ m = .ok (mvV f t w2) m := M0.r22.loadN (by simp)
  have Q0 := M0.ext x0.wf (Hp.Ext.refl x0.wf).quiet
  obtain ⟨g1, k1, y1⟩ := Oz (n := n + 9) x0.wf.quiet Q0.v1 Q0.v2 hZ1 (f := f) (t := t)
  have q1 : ∀ e : Env, AB 125 e = mvV f t w1 → AB 126 e = mvV f t w2 → An .free (AQ 22 [AB 125, AB 126]) (call AG (n + 11)) e m = .ok (.bool true) (m.back g1) := fun e h1 h2 => Ez m0 y1 (by rw [AV, AV, Ad, h1, h2]; exact k1)
  obtain ⟨z1, mk1, m1⟩ := DR m0 y1
  have x1 := x0.trans z1
  have M1 := M0.ext x0.wf z1
  rw [← mk1] at hA
  generalize m.back g1 = n1 at q1 z1 mk1 m1 x1 M1 hA
  have Q1 := M1.ext x1.wf (Hp.Ext.refl x1.wf).quiet
  have k2 := ew (n := n + 10) Q1.vb1 Q1.vb2
  have y2 := Hp.Ext.refl x1.wf.quiet
  have q2 : ∀ e : Env, AB 134 e = b1 → AB 135 e = b2 → An .free (AQ 26 [AB 134, AB 135]) (call AG (n + 11)) e n1 = .ok (.bool true) (n1.back n1.quiet) := fun e h1 h2 => Ez m1 y2 (by rw [AV, AV, Ad, h1, h2]; exact k2)
  obtain ⟨z2, mk2, m2⟩ := DR m1 y2
  have x2 := x1.trans z2
  have M2 := M1.ext x1.wf z2
  rw [← mk2] at hA
  generalize n1.back n1.quiet = n2 at q2 z2 mk2 m2 x2 M2 hA
  have a28 : loadN 3 ⟨c28, 0, none⟩ n2 = .ok (mvV f3 t3 w3) n2 := M2.r28.loadN (by simp)
  have a30 : loadN 3 ⟨c30, 0, none⟩ n2 = .ok (mvV f3 t3 w4) n2 := M2.r30.loadN (by simp)
  have Q2 := M2.ext x2.wf (Hp.Ext.refl x2.wf).quiet
  obtain ⟨g3, k3, y3⟩ := Oz (n := n + 9) x2.wf.quiet Q2.v3 Q2.v4 hZ3 (f := f3) (t := t3)
  have q3 : ∀ e : Env, AB 144 e = mvV f3 t3 w3 → AB 145 e = mvV f3 t3 w4 → An .free (AQ 22 [AB 144, AB 145]) (call AG (n + 11)) e n2 = .ok (.bool true) (n2.back g3) := fun e h1 h2 => Ez m2 y3 (by rw [AV, AV, Ad, h1, h2]; exact k3)
  obtain ⟨z3, mk3, m3⟩ := DR m2 y3
  have x3 := x2.trans z3
  have M3 := M2.ext x2.wf z3
  rw [← mk3] at hA
  generalize n2.back g3 = n3 at q3 z3 mk3 m3 x3 M3 hA
  have a13 := l13 M3.r13
  have Q3 := M3.ext x3.wf (Hp.Ext.refl x3.wf).quiet
  have k4 := EZ (n := n + 9) x3.wf.quiet Q3.vu' hzs (f := f) (t := t)
  have y4 := DP x3.wf.quiet (f := f) (t := t) (u := u')
  generalize n3.quiet.pushRow 0 [.int .i64 f, .int .i64 t, u'] = g4 at k4 y4
  have q4 : ∀ e : Env, AB 154 e = mvV f t u' → An .weak (AQ 9 [AB 154]) (call AG (n + 11)) e n3 = .ok (.bool (Bq f t zs)) (n3.back g4) := fun e h1 => Ez m3 y4 (by rw [AV, Ad, h1]; exact k4)
  obtain ⟨z4, mk4, m4⟩ := DR m3 y4
  have x4 := x3.trans z4
  have M4 := M3.ext x3.wf z4
  rw [← mk4] at hA
  have hA4 := hA
  generalize n3.back g4 = n4 at q4 z4 mk4 m4 x4 M4 hA hA4
  have aA4 := lA M4.rA
  have Q4 := M4.ext x4.wf (Hp.Ext.refl x4.wf).quiet
  obtain ⟨g5, k5, y5⟩ := FK (n := n + 9) x4.wf.quiet Q4.vu hzs (f := f) (t := t)
  have q5 : ∀ e : Env, AB 156 e = mvV f t u → An .free (AQ 27 [AB 156]) (call AG (n + 11)) e n4 = .ok (.bool (Bq f t zs)) (n4.back g5) := fun e h1 => Ez m4 y5 (by rw [AV, Ad, h1]; exact k5)
  obtain ⟨z5, mk5, m5⟩ := DR m4 y5
  have x5 := x4.trans z5
  have M5 := M4.ext x4.wf z5
  rw [← mk5] at hA
  generalize n4.back g5 = n5 at q5 z5 mk5 m5 x5 M5 hA
  have a13b := l13 M5.r13
  have Q5 := M5.ext x5.wf (Hp.Ext.refl x5.wf).quiet
  obtain ⟨g6, k6, y6⟩ := V8 (n := n + 8) x5.wf.quiet Q5.vu' hzs (f := f) (t := t)
  have q6 : ∀ e : Env, AB 161 e = mvV f t u' → An .weak (AQ 13 [AB 161]) (call AG (n + 11)) e n5 = .ok (.bool (Bq f t zs && decide (zs.length = 0))) (n5.back g6) := fun e h1 => Ez m5 y6 (by rw [AV, Ad, h1]; exact k6)
  obtain ⟨z6, mk6, m6⟩ := DR m5 y6
  have x6 := x5.trans z6
  have M6 := M5.ext x5.wf z6
  rw [← mk6] at hA
  have hA6 := hA
  generalize n5.back g6 = n6 at q6 z6 mk6 m6 x6 M6 hA hA6
  have aA6 := lA M6.rA
  have Q6 := M6.ext x6.wf (Hp.Ext.refl x6.wf).quiet
  obtain ⟨g7, k7, y7⟩ := FK (n := n + 9) x6.wf.quiet Q6.vu hzs (f := f) (t := t)
  have q7 : ∀ e : Env, AB 163 e = mvV f t u → An .free (AQ 27 [AB 163]) (call AG (n + 11)) e n6 = .ok (.bool (Bq f t zs)) (n6.back g7) := fun e h1 => Ez m6 y7 (by rw [AV, Ad, h1]; exact k7)
  obtain ⟨z7, mk7, m7⟩ := DR m6 y7
  have x7 := x6.trans z7
  have M7 := M6.ext x6.wf z7
  generalize n6.back g7 = n7 at q7 z7 mk7 m7 x7 M7
  have lA2 : Cu (.pointer (some ⟨A, 2, none⟩)) n7 = .ok u n7 := by rw [Am]; exact M7.rA.load1 (off := 2) (by simp)
  have ul := M7.vu.ilen
  have cl : iEq (zs.length : Int) 0 = decide (zs.length = 0) := by rw [B6, Bool.eq_iff_iff, beq_iff_eq, decide_eq_true_eq]; omega
  have a13c := l13 M7.r13
  have aA7 := lA M7.rA
  have Q7 := M7.ext x7.wf (Hp.Ext.refl x7.wf).quiet
  obtain ⟨g8, k8, y8⟩ := Oz (n := n + 9) x7.wf.quiet Q7.vu' Q7.vu hzs (f := f) (t := t)
  have q8 : ∀ e : Env, AB 174 e = mvV f t u' → AB 175 e = mvV f t u → An .free (AQ 22 [AB 174, AB 175]) (call AG (n + 11)) e n7 = .ok (.bool true) (n7.back g8) := fun e h1 h2 => Ez m7 y8 (by rw [AV, AV, Ad, h1, h2]; exact k8)
  obtain ⟨z8, mk8, m8⟩ := DR m7 y8
  have x8 := x7.trans z8
  generalize n7.back g8 = n8 at q8 z8 mk8 m8 x8
  have k9 := IX (bs := AG) (n := n + 10) (f := 14) LI (h := n8.quiet)
  have y9 := Hp.Ext.refl x8.wf.quiet
  have q9 : ∀ e : Env, An .free (AQ 14 []) (call AG (n + 11)) e n8 = .ok (.bool true) (n8.back n8.quiet) := fun e => Ez m8 y9 (by rw [Ad]; exact k9)
  obtain ⟨z9, _, _⟩ := DR m8 y9
  have x9 := x8.trans z9
  generalize n8.back n8.quiet = n9 at q9 x9 z9
  have ee : ∀ n : Int, iEq n n = true := Lm
  generalize Bq f t zs = rB at q4 q5 q6 q7
  generalize decide (zs.length = 0) = dB at q6 cl
  have hrun : ∃ e2, tD (call AG (n + 11)) e g = .ret e2 n9 ∧ AB 12 e2 = .bool true := by
    unfold tD
    rw [hgm]
    cases rB
    · simp only [sT, Nat.reduceLT, Nat.reduceEqDiff, if_true, if_false, reduceIte, gD, Ay, s20, s22, Aw, a20, a22, q1, s21, s23, AO, AN, ee, s24, s26, q2, s25, s27, s28, s30, a28, a30, q3, s29, s31, s13, a13, q4, s7, H7, EX hA4, Gf, aA4, q5, SM, LU, a13b, q6, EX hA6, aA6, q7, a13c, aA7, q8, q9, Bool.false_and]
      exact ⟨_, rfl, by simp [AE]⟩
    · simp only [sT, Nat.reduceLT, Nat.reduceEqDiff, if_true, if_false, reduceIte, gD, Ay, s20, s22, Aw, a20, a22, q1, s21, s23, AO, AN, ee, s24, s26, q2, s25, s27, s28, s30, a28, a30, q3, s29, s31, s13, a13, q4, s7, H7, EX hA4, Gf, aA4, q5, SM, LU, a13b, q6, EX hA6, aA6, q7, AW, Aj, Nat.zero_add, Ab, lA2, Al, ul, cl, a13c, aA7, q8, q9, Bool.true_and]
      exact ⟨_, rfl, by simp [AE]⟩
  obtain ⟨e2, r1, r2⟩ := hrun
  exact ⟨e2, n9, r1, r2, x9⟩
end
end Go.Proofs.Ytkafejncffinmaa
set_option linter.unusedVariables false
set_option linter.unusedSimpArgs false
namespace Go.Proofs.Ytkafejncffinmaa
noncomputable section
open Go
set_option maxRecDepth 100000
def tC : C := (cOp (AC 94) (Aa 3 (AB 13))
(cOp (AC 96) (AQ 12 [(AB 94), (AB 3)])
(cOp (AC 97) (AJ 0 (AB 96))
(cOp (AC 98) (AJ 1 (AB 96))
(cOp (AC 20) (At 3 BB)
(cDo (AY 3 (AB 20) (AB 97))
(cOp (AC 21) (AD (AB 98))
(cOp (AC 100) (Aa 3 (AB 7))
(cOp (AC 102) (AQ 23 [(AB 100), (AB 3)])
(cOp (AC 103) (AJ 0 (AB 102))
(cOp (AC 104) (AJ 1 (AB 102))
(cOp (AC 22) (At 3 BB)
(cDo (AY 3 (AB 22) (AB 103))
(cOp (AC 23) (AD (AB 104))
(cOp (AC 106) (Aa 3 (AB 13))
(cOp (AC 107) (AQ 15 [(AB 106)])
(cOp (AC 108) (AJ 0 (AB 107))
(cOp (AC 109) (AJ 1 (AB 107))
(cOp (AC 24) (AD (AB 108))
(cOp (AC 25) (AD (AB 109))
(cOp (AC 111) (Aa 3 (AB 7))
(cOp (AC 112) (AQ 24 [(AB 111)])
(cOp (AC 113) (AJ 0 (AB 112))
(cOp (AC 114) (AJ 1 (AB 112))
(cOp (AC 26) (AD (AB 113))
(cOp (AC 27) (AD (AB 114))
(cOp (AC 117) (AQ 16 [(AB 5)])
(cOp (AC 118) (AJ 0 (AB 117))
(cOp (AC 119) (AJ 1 (AB 117))
(cOp (AC 28) (At 3 BB)
(cDo (AY 3 (AB 28) (AB 118))
(cOp (AC 29) (AD (AB 119))
(cOp (AC 122) (AQ 25 [(AB 5)])
(cOp (AC 123) (AJ 0 (AB 122))
(cOp (AC 124) (AJ 1 (AB 122))
(cOp (AC 30) (At 3 BB)
(cDo (AY 3 (AB 30) (AB 123))
(cOp (AC 31) (AD (AB 124))
tD))))))))))))))))))))))))))))))))))))))
def tB : C := (cOp (AC 65) (AQ 8 [(AB 0), (AB 3), (AB 4), (AB 2)])
(cOp (AC 66) (AJ 0 (AB 65))
(cOp (AC 67) (AJ 1 (AB 65))
(cOp (AC 68) (AJ 2 (AB 65))
(cOp (AC 15) (At 3 BB)
(cOp (AC 14) (AD (AB 66))
(cDo (AY 3 (AB 15) (AB 67))
(cOp (AC 16) (AD (AB 68))
(cOp (AC 74) (AQ 20 [(AB 0), (AB 3), (AB 4), (AB 2)])
(cOp (AC 75) (AJ 0 (AB 74))
(cOp (AC 76) (AJ 1 (AB 74))
(cOp (AC 77) (AJ 2 (AB 74))
(cOp (AC 18) (At 3 BB)
(cOp (AC 17) (AD (AB 75))
(cDo (AY 3 (AB 18) (AB 76))
(cOp (AC 19) (AD (AB 77))
(cOp (AC 80) (AQ 21 [(AB 14), (AB 17)])
(cOp (AC 81) (B7 (AB 80))
(cG (AB 81) false (AC 83) (Aa 3 (AB 15))
(cG (AB 81) false (AC 84) (Aa 3 (AB 18))
(cG (AB 81) false (AC 85) (AQ 22 [(AB 83), (AB 84)])
(cG (AB 81) false (AC 86) (B7 (AB 85))
(cOp (AC 87) (AS (AB 81) (kV (.bool true)) (AB 86))
(cG (AB 87) false (AC 89) (AD (AB 16))
(cG (AB 87) false (AC 90) (AD (AB 19))
(cG (AB 87) false (AC 91) (AL iNe .i64 (AB 89) (AB 90))
(cOp (AC 92) (AS (AB 87) (kV (.bool true)) (AB 91))
(AP (AB 92)
(cOp (AC 12) (AD (kV (.bool false)))
Ae)
tC))))))))))))))))))))))))))))
def tA : C := (Bx (cOp (AC 52) (AF 0 (AB 7))
(EG (AB 52) (DZ (AB 52) []
(cOp (AC 53) (AH (AB 52))
(cOp (AC 54) (AF 1 (AB 7))
(EG (AB 54) (DZ (AB 54) []
(cOp (AC 55) (AH (AB 54))
(cOp (AC 56) (AF 2 (AB 7))
(cOp (AC 57) (AH (AB 56))
(cOp (AC 58) (An .weak (AQ 19 [(AB 57)]))
(cOp (AC 59) (A6 B3.zero [(0, 1, (AB 53)), (1, 1, (AB 55)), (2, 1, (AB 58))])
(cOp (AC 13) (An .strong (At 3 BB))
(cDo (An .free (AY 3 (AB 13) (AB 59)))
tB)))))))))))))))
def d5h : C := (cOp (AC 7) (Bu (AB 1))
(cOp (AC 12) (AD (kV (.bool false)))
(cOp (AC 33) (AQ 18 [(AB 0), (kV (.int .i64 20)), (kV (.int .i64 30))])
(cOp (AC 34) (B7 (AB 33))
(cG (AB 34) false (AC 36) (AF 2 (AB 7))
(cG (AB 34) false (AC 37) (AH (AB 36))
(cG (AB 34) false (AC 38) (Af (AB 37))
(cG (AB 34) false (AC 39) (AL iGt .i64 (AB 38) (kV (.int .i64 100)))
(cOp (AC 40) (AS (AB 34) (kV (.bool true)) (AB 39))
(cG (AB 40) false (AC 42) (AD (AB 2))
(cG (AB 40) false (AC 43) (Af (AB 42))
(cG (AB 40) false (AC 44) (AL iGt .i64 (AB 43) (kV (.int .i64 100)))
(cOp (AC 45) (AS (AB 40) (kV (.bool true)) (AB 44))
(cG (AB 45) false (AC 47) (AD (AB 5))
(cG (AB 45) false (AC 48) (Af (AB 47))
(cG (AB 45) false (AC 49) (AL iGt .i64 (AB 48) (kV (.int .i64 500)))
(cOp (AC 50) (AS (AB 45) (kV (.bool true)) (AB 49))
(AP (AB 50)
(cOp (AC 51) (AQ 14 [])
(cOp (AC 12) (AD (AB 51))
Ae))
tA))))))))))))))))))
theorem XF : d5 = d5h := rfl
theorem Jh {g : Hp} (W : g.Wf) {a b c : Value} (h1 : CR [a, b, c] = true) : ∃ g', (∀ (F : CallF) (e : Env), At 3 BB F e g = .ok (.pointer (some ⟨g.next, 0, none⟩)) (g.push (.cells BB 3 0))) ∧
    storeR 3 (.pointer (some ⟨g.next, 0, none⟩)) (.agg ⟨[a, b, c]⟩) (g.push (.cells BB 3 0)) = .ok noRes g' ∧ g.Ext g' ∧ g'.Row g.next 0 [a, b, c] := by
  have y2 := (Hp.Ext.refl W).push (.cells BB 3 0)
  have R2 : (g.push (.cells BB 3 0)).Row g.next 0 [.int .i64 0, .int .i64 0, .slice none 0 0] := Hp.Row.alloc W C9 rfl
  have f2 := fun (F : CallF) (e : Env) => Bz (F := F) (e := e) (n := 3) (t := BB) W
  generalize g.push (.cells BB 3 0) = g2 at y2 R2 f2
  have st := R2.storeR (n := 3) (off := 0) y2.wf W.big (v := .agg ⟨[a, b, c]⟩) rfl (by simp [Ax]) h1
  exact ⟨_, f2, st, R2.wr_ext y2 (Nat.le_refl _) (by simp [Ax]), R2.wr_self y2.wf (by simp [Ax])⟩
theorem Nt {h : Hp} {f t : Int} {w : Value} {Z : List Int} (V : h.Vals w (ints .i64 Z)) : CR [.int .i64 f, .int .i64 t, w] = true := by
  obtain ⟨_, h2⟩ := V.cells1
  show (bif Bl w then true else false) = true
  rw [h2]; rfl
def kp5 (e e2 : Env) : Prop := AB 0 e2 = AB 0 e ∧ AB 2 e2 = AB 2 e ∧ AB 3 e2 = AB 3 e ∧ AB 4 e2 = AB 4 e ∧ AB 5 e2 = AB 5 e ∧ AB 7 e2 = AB 7 e
theorem fl {n : Nat} {g : Hp} (W : g.Wf) {A : Nat} {f t : Int} {u : Value} {zs : List Int} (RA : g.Row A 0 [.int .i64 f, .int .i64 t, u]) (V : g.Vals u (ints .i64 zs)) (hzs : zs.length < 900000) {e : Env} (s7 : AB 7 e = .pointer (some ⟨A, 0, none⟩)) :
    ∃ e2 g' c13 u', tA (call AG (n + 11)) e g = tB (call AG (n + 11)) e2 g' ∧ g.Ext g' ∧ g'.Row c13 0 [.int .i64 f, .int .i64 t, u'] ∧ g'.Vals u' (ints .i64 zs) ∧ kp5 e e2 ∧ AB 13 e2 = .pointer (some ⟨c13, 0, none⟩) := by
  have hA : A < g.marked.mark := RA.lt W
  have hgm : ∀ (K : C) (F : CallF) (e : Env), Bx K F e g = K F e g.marked := fun _ _ _ => rfl
  have x0 := (Hp.Ext.refl W).marked
  have m0 : g.marked.mark ≤ g.marked.next := Nat.le_refl _
  have R0 := RA.ext W x0
  have V0 := V.ext W x0
  generalize g.marked = m at hA x0 m0 R0 V0 hgm
  have l0 : load1 ⟨A, 0, none⟩ m = .ok (.int .i64 f) m := R0.load1 (off := 0) (by simp)
  have l1 : load1 ⟨A, 1, none⟩ m = .ok (.int .i64 t) m := R0.load1 (off := 1) (by simp)
  have l2 : load1 ⟨A, 2, none⟩ m = .ok u m := R0.load1 (off := 2) (by simp)
  have xq := (Hp.Ext.refl x0.wf).quiet
  obtain ⟨g1, u', k1, y1, o1⟩ := Tt (n := n + 10) xq.wf (V0.ext x0.wf xq) hzs
  have q1 : ∀ e : Env, AB 57 e = u → An .weak (AQ 19 [AB 57]) (call AG (n + 11)) e m = .ok u' (m.back g1) := fun e h1 => Ez m0 y1 (by rw [AV, Ad, h1]; exact k1)
  obtain ⟨z1, mk1, m1⟩ := DR m0 y1
  have x1 := x0.trans z1
  have U1 : (m.back g1).Vals u' (ints .i64 zs) := o1.vals.same rfl
  generalize m.back g1 = n1 at q1 z1 mk1 m1 x1 U1
  have W1 := x1.wf
  have y2 := (Hp.Ext.refl W1.quiet).push (.cells BB 3 0)
  have R2 : (n1.quiet.push (.cells BB 3 0)).Row n1.next 0 [.int .i64 0, .int .i64 0, .slice none 0 0] := Hp.Row.alloc W1.quiet C9 rfl
  have al : ∀ e : Env, An .strong (At 3 BB) (call AG (n + 11)) e n1 = .ok (.pointer (some ⟨n1.next, 0, none⟩)) (n1.back (n1.quiet.push (.cells BB 3 0))) := fun e => JI (Bz (F := call AG (n + 11)) (e := e) (n := 3) (t := BB) W1.quiet) y2 m1
  obtain ⟨z2, mk2, m2⟩ := DR m1 y2
  have x2 := x1.trans z2
  have R2 : (n1.back (n1.quiet.push (.cells BB 3 0))).Row n1.next 0 [.int .i64 0, .int .i64 0, .slice none 0 0] := R2.same rfl
  have U2 := U1.ext W1 z2
  generalize n1.back (n1.quiet.push (.cells BB 3 0)) = n2 at al z2 x2 R2 U2 m2
  have big := W1.big
  have Rq : n2.quiet.Row n1.next 0 [.int .i64 0, .int .i64 0, .slice none 0 0] := R2.same rfl
  have xq2 := (x1.trans z2)
  have zq := (Hp.Ext.refl x2.wf).quiet
  have h13 := Nt (f := f) (t := t) U2
  have st := Rq.storeR (n := 3) (off := 0) zq.wf (by omega) (v := mvV f t u') rfl (by simp [mvV, Ax]) h13
  have xw : n1.Ext (n2.quiet.wr n1.next 0 (cellsOf (mvV f t u'))) := Rq.wr_ext z2.quiet (Nat.le_refl _) (off := 0) (vs := cellsOf (mvV f t u')) (by simp [mvV, Ax])
  have Rw := Rq.wr_self zq.wf (off := 0) (vs := cellsOf (mvV f t u')) (by simp [mvV, Ax])
  have q3 : ∀ e : Env, AB 13 e = .pointer (some ⟨n1.next, 0, none⟩) → AB 59 e = mvV f t u' → An .free (AY 3 (AB 13) (AB 59)) (call AG (n + 11)) e n2 = .ok noRes (n2.back (n2.quiet.wr n1.next 0 (cellsOf (mvV f t u')))) := fun e h1 h2 => DL (by rw [Au, h1, h2]; exact st)
  have x3 : n1.Ext (n2.back (n2.quiet.wr n1.next 0 (cellsOf (mvV f t u')))) := z2.back2 xw
  have R3 : (n2.back (n2.quiet.wr n1.next 0 (cellsOf (mvV f t u')))).Row n1.next 0 [.int .i64 f, .int .i64 t, u'] := Rw.same rfl
  have U3 := U1.ext W1 x3
  generalize n2.back (n2.quiet.wr n1.next 0 (cellsOf (mvV f t u'))) = n3 at q3 x3 R3 U3
  have kn : known u' = true ∧ cellsOf u' = [u'] := by
    obtain ⟨a, c, rfl⟩ := U1.shape
    exact ⟨rfl, rfl⟩
  have bw : ∀ e : Env, AB 53 e = .int .i64 f → AB 55 e = .int .i64 t → AB 58 e = u' → A6 B3.zero [(0, 1, AB 53), (1, 1, AB 55), (2, 1, AB 58)] (call AG (n + 11)) e n1 = .ok (mvV f t u') n1 := fun e h1 h2 h3 => by
    rw [CI, Bg, CV (hk := by rw [h1]; rfl), h1, De, if_pos (by rfl), if_pos (by simp), G6, CV (hk := by rw [h2]; rfl), h2, De, if_pos (by rfl), if_pos (by simp), G7, CV (hk := by rw [h3]; exact kn.1), h3, kn.2, if_pos (by rfl), if_pos (by simp), V9, BU]; rfl
  have hrun : ∃ e2, tA (call AG (n + 11)) e g = tB (call AG (n + 11)) e2 n3 ∧ kp5 e e2 ∧ AB 13 e2 = .pointer (some ⟨n1.next, 0, none⟩) := by
    unfold tA kp5
    rw [hgm]
    simp only [BX, D9, BZ, EB, A5, Br, AE, Nat.reduceLT, Nat.reduceEqDiff, if_true, if_false, reduceIte, AW, s7, Aj, Nat.zero_add, H7, EX hA, Gf, Ab, Am, l0, l1, l2, q1, bw, al, q3]
    exact ⟨_, rfl, ⟨by simp [AE], by simp [AE], by simp [AE], by simp [AE], by simp [AE], by simp only [AE, Nat.reduceLT, Nat.reduceEqDiff, if_true, if_false, reduceIte, s7]⟩, by simp [AE]⟩
  obtain ⟨e2, r1, r2, r3⟩ := hrun
  exact ⟨e2, n3, n1.next, u', r1, x1.trans x3, R3, U3, r2, r3⟩
theorem fm {n : Nat} {g : Hp} (W : g.Wf) {v u2 : Value} {ws : List Pw} {all : List Int} (d : g.PlI v ws) (D : g.NdV ws) (hl : ws.length ≤ 1000) (hz : ∀ x ∈ ws, x.2.2.length ≤ 1000) (fr to_ : Int) (V2 : g.Vals u2 (ints .i64 all)) (hal : all.length ≤ 9000)
    {e : Env} (s0 : AB 0 e = v) (s2 : AB 2 e = u2) (s3 : AB 3 e = .int .i64 fr) (s4 : AB 4 e = .int .i64 to_) :
    ∃ e2 g', tB (call AG (n + 11)) e g = tC (call AG (n + 11)) e2 g' ∧ g.Ext g' ∧ kp5 e e2 ∧ AB 13 e2 = AB 13 e := by
  obtain ⟨P, F, T, Z, E, hZ, hP1, hP2, c8, c20⟩ := PE (v := v) (u := u2) hl hz fr to_ hal
  obtain ⟨g1, x1, vo, w, outs, k1, O1, N1, M1, V1⟩ := c8 (n + 2) g W d D V2
  have k1 : call AG (n + 11) 8 [v, .int .i64 fr, .int .i64 to_, u2] g = .ok (.tuple ⟨[vo, mvV F T w, .int .i64 E]⟩) g1 := k1
  obtain ⟨g2, a1, b1, x2, R1⟩ := Jh x1.wf (Nt (f := F) (t := T) V1)
  have X2 := x1.trans x2
  obtain ⟨g3, x3, vo2, w2, outs2, k2, O2, N2, M2, V3⟩ := c20 (n + 7) g2 X2.wf (d.ext W X2) (D.ext W X2) (V2.ext W X2)
  have k2 : call AG (n + 11) 20 [v, .int .i64 fr, .int .i64 to_, u2] g2 = .ok (.tuple ⟨[vo2, mvV F T w2, .int .i64 E]⟩) g3 := k2
  obtain ⟨g4, a2, b2, x4, R2⟩ := Jh (x3.wf) (Nt (f := F) (t := T) V3)
  have Y := x3.trans x4
  have X4 := X2.trans Y
  have hq : outs.map shP = outs2.map shP := M1.trans M2.symm
  have hol : outs.length ≤ 1000 := by rw [← M1, List.length_map] at hP1; exact hP1
  have hoz : ∀ x ∈ outs, x.2.2.length < 900000 := fun x hx => hP2 (shP x) (by rw [← M1]; exact List.mem_map_of_mem hx)
  obtain ⟨g5, k3, x5⟩ := ey (n := n + 9) X4.wf ((O1.ext x1.wf x2).ext X2.wf Y) (fun y hy => ((N1 y hy).ext x1.wf x2).ext X2.wf Y) (O2.ext x3.wf x4) (fun y hy => (N2 y hy).ext x3.wf x4) hq hol hoz
  have k3 : call AG (n + 11) 21 [vo, vo2] g4 = .ok (.bool true) g5 := k3
  have l1 : loadN 3 ⟨g1.next, 0, none⟩ g5 = .ok (mvV F T w) g5 := ((R1.ext X2.wf Y).ext X4.wf x5).loadN (by simp)
  have l2 : loadN 3 ⟨g3.next, 0, none⟩ g5 = .ok (mvV F T w2) g5 := (R2.ext X4.wf x5).loadN (by simp)
  have X5 := X4.trans x5
  obtain ⟨g6, k4, x6⟩ := Oz (n := n + 9) X5.wf (((V1.ext x1.wf x2).ext X2.wf Y).ext X4.wf x5) ((V3.ext x3.wf x4).ext X4.wf x5) hZ (f := F) (t := T)
  have k4 : call AG (n + 11) 22 [mvV F T w, mvV F T w2] g5 = .ok (.bool true) g6 := k4
  have c1 : iNe E E = false := by rw [DB]; simp
  unfold mvV at k1 k2 l1 l2 k4
  have hrun : ∃ e2, tB (call AG (n + 11)) e g = tC (call AG (n + 11)) e2 g6 ∧ kp5 e e2 ∧ AB 13 e2 = AB 13 e := by
    unfold tB kp5
    simp only [BX, D9, Bj, BZ, EB, Ba, A5, Br, AE, Nat.reduceLT, Nat.reduceEqDiff, if_true, if_false, reduceIte, gD, Ah, AV, Ad, s0, s2, s3, s4, k1, BK, BP, BQ, Bd, a1, Au, b1, k2, a2, b2, k3, Bf, Be, Bool.not_true, Ay, Aw, l1, l2, k4, AO, AN, c1]
    exact ⟨_, rfl, ⟨by simp only [AE, Nat.reduceLT, Nat.reduceEqDiff, if_true, if_false, reduceIte, s0], by simp only [AE, Nat.reduceLT, Nat.reduceEqDiff, if_true, if_false, reduceIte, s2], by simp only [AE, Nat.reduceLT, Nat.reduceEqDiff, if_true, if_false, reduceIte, s3], by simp only [AE, Nat.reduceLT, Nat.reduceEqDiff, if_true, if_false, reduceIte, s4], by simp [AE], by simp [AE]⟩, by simp [AE]⟩
  obtain ⟨e2, r1, r2, r3⟩ := hrun
  exact ⟨e2, g6, r1, X5.trans x6, r2, r3⟩
end
end Go.Proofs.Ytkafejncffinmaa
set_option linter.unusedVariables false
set_option linter.unusedSimpArgs false
namespace Go.Proofs.Ytkafejncffinmaa
noncomputable section
open Go
set_option maxRecDepth 100000
theorem fp {n : Nat} {g : Hp} (W : g.Wf) {A c13 : Nat} {f t fr : Int} {u u' ub : Value} {zs : List Int} {l : List Nat} (RA : g.Row A 0 [.int .i64 f, .int .i64 t, u]) (R13 : g.Row c13 0 [.int .i64 f, .int .i64 t, u']) (V : g.Vals u (ints .i64 zs)) (V' : g.Vals u' (ints .i64 zs)) (Vb : g.Vals ub (l.map bv)) (hzs : zs.length < 900000) (hb : ∀ x ∈ l, x < 256) (hl : l.length ≤ 1000000)
    {e : Env} (s3 : AB 3 e = .int .i64 fr) (s5 : AB 5 e = ub) (s7 : AB 7 e = .pointer (some ⟨A, 0, none⟩)) (s13 : AB 13 e = .pointer (some ⟨c13, 0, none⟩)) :
    ∃ e2 g', tC (call AG (n + 11)) e g = .ret e2 g' ∧ AB 12 e2 = .bool true ∧ g.Ext g' := by
  obtain ⟨Z1, E1, hZ1, c12, c23⟩ := NX f t fr hzs
  obtain ⟨L, E2, c15, c24⟩ := PJ f t hzs
  obtain ⟨F3, T3, Z3, E3, hZ3, c16, c25⟩ := Ss hb hl
  have l1 : loadN 3 ⟨c13, 0, none⟩ g = .ok (mvV f t u') g := R13.loadN (by simp)
  obtain ⟨g1, x1, w1, k1, v1⟩ := c12 (n + 8) g u' W V'
  have k1 : call AG (n + 11) 12 [mvV f t u', .int .i64 fr] g = .ok (.tuple ⟨[mvV f t w1, .int .i64 E1]⟩) g1 := k1
  obtain ⟨g2, a2, b2, x2, R20⟩ := Jh x1.wf (Nt (f := f) (t := t) v1)
  have b2 : storeR 3 (.pointer (some ⟨g1.next, 0, none⟩)) (mvV f t w1) (g1.push (.cells BB 3 0)) = .ok noRes g2 := b2
  have X2 := x1.trans x2
  have l2 : loadN 3 ⟨A, 0, none⟩ g2 = .ok (mvV f t u) g2 := (RA.ext W X2).loadN (by simp)
  obtain ⟨g3, x3, w2, k2, v2⟩ := c23 (n + 8) g2 u X2.wf (V.ext W X2)
  have k2 : call AG (n + 11) 23 [mvV f t u, .int .i64 fr] g2 = .ok (.tuple ⟨[mvV f t w2, .int .i64 E1]⟩) g3 := k2
  obtain ⟨g4, a4, b4, x4, R22⟩ := Jh x3.wf (Nt (f := f) (t := t) v2)
  have b4 : storeR 3 (.pointer (some ⟨g3.next, 0, none⟩)) (mvV f t w2) (g3.push (.cells BB 3 0)) = .ok noRes g4 := b4
  have Y4 := x3.trans x4
  have X4 := X2.trans Y4
  have l4 : loadN 3 ⟨c13, 0, none⟩ g4 = .ok (mvV f t u') g4 := (R13.ext W X4).loadN (by simp)
  obtain ⟨g5, x5, bo1, k5, vb1⟩ := c15 (n + 8) g4 u' X4.wf (V'.ext W X4)
  have k5 : call AG (n + 11) 15 [mvV f t u'] g4 = .ok (.tuple ⟨[bo1, .int .i64 E2]⟩) g5 := k5
  have X5 := X4.trans x5
  have l5 : loadN 3 ⟨A, 0, none⟩ g5 = .ok (mvV f t u) g5 := (RA.ext W X5).loadN (by simp)
  obtain ⟨g6, x6, bo2, k6, vb2⟩ := c24 (n + 8) g5 u X5.wf (V.ext W X5)
  have k6 : call AG (n + 11) 24 [mvV f t u] g5 = .ok (.tuple ⟨[bo2, .int .i64 E2]⟩) g6 := k6
  have X6 := X5.trans x6
  obtain ⟨g7, x7, w3, k7, v3⟩ := c16 (n + 7) g6 ub X6.wf (Vb.ext W X6)
  have k7 : call AG (n + 11) 16 [ub] g6 = .ok (.tuple ⟨[mvV F3 T3 w3, .int .i64 E3]⟩) g7 := k7
  have X7 := X6.trans x7
  obtain ⟨g8, a8, b8, x8, R28⟩ := Jh X7.wf (Nt (f := F3) (t := T3) v3)
  have b8 : storeR 3 (.pointer (some ⟨g7.next, 0, none⟩)) (mvV F3 T3 w3) (g7.push (.cells BB 3 0)) = .ok noRes g8 := b8
  have X8 := X7.trans x8
  obtain ⟨g9, x9, w4, k9, v4⟩ := c25 (n + 7) g8 ub X8.wf (Vb.ext W X8)
  have k9 : call AG (n + 11) 25 [ub] g8 = .ok (.tuple ⟨[mvV F3 T3 w4, .int .i64 E3]⟩) g9 := k9
  have X9 := X8.trans x9
  obtain ⟨g10, a10, b10, x10, R30⟩ := Jh X9.wf (Nt (f := F3) (t := T3) v4)
  have b10 : storeR 3 (.pointer (some ⟨g9.next, 0, none⟩)) (mvV F3 T3 w4) (g9.push (.cells BB 3 0)) = .ok noRes g10 := b10
  have X10 := X9.trans x10
  have y910 := x10
  have y810 := x9.trans x10
  have y710 := x8.trans y810
  have y610 := x7.trans y710
  have y510 := x6.trans y610
  have y410 := x5.trans y510
  have y310 := x4.trans y410
  have y210 := x3.trans y310
  have y110 := x2.trans y210
  have hrun : ∃ e2, tC (call AG (n + 11)) e g = tD (call AG (n + 11)) e2 g10 ∧ AB 7 e2 = .pointer (some ⟨A, 0, none⟩) ∧ AB 13 e2 = .pointer (some ⟨c13, 0, none⟩) ∧ AB 20 e2 = .pointer (some ⟨g1.next, 0, none⟩) ∧ AB 22 e2 = .pointer (some ⟨g3.next, 0, none⟩) ∧ AB 28 e2 = .pointer (some ⟨g7.next, 0, none⟩) ∧ AB 30 e2 = .pointer (some ⟨g9.next, 0, none⟩) ∧
      AB 21 e2 = .int .i64 E1 ∧ AB 23 e2 = .int .i64 E1 ∧ AB 24 e2 = bo1 ∧ AB 26 e2 = bo2 ∧ AB 25 e2 = .int .i64 E2 ∧ AB 27 e2 = .int .i64 E2 ∧ AB 29 e2 = .int .i64 E3 ∧ AB 31 e2 = .int .i64 E3 := by
    unfold tC
    simp only [BX, D9, BZ, EB, A5, Br, AE, Nat.reduceLT, Nat.reduceEqDiff, if_true, if_false, reduceIte, Ah, AV, Ad, Ay, s13, Aw, l1, s3, k1, BK, BP, BQ, a2, Au, b2, s7, l2, k2, a4, b4, l4, k5, l5, k6, s5, k7, a8, b8, k9, a10, b10]
    exact ⟨_, rfl, by simp only [AE, Nat.reduceLT, Nat.reduceEqDiff, if_true, if_false, reduceIte, s7], by simp only [AE, Nat.reduceLT, Nat.reduceEqDiff, if_true, if_false, reduceIte, s13], by simp [AE], by simp [AE], by simp [AE], by simp [AE], by simp [AE], by simp [AE], by simp [AE], by simp [AE], by simp [AE], by simp [AE], by simp [AE], by simp [AE]⟩
  obtain ⟨e2, r, t7, t13, t20, t22, t28, t30, t21, t23, t24, t26, t25, t27, t29, t31⟩ := hrun
  obtain ⟨e3, g', d1, d2, d3⟩ := fq (n := n) X10.wf (E1 := E1) (E2 := E2) (E3 := E3) ⟨RA.ext W X10, R13.ext W X10, R20.ext X2.wf y210, R22.ext X4.wf y410, R28.ext X8.wf y810, R30, V.ext W X10, V'.ext W X10, v1.ext x1.wf y110, v2.ext x3.wf y310, vb1.ext x5.wf y510, vb2.ext x6.wf y610, v3.ext x7.wf y710, v4.ext x9.wf y910⟩ hzs hZ1 hZ3 t7 t13 t20 t22 t28 t30 t21 t23 t24 t26 t25 t27 t29 t31
  exact ⟨e3, g', by rw [r, d1], d2, X10.trans d3⟩
theorem KG {n : Nat} {h : Hp} (W : h.Wf) {v u2 ub u : Value} {f t fr to_ : Int} {zs all : List Int} {l : List Nat} (V : h.Vals u (ints .i64 zs)) (V2 : h.Vals u2 (ints .i64 all)) (Vb : h.Vals ub (l.map bv)) {r : Bool} (k : ∀ g, h.Ext g → call AG (n + 11) 18 [v, .int .i64 20, .int .i64 30] g = .ok (.bool r) g) (hbig : r = false ∨ 100 < zs.length ∨ 100 < all.length ∨ 500 < l.length) :
    ∃ h', call AG (n + 12) 5 [v, mvV f t u, u2, .int .i64 fr, .int .i64 to_, ub] h = .ok (.bool true) h' ∧ h.Ext h' := by
  have R := Hp.Row.new W 0 [.int .i64 f, .int .i64 t, u]
  have x1 := (Hp.Ext.refl W).pushRow 0 [.int .i64 f, .int .i64 t, u]
  have hbx : ∀ e : Env, AB 1 e = mvV f t u → Bu (AB 1) (call AG (n + 11)) e h = .ok (.pointer (some ⟨h.next, 0, none⟩)) (h.pushRow 0 [.int .i64 f, .int .i64 t, u]) := fun e he => GU W he
  have V1 := V.ext W x1
  have V21 := V2.ext W x1
  have Vb1 := Vb.ext W x1
  have k1 := k _ x1
  generalize h.pushRow 0 [.int .i64 f, .int .i64 t, u] = h1 at R x1 hbx V1 V21 Vb1 k1
  have l2 : load1 ⟨h.next, 2, none⟩ h1 = .ok u h1 := R.load1 (off := 2) (by simp)
  have bl : Ca ub h1 = .ok (.int .i64 (l.length : Int)) h1 := by have := Vb1.len; rwa [List.length_map] at this
  have aw := IX (bs := AG) (n := n + 10) (f := 14) LI (h := h1)
  have aw : call AG (n + 11) 14 [] h1 = .ok (.bool true) h1 := aw
  refine ⟨h1, ?_, x1⟩
  rw [XB rfl, XF]
  unfold d5h
  cases r with
  | false => simp only [AK, AM, Nat.succ_eq_add_one, Nat.zero_add, Nat.reduceAdd, sT, Nat.reduceLT, Nat.reduceEqDiff, if_true, if_false, reduceIte, gD, hbx, Ah, AV, Ad, k1, Bf, Be, Bool.not_false, aw, AZ, Ap]
  | true =>
    have hbig : 100 < zs.length ∨ 100 < all.length ∨ 500 < l.length := hbig.resolve_left (by intro h; cases h)
    by_cases z1 : 100 < zs.length
    · have c1 : iGt (zs.length : Int) 100 = true := by rw [BS]; simp; omega
      simp only [AK, AM, Nat.succ_eq_add_one, Nat.zero_add, Nat.reduceAdd, sT, Nat.reduceLT, Nat.reduceEqDiff, if_true, if_false, reduceIte, gD, hbx, Ah, AV, Ad, k1, Bf, Be, Bool.not_true, AW, Aj, Ab, Am, l2, Al, V1.ilen, AO, AN, c1, aw, AZ, Ap]
    · have c1 : iGt (zs.length : Int) 100 = false := by rw [BS]; simp; omega
      by_cases z2 : 100 < all.length
      · have c2 : iGt (all.length : Int) 100 = true := by rw [BS]; simp; omega
        simp only [AK, AM, Nat.succ_eq_add_one, Nat.zero_add, Nat.reduceAdd, sT, Nat.reduceLT, Nat.reduceEqDiff, if_true, if_false, reduceIte, gD, hbx, Ah, AV, Ad, k1, Bf, Be, Bool.not_true, AW, Aj, Ab, Am, l2, Al, V1.ilen, V21.ilen, AO, AN, c1, c2, aw, AZ, Ap]
      · have c2 : iGt (all.length : Int) 100 = false := by rw [BS]; simp; omega
        have c3 : iGt (l.length : Int) 500 = true := by rw [BS]; simp; omega
        simp only [AK, AM, Nat.succ_eq_add_one, Nat.zero_add, Nat.reduceAdd, sT, Nat.reduceLT, Nat.reduceEqDiff, if_true, if_false, reduceIte, gD, hbx, Ah, AV, Ad, k1, Bf, Be, Bool.not_true, AW, Aj, Ab, Am, l2, Al, V1.ilen, V21.ilen, bl, AO, AN, c1, c2, c3, aw, AZ, Ap]
theorem TR {n : Nat} {h : Hp} (W : h.Wf) {v u2 ub u : Value} {f t fr to_ : Int} {ws : List Pw} {zs all : List Int} {l : List Nat} (d : h.PlI v ws) (D : h.NdV ws) (hl : ws.length ≤ 20) (V : h.Vals u (ints .i64 zs)) (V2 : h.Vals u2 (ints .i64 all)) (Vb : h.Vals ub (l.map bv)) (hb : ∀ x ∈ l, x < 256) :
    ∃ h', call AG (n + 12) 5 [v, mvV f t u, u2, .int .i64 fr, .int .i64 to_, ub] h = .ok (.bool true) h' ∧ h.Ext h' := by
  have few : ∀ g, h.Ext g → ∃ r, call AG (n + 11) 18 [v, .int .i64 20, .int .i64 30] g = .ok (.bool r) g ∧ (r = true ↔ ∀ x ∈ ws, x.2.2.length ≤ 30) := fun g xg => ZC (n := n + 10) (d.ext W xg) (D.ext W xg) hl
  by_cases hs : (∀ x ∈ ws, x.2.2.length ≤ 30) ∧ zs.length ≤ 100 ∧ all.length ≤ 100 ∧ l.length ≤ 500
  · obtain ⟨h1, h2, h3, h4⟩ := hs
    have R := Hp.Row.new W 0 [.int .i64 f, .int .i64 t, u]
    have x1 := (Hp.Ext.refl W).pushRow 0 [.int .i64 f, .int .i64 t, u]
    have hbx : ∀ e : Env, AB 1 e = mvV f t u → Bu (AB 1) (call AG (n + 11)) e h = .ok (.pointer (some ⟨h.next, 0, none⟩)) (h.pushRow 0 [.int .i64 f, .int .i64 t, u]) := fun e he => GU W he
    obtain ⟨r, k1, k2⟩ := few _ x1
    have hr : r = true := k2.2 h1
    subst hr
    have V1 := V.ext W x1
    have V21 := V2.ext W x1
    have Vb1 := Vb.ext W x1
    have d1 := d.ext W x1
    have D1 := D.ext W x1
    generalize h.pushRow 0 [.int .i64 f, .int .i64 t, u] = g at R x1 hbx V1 V21 Vb1 k1 d1 D1
    have l2 : load1 ⟨h.next, 2, none⟩ g = .ok u g := R.load1 (off := 2) (by simp)
    have bl : Ca ub g = .ok (.int .i64 (l.length : Int)) g := by have := Vb1.len; rwa [List.length_map] at this
    have c1 : iGt (zs.length : Int) 100 = false := by rw [BS]; simp; omega
    have c2 : iGt (all.length : Int) 100 = false := by rw [BS]; simp; omega
    have c3 : iGt (l.length : Int) 500 = false := by rw [BS]; simp; omega
    have pre : ∃ e1, d5h (call AG (n + 11)) (Ak e0 0 [v, mvV f t u, u2, .int .i64 fr, .int .i64 to_, ub]) h = tA (call AG (n + 11)) e1 g ∧ AB 0 e1 = v ∧ AB 2 e1 = u2 ∧ AB 3 e1 = .int .i64 fr ∧ AB 4 e1 = .int .i64 to_ ∧ AB 5 e1 = ub ∧ AB 7 e1 = .pointer (some ⟨h.next, 0, none⟩) := by
      unfold d5h
      simp only [AK, AM, Nat.succ_eq_add_one, Nat.zero_add, Nat.reduceAdd, BX, Bj, BZ, Ba, A5, Br, AE, Nat.reduceLT, Nat.reduceEqDiff, if_true, if_false, reduceIte, gD, hbx, Ah, AV, Ad, k1, Bf, Be, Bool.not_true, AW, Aj, Ab, Am, l2, Al, V1.ilen, V21.ilen, bl, AO, AN, c1, c2, c3]
      exact ⟨_, rfl, by simp [AE], by simp [AE], by simp [AE], by simp [AE], by simp [AE], by simp [AE]⟩
    obtain ⟨e1, p, s0, s2, s3, s4, s5, s7⟩ := pre
    obtain ⟨e2, g2, c13, u', q1, xA, R13, U', ⟨t0, t2, t3, t4, t5, t7⟩, t13⟩ := fl (n := n) x1.wf R V1 (by omega) s7
    have X2 := x1.trans xA
    obtain ⟨e3, g3, q2, xB, ⟨v0, v2, v3, v4, v5, v7⟩, v13⟩ := fm (n := n) X2.wf (d1.ext x1.wf xA) (D1.ext x1.wf xA) (by omega) (fun x hx => by have := h1 x hx; omega) fr to_ (V21.ext x1.wf xA) (by omega) (t0.trans s0) (t2.trans s2) (t3.trans s3) (t4.trans s4)
    have X3 := X2.trans xB
    have xAB := xA.trans xB
    obtain ⟨e4, g4, q3, q4, xC⟩ := fp (n := n) X3.wf (R.ext x1.wf xAB) (R13.ext X2.wf xB) (V1.ext x1.wf xAB) (U'.ext X2.wf xB) (Vb1.ext x1.wf xAB) (by omega) hb (by omega) (v3.trans (t3.trans s3)) (v5.trans (t5.trans s5)) (v7.trans (t7.trans s7)) (v13.trans t13)
    refine ⟨g4, ?_, X3.trans xC⟩
    rw [XB rfl, XF, p, q1, q2, q3]
    simp only [AZ, Ap, q4]
  · obtain ⟨r0, k0, k0'⟩ := few h (.refl W)
    refine KG W V V2 Vb (r := r0) (fun g xg => ?_) ?_
    · obtain ⟨r, k1, k2⟩ := few g xg
      have : r = r0 := by rw [Bool.eq_iff_iff, k2, k0']
      rw [this] at k1; exact k1
    · cases r0 with
      | false => exact .inl rfl
      | true =>
        have hf := k0'.1 rfl
        right
        by_cases z1 : 100 < zs.length
        · exact .inl z1
        · by_cases z2 : 100 < all.length
          · exact .inr (.inl z2)
          · by_cases z3 : 500 < l.length
            · exact .inr (.inr z3)
            · exact (hs ⟨hf, by omega, by omega, by omega⟩).elim
theorem Nz {n : Nat} {h : Hp} (W : h.Wf) {v u2 ub u : Value} {f t fr to_ : Int} {N : Nat} {zs all : List Int} {l : List Nat} (ln : ∀ g, Ca v g = .ok (.int .i64 (N : Int)) g) (hN : 20 < N) (V : h.Vals u (ints .i64 zs)) (V2 : h.Vals u2 (ints .i64 all)) (Vb : h.Vals ub (l.map bv)) :
    ∃ h', call AG (n + 12) 5 [v, mvV f t u, u2, .int .i64 fr, .int .i64 to_, ub] h = .ok (.bool true) h' ∧ h.Ext h' :=
  KG W V V2 Vb (r := false) (fun g _ => ZD (n := n + 10) (ln g) hN) (.inl rfl)
end
end Go.Proofs.Ytkafejncffinmaa
set_option linter.unusedVariables false
set_option linter.unusedSimpArgs false
namespace Go.Proofs.Ytkafejncffinmaa
noncomputable section
open Go Go.RowKit Go.WideShapes Go.ChangeShapes
theorem QF {P : Program} {t e : TypeId} {W : World} {base : Nat} {a : Addr} {n c : Nat} (ht : P.underlying t = some (.slice e)) (hs : a.spot = none) (hval : Cell.okWide P W .any base t (.slice (some a) n c)) : ∃ cs tt fr, W.heap[a.block]? = some (.cells cs tt fr) := by
  obtain ⟨ab, ao, spot⟩ := a
  simp only at hs
  subst hs
  unfold Cell.okWide at hval
  rw [ht] at hval
  have hval : Cell.ok P W .any base t (.slice (some ⟨ab, ao, none⟩) n c) := hval
  unfold Cell.ok at hval
  rw [ht] at hval
  obtain ⟨_, _, _, _, row, cells, hsh, _⟩ := hval
  unfold World.shape? at hsh
  split at hsh
  · rename_i cs tt fr hb; exact ⟨cs, tt, fr, hb⟩
  all_goals cases hsh
theorem QW {W : World} {a : Addr} {v : Value} (h : W.cell? a = some v) : a.spot = none ∧ ∃ cs tt fr, W.heap[a.block]? = some (.cells cs tt fr) ∧ cs[a.off]? = some v := by
  unfold World.cell? at h
  split at h
  · rename_i cs tt fr hb
    split at h
    · cases h
    · rename_i hs
      refine ⟨?_, cs, tt, fr, hb, h⟩
      cases hsp : a.spot with
      | none => rfl
      | some s => rw [hsp] at hs; exact (hs rfl).elim
  · cases h
theorem Mb {W : World} {a : Addr} {L : List Value} {cs : Array Value} {tt : TypeId} {fr : Nat × Nat} (hb : W.heap[a.block]? = some (.cells cs tt fr)) (hc : ∀ j, j < L.length → cs[a.off + j]? = some (L.getD j noRes)) (hf : ∀ j, j < L.length → W.frozen? ⟨a.block, a.off + j, none⟩ = false) : Hn W a L := by
  refine ⟨cs, tt, fr, hb, hc, fun i hi hh => ?_⟩
  have h6 := hf i hi
  obtain ⟨lo, hi'⟩ := fr
  simp only [World.frozen?, hb] at h6
  simp only at hh
  simp only [Bool.and_eq_false_iff, decide_eq_false_iff_not] at h6
  omega
def IM (W : World) (v : Value) (zs : List Int) : Prop := (∃ a, v = .slice (some a) 0 0 ∧ zs = []) ∨ KM .i64 W v zs
theorem aN {H : Type} {enc : TypeId × Value → H} {P : Program} {t e : TypeId} (ht : P.underlying t = some (.slice e)) (he : P.underlying e = some (.int .i64)) (hc : P.cellsOf e = 1) {W : World} {fuel : Nat} {v : Value} {x : DataW H × List MemPlace}
    (hf : DataW.trod enc P W 0 (fun _ => true) true fuel t [v] = some x) (hfz : ∀ b off, MemPlace.cell b off ∈ x.2 → W.frozen? ⟨b, off, none⟩ = false) : ∃ zs : List Int, IM W v zs := by
  rcases open_ints ht he hc hf with ⟨hcs, _⟩ | ⟨a, n, c, zs, hcs, _, hl, hm, hz, hx, hcell, hwz⟩
  · have : v = .slice none 0 0 := by simpa using hcs
    exact ⟨[], .inr (.inl ⟨this, rfl⟩)⟩
  · have : v = .slice (some a) n c := by simpa using hcs
    subst this
    simp only [if_true] at hz
    subst hx
    rcases Nat.eq_zero_or_pos c with h0 | h0
    · subst h0
      have : n = 0 := by omega
      subst this
      exact ⟨[], .inl ⟨a, rfl, rfl⟩⟩
    · have h1 : W.cell? a = some (.int .i64 (zs.getD 0 0)) := hcell 0 (by omega)
      obtain ⟨hs, cs, tt, fr, hb, _⟩ := QW h1
      obtain ⟨ab, ao, spot⟩ := a
      simp only at hs
      subst hs
      have hlen : (ints .i64 zs).length = c := by unfold ints; rw [List.length_map]; exact hz
      refine ⟨zs.take n, .inr (.inr ⟨⟨ab, ao, none⟩, n, c, zs, rfl, hl, rfl, hz, rfl, Mb hb (fun i hi => ?_) fun i hi => ?_⟩)⟩
      · rw [hlen] at hi
        have h4 := hcell i (by omega)
        rw [Addr.add_is, FP hb] at h4
        have h5 : i < zs.length := by omega
        show cs[ao + i]? = _
        rw [h4]
        unfold ints
        rw [List.getD_eq_getElem?_getD, List.getD_eq_getElem?_getD, List.getElem?_map, List.getElem?_eq_getElem h5]; rfl
      · rw [hlen] at hi
        exact hfz ab (ao + i) (by simp only [MemPlace.row, List.mem_map, List.mem_range]; exact ⟨i, by omega, rfl⟩)
theorem Od {α : Type} {Q : Nat → α → Prop} : ∀ n, (∀ i, i < n → ∃ x, Q i x) → ∃ xs : List α, xs.length = n ∧ ∀ i x, xs[i]? = some x → Q i x
  | 0, _ => ⟨[], rfl, fun i x h => by cases h⟩
  | n + 1, h => by
    obtain ⟨xs, hl, hx⟩ := Od n fun i hi => h i (by omega)
    obtain ⟨y, hy⟩ := h n (by omega)
    refine ⟨xs ++ [y], by rw [List.length_append, hl]; rfl, fun i x hi => ?_⟩
    rcases Nat.lt_or_ge i xs.length with h1 | h1
    · rw [List.getElem?_append_left h1] at hi; exact hx i x hi
    · rw [List.getElem?_append_right h1] at hi
      have h2 : i - xs.length < [y].length := (List.getElem?_eq_some_iff.1 hi).1
      have h2 : i - xs.length < 1 := h2
      have h3 : i - xs.length = 0 := by omega
      rw [h3] at hi
      cases hi
      rw [show i = n by omega]; exact hy
theorem Jl : ∀ (ws : List Pw) (i : Nat) (x : Pw), ws[i]? = some x → (CC ws)[i * 2]? = some (.int .i64 x.1) ∧ (CC ws)[i * 2 + 1]? = some x.2.1
  | [], i, x, h => by cases h
  | y :: l, 0, x, h => by cases h; exact ⟨rfl, rfl⟩
  | y :: l, i + 1, x, h => by
    have := Jl l i x h
    rw [show (i + 1) * 2 = i * 2 + 1 + 1 by omega]
    exact this
def LE (W : World) (v : Value) (xs : List Pw) : Prop := (v = .slice none 0 0 ∧ xs = []) ∨ ∃ (a : Addr) (c : Nat) (L : List Value), v = .slice (some a) xs.length c ∧ xs.length ≤ c ∧ a.spot = none ∧ (CC xs ++ L).length = 2 * c ∧ Hn W a (CC xs ++ L) ∧ ∀ x ∈ xs, IM W x.2.1 x.2.2
theorem aW {H : Type} {enc : TypeId × Value → H} {P : Program} {t e ti tn te : TypeId} {fs : Array Field} {f0 f1 : Field} (ht : P.underlying t = some (.slice e)) (he : P.underlying e = some (.struct fs)) (hs0 : fs[0]? = some f0) (hs1 : fs[1]? = some f1) (o0 : f0.offset = 0) (o1 : f1.offset = 1) (t0 : f0.type = ti) (t1 : f1.type = tn)
    (hi : P.underlying ti = some (.int .i64)) (hn : P.underlying tn = some (.slice te)) (hte : P.underlying te = some (.int .i64)) (ce : P.cellsOf e = 2) (ci : P.cellsOf ti = 1) (cn : P.cellsOf tn = 1) (cte : P.cellsOf te = 1) {W : World} {base fuel : Nat} {v : Value} {x : DataW H × List MemPlace}
    (hval : Cell.okWide P W .any base t v) (hf : DataW.trod enc P W 0 (fun _ => true) true fuel t [v] = some x) (hfz : ∀ b off, MemPlace.cell b off ∈ x.2 → W.frozen? ⟨b, off, none⟩ = false) : ∃ xs : List Pw, LE W v xs := by
  rcases Gc ht hval with rfl | ⟨a, n, c, rfl, h1, h2, h3⟩
  · exact ⟨[], .inl ⟨rfl, rfl⟩⟩
  obtain ⟨cs, tt, fr, hb⟩ := QF ht h2 hval
  rcases DataW.trod_slice ht hf with ⟨hcs, _⟩ | ⟨a', n', c', elems, rest, m, _, hcs, hx, _, hl, hm, hlen, hel, hsp, _⟩
  · simp at hcs
  simp at hcs
  obtain ⟨rfl, rfl, rfl⟩ := hcs
  obtain ⟨hrl, hr⟩ := hsp rfl
  subst hx
  obtain ⟨ab, ao, spot⟩ := a
  simp only at h2
  subst h2
  have hb : W.heap[ab]? = some (.cells cs tt fr) := hb
  have one : ∀ (i : Nat) (y : DataW H × List MemPlace), (∀ b off, MemPlace.cell b off ∈ y.2 → W.frozen? ⟨b, off, none⟩ = false) → (W.cells? 0 ((⟨ab, ao, none⟩ : Addr).add (i * P.cellsOf e)) (P.cellsOf e)).bind (DataW.trod enc P W 0 (fun _ => true) true m e) = some y →
      ∃ z : Pw, cs[ao + i * 2]? = some (.int .i64 z.1) ∧ cs[ao + (i * 2 + 1)]? = some z.2.1 ∧ IM W z.2.1 z.2.2 := fun i y hfy hy => by
    rw [ce, Option.bind_eq_some_iff] at hy
    obtain ⟨l, h4, h5⟩ := hy
    obtain ⟨_, h6, h7⟩ := World.cells?_some h4
    match l, h6, h7, h5 with
    | [c0, c1], _, h7, h5 =>
      obtain ⟨ys, k, _, rfl, _, hys, hfs⟩ := DataW.trod_struct he h5
      have s1 := (Array.getElem?_eq_some_iff.1 hs1).1
      have g0 := hfs 0 f0 hs0
      have g1 := hfs 1 f1 hs1
      rw [o0, t0, ci, List.getElem?_eq_getElem (by omega)] at g0
      rw [o1, t1, cn, List.getElem?_eq_getElem (by omega)] at g1
      have g0 : DataW.trod enc P W 0 (fun _ => true) true k ti [c0] = some (ys[0]'(by omega)) := g0
      have g1 : DataW.trod enc P W 0 (fun _ => true) true k tn [c1] = some (ys[1]'(by omega)) := g1
      obtain ⟨ep, hep, _⟩ := DataW.trod_int hi g0
      have hep : c0 = .int .i64 ep := by simpa using hep
      subst hep
      obtain ⟨zs, hz⟩ := aN hn hte cte g1 (fun b off hmem => hfy b off (List.mem_flatMap.2 ⟨_, List.getElem_mem (by omega), hmem⟩))
      have q0 := h7 0 (by omega)
      have q1 := h7 1 (by omega)
      rw [Addr.add_is, Addr.add_is, FP hb] at q0 q1
      refine ⟨(ep, c1, zs), q0, ?_, hz⟩
      rw [← Nat.add_assoc]; exact q1
  have memE : ∀ (i : Nat) (hi : i < (elems ++ rest).length) (b off : Nat), MemPlace.cell b off ∈ ((elems ++ rest)[i]'hi).2 → W.frozen? ⟨b, off, none⟩ = false := fun i hi b off hmem =>
    hfz b off (List.mem_append_right _ (List.mem_flatMap.2 ⟨_, List.getElem_mem hi, hmem⟩))
  have htot : (elems ++ rest).length = c := by rw [List.length_append]; omega
  have each : ∀ i, i < c → ∃ z : Pw, cs[ao + i * 2]? = some (.int .i64 z.1) ∧ cs[ao + (i * 2 + 1)]? = some z.2.1 ∧ IM W z.2.1 z.2.2 := fun i hi => by
    have hi' : i < (elems ++ rest).length := by omega
    refine one i ((elems ++ rest)[i]'hi') (memE i hi') ?_
    rcases Nat.lt_or_ge i n with h4 | h4
    · have := hel i h4
      rw [this, ← List.getElem?_eq_getElem hi', List.getElem?_append_left (by omega)]
    · have := hr (i - n) (by omega)
      rw [show n + (i - n) = i by omega] at this
      rw [this, ← List.getElem?_eq_getElem hi', List.getElem?_append_right (by omega), hlen]
  obtain ⟨all, hal, hall⟩ := Od c each
  have hcell : ∀ j, j < 2 * c → cs[ao + j]? = some ((CC all).getD j noRes) := fun j hj => by
    have hi : j / 2 < all.length := by omega
    have hx := List.getElem?_eq_getElem hi
    obtain ⟨p0, p1, _⟩ := hall _ _ hx
    obtain ⟨r0, r1⟩ := Jl all _ _ hx
    rw [List.getD_eq_getElem?_getD]
    rcases Nat.mod_two_eq_zero_or_one j with h | h
    · have e : j = j / 2 * 2 := by omega
      rw [e, p0, r0]; rfl
    · have e : j = j / 2 * 2 + 1 := by omega
      rw [e, p1, r1]; rfl
  have hfl := Dj all
  have hsplit : CC all = CC (all.take n) ++ CC (all.drop n) := by rw [← FD, List.take_append_drop]
  have htl : (all.take n).length = n := by rw [List.length_take]; omega
  refine ⟨all.take n, .inr ⟨⟨ab, ao, none⟩, c, CC (all.drop n), by rw [htl], by omega, rfl, by rw [← hsplit]; omega, ?_, fun z hz => ?_⟩⟩
  · rw [← hsplit]
    refine Mb hb (fun j hj => hcell j (by omega)) fun j hj => hfz ab (ao + j) (List.mem_append_left _ ?_)
    simp only [MemPlace.row, List.mem_map, List.mem_range]
    exact ⟨j, by rw [ce, hlen, hrl]; omega, rfl⟩
  · obtain ⟨i, hi, rfl⟩ := List.mem_iff_getElem.1 (List.mem_of_mem_take hz)
    exact (hall i _ (List.getElem?_eq_getElem hi)).2.2
def N6 (W : World) (φ : Phi) (L : List Value) (q : Option Pl) : Prop := q = none ∨ ∃ a L', q = some (JF a L.length) ∧ Hn W a L' ∧ RelL φ L L'
theorem PA.irel {W : World} {φ : Phi} {L : List Value} {q : Option Pl} (h : PA W L q) (r : RelL φ L L) : N6 W φ L q := by
  rcases h with h | ⟨a, ha, hr⟩
  · exact .inl h
  · exact .inr ⟨a, L, ha, hr, r⟩
theorem Mc {W : World} {ty : TTy} {ps : List (Option Pl)} {Ls : List (List Value)} (h256 : Ls.length ≤ 256) (hlen : ps.length = Ls.length)
    (h : ∀ (i : Nat) (q : Option Pl) (L : List Value), ps[i]? = some q → Ls[i]? = some L → N6 W (FF ps) L q) : RelW ty (FF ps) nil (inH Ls) W :=
  Z8 h256 fun i p e => by
    have e : (ps[i]?).getD none = some p := e
    cases hq : ps[i]? with
    | none => rw [hq] at e; cases e
    | some q =>
      rw [hq] at e
      have e : q = some p := e
      subst e
      have hi := (List.getElem?_eq_some_iff.1 hq).1
      have hL := List.getElem?_eq_getElem (l := Ls) (i := i) (by omega)
      rcases h i _ _ hq hL with h | ⟨a, L', ha, hr, hrl⟩
      · cases h
      · obtain rfl := Option.some.inj ha
        exact ⟨a, _, rfl, hL, hr.lt, Sk hr hrl⟩
theorem KE {φ : Phi} {a : Addr} {n c i : Nat} (hs : a.spot = none) (hn : n ≤ c) (hp : φ i = some (JF a (2 * c))) : RelV φ (.slice (some ⟨i, 0, none⟩) n c) (.slice (some a) n c) := by
  refine .slice hn ⟨rfl, hs, _, hp, rfl, ?_⟩
  rcases Nat.eq_zero_or_pos c with h | h
  · exact .inr ⟨h, .inl h⟩
  · refine .inl ⟨h, ?_, .inl rfl⟩
    show a.off = (if 2 * c = 0 then 0 else a.off) + 0
    rw [if_neg (by omega), Nat.add_zero]
theorem IM.rel {W : World} {v : Value} {zs : List Int} (b : IM W v zs) (i : Nat) : ∃ (u : Value) (q : Option Pl) (Z : List Int), PA W (ints .i64 Z) q ∧ (∀ φ : Phi, φ i = q → RelV φ u v) ∧ (∀ h : Hp, h.Row i 0 (ints .i64 Z) → h.Nod u zs) := by
  rcases b with ⟨a, rfl, rfl⟩ | ⟨rfl, rfl⟩ | ⟨a, n, c, Z, rfl, hn, hs, hZ, rfl, hr⟩
  · exact ⟨.chan (some 0), none, [], .inl rfl, fun _ _ => .slcE, fun _ _ => .inr (.inr ⟨rfl, rfl⟩)⟩
  · exact ⟨.slice none 0 0, none, [], .inl rfl, fun _ _ => .slice0, fun _ _ => .inl ⟨rfl, rfl⟩⟩
  · have hlen : (ints .i64 Z).length = c := by unfold ints; rw [List.length_map]; exact hZ
    have hlen2 : (Z.take n).length = n := by rw [List.length_take]; omega
    refine ⟨.slice (some ⟨i, 0, none⟩) n c, some (JF a (ints .i64 Z).length), Z, .inr ⟨a, rfl, hr⟩, fun φ hφ => Mg hs hn (by rw [hφ, hlen]), fun h hrow => .inr (.inl ⟨i, c, 0, ints .i64 Z, by rw [hlen2], by rw [hlen2]; exact hn, hrow, by rw [hlen2, hlen]; exact hn, ?_⟩)⟩
    rw [hlen2]; unfold ints; rw [List.map_take]
theorem L2 {W : World} : ∀ (xs : List Pw), (∀ x ∈ xs, IM W x.2.1 x.2.2) → ∀ k : Nat, ∃ (us : List Pw) (qs : List (Option Pl)) (Zs : List (List Value)), us.length = xs.length ∧ qs.length = xs.length ∧ Zs.length = xs.length ∧
    (∀ (i : Nat) (q : Option Pl) (L : List Value), qs[i]? = some q → Zs[i]? = some L → PA W L q ∧ ∀ φ, RelL φ L L) ∧ (∀ φ : Phi, (∀ (i : Nat) (q : Option Pl), qs[i]? = some q → φ (i + k) = q) → RelL φ (CC us) (CC xs)) ∧ (∀ h : Hp, (∀ (i : Nat) (L : List Value), Zs[i]? = some L → h.Row (i + k) 0 L) → h.NdV us)
  | [], _, k => ⟨[], [], [], rfl, rfl, rfl, (fun i q L h => by cases h), (fun φ _ => .nil), fun h _ x hx => by cases hx⟩
  | x :: xs, hx, k => by
    obtain ⟨us, qs, Zs, l1, l2, l3, h1, h2, h3⟩ := L2 xs (fun y hy => hx y (List.mem_cons_of_mem _ hy)) (k + 1)
    obtain ⟨u, q, Z, i1, i2, i3⟩ := (hx x List.mem_cons_self).rel k
    refine ⟨(x.1, u, x.2.2) :: us, q :: qs, ints .i64 Z :: Zs, by rw [List.length_cons, List.length_cons, l1], by rw [List.length_cons, List.length_cons, l2], by rw [List.length_cons, List.length_cons, l3], fun i q' L e1 e2 => ?_, fun φ hφ => ?_, fun h hr y hy => ?_⟩
    · cases i with
      | zero => cases e1; cases e2; exact ⟨i1, fun φ => Dz φ _ _⟩
      | succ i => exact h1 i q' L e1 e2
    · refine .cons (.int _ _) (.cons (i2 φ (by have := hφ 0 q rfl; rwa [Nat.zero_add] at this)) (h2 φ fun i q' e => ?_))
      have := hφ (i + 1) q' e
      rwa [show i + 1 + k = i + (k + 1) by omega] at this
    · rcases List.mem_cons.1 hy with rfl | hy
      · exact i3 h (by have := hr 0 _ rfl; rwa [Nat.zero_add] at this)
      · refine h3 h (fun i L e => ?_) y hy
        have := hr (i + 1) L e
        rwa [show i + 1 + k = i + (k + 1) by omega] at this
theorem LB (φ : Phi) : ∀ L : List Value, RelL φ (List.replicate L.length (Value.chan none)) L
  | [] => .nil
  | _ :: L => .cons .unk (LB φ L)
theorem LE.rel {W : World} {v : Value} {xs : List Pw} (b : LE W v xs) (i k : Nat) : ∃ (u : Value) (us : List Pw) (q : Option Pl) (L0 : List Value) (qs : List (Option Pl)) (Zs : List (List Value)), us.length = xs.length ∧ qs.length = xs.length ∧ Zs.length = xs.length ∧
    (∀ φ : Phi, φ i = q → (∀ (j : Nat) (q' : Option Pl), qs[j]? = some q' → φ (j + k) = q') → N6 W φ L0 q ∧ RelV φ u v) ∧ (∀ (j : Nat) (q' : Option Pl) (L : List Value), qs[j]? = some q' → Zs[j]? = some L → PA W L q' ∧ ∀ φ, RelL φ L L) ∧
    (∀ h : Hp, h.Row i 0 L0 → (∀ (j : Nat) (L : List Value), Zs[j]? = some L → h.Row (j + k) 0 L) → h.PlI u us ∧ h.NdV us) := by
  rcases b with ⟨rfl, rfl⟩ | ⟨a, c, L, rfl, hn, hs, hl, hr, hx⟩
  · exact ⟨.slice none 0 0, [], none, [], [], [], rfl, rfl, rfl, fun φ _ _ => ⟨.inl rfl, .slice0⟩, (fun j q' L h => by cases h), fun h _ _ => ⟨.inl ⟨rfl, rfl⟩, fun x hx => by cases hx⟩⟩
  · obtain ⟨us, qs, Zs, l1, l2, l3, h1, h2, h3⟩ := L2 xs hx k
    have e1 := Dj us
    have e2 := Dj xs
    rw [List.length_append] at hl
    have el : (CC us ++ List.replicate L.length (Value.chan none)).length = 2 * c := by rw [List.length_append, List.length_replicate]; omega
    refine ⟨.slice (some ⟨i, 0, none⟩) us.length c, us, some (JF a (2 * c)), CC us ++ List.replicate L.length (Value.chan none), qs, Zs, l1, l2, l3, fun φ hφ hq => ⟨.inr ⟨a, _, by rw [el], hr, (h2 φ hq).append (LB φ L)⟩, ?_⟩, h1, fun h hrow hrows => ⟨.inr ⟨i, c, 0, _, rfl, hrow⟩, h3 h hrows⟩⟩
    rw [l1]; exact KE hs hn hφ
theorem LE.many {W : World} {v : Value} {xs : List Pw} (b : LE W v xs) (i : Nat) : ∃ (u : Value) (q : Option Pl) (L0 : List Value), (∀ φ : Phi, φ i = q → N6 W φ L0 q ∧ RelV φ u v) ∧ ∀ g, Ca u g = .ok (.int .i64 (xs.length : Int)) g := by
  rcases b with ⟨rfl, rfl⟩ | ⟨a, c, L, rfl, hn, hs, hl, hr, hx⟩
  · exact ⟨.slice none 0 0, none, [], fun φ _ => ⟨.inl rfl, .slice0⟩, fun g => rfl⟩
  · exact ⟨.slice (some ⟨i, 0, none⟩) xs.length c, some (JF a (2 * c)), List.replicate (CC xs ++ L).length (Value.chan none), fun φ hφ => ⟨.inr ⟨a, _, by rw [List.length_replicate, hl], hr, LB φ _⟩, KE hs hn hφ⟩, fun g => rfl⟩
end
end Go.Proofs.Ytkafejncffinmaa
namespace Go.Proofs.Ytkafejncffinmaa.moveTells
noncomputable section
open Go Go.ChangeShapes Go.WideShapes Go.ChangeAt Go.RowKit
set_option linter.unusedVariables false
theorem own : ownKnob Try.prog.godebug = none := by kernel_rfl
theorem F8 : laidOutB Try.prog = true := by kernel_rfl
theorem KW : Try.prog.cellsOf 3 = 1 := by kernel_rfl
theorem Yq : Try.prog.cellsOf 5 = 1 := by kernel_rfl
theorem To : Try.prog.cellsOf 29 = 1 := by kernel_rfl
theorem Tp : Try.prog.cellsOf 37 = 2 := by kernel_rfl
theorem Qc {l : List Int} (h : ∀ z ∈ l, (Lit.int .u8 z).wf = true) : ∃ m : List Nat, ints .u8 l = m.map bv ∧ ∀ x ∈ m, x < 256 := by
  refine ⟨l.map Int.toNat, ?_, fun x hx => ?_⟩
  · unfold ints
    rw [List.map_map]
    refine List.map_congr_left fun z hz => ?_
    have := bounds_u8 (h z hz)
    show Value.int .u8 z = .int .u8 ((z.toNat : Nat) : Int)
    rw [Int.toNat_of_nonneg this.1]
  · obtain ⟨z, hz, rfl⟩ := List.mem_map.1 hx
    have := bounds_u8 (h z hz)
    omega
theorem Lo {P : Program} {W : World} {base t : Nat} {k : IntKind} {v : Value} (ht : P.underlying t = some (.int k)) (h : Value.okWide P W .any base t v) : ∃ n, v = .int k n := by
  unfold Value.okWide at h
  rw [ht] at h
  exact Iu ht h
theorem slc {H : Type} {enc : TypeId × Value → H} {P : Program} {W : World} {base t e : Nat} {v : Value} {x : DataW H} {p : List MemPlace} (ht : P.underlying t = some (.slice e)) (h : Value.okWide P W .any base t v) (tx : DataW.Trod enc P W 0 (fun _ => true) true t v x p) :
    Cell.okWide P W .any base t v ∧ ∃ fuel, DataW.trod enc P W 0 (fun _ => true) true fuel t [v] = some (x, p) := by
  have h' : Cell.okWide P W .any base t v := by
    unfold Value.okWide at h
    rw [ht] at h
    exact h
  obtain ⟨fuel, hf⟩ := tx
  refine ⟨h', fuel, ?_⟩
  rcases Gc ht h' with rfl | ⟨a, n, c, rfl, _⟩ <;> exact hf
set_option maxRecDepth 100000 in
theorem mm {H : Type} {enc : TypeId × Value → H} (v x y z1 z2 o : Value) (w : World) {base : Nat} {d0 d1 d2 d5 : DataW H} {p0 p1 p2 p5 : List MemPlace} (hv : Value.okWide Try.prog w .any base 25 v) (hx : Value.okWide Try.prog w .any base 31 x) (hy : Value.okWide Try.prog w .any base 29 y) (hz1 : Value.okWide Try.prog w .any base 3 z1) (hz2 : Value.okWide Try.prog w .any base 3 z2) (ho : Value.okWide Try.prog w .any base 24 o)
    (tv : DataW.Trod enc Try.prog w 0 (fun _ => true) true 25 v d0 p0) (tx : DataW.Trod enc Try.prog w 0 (fun _ => true) true 31 x d1 p1) (ty : DataW.Trod enc Try.prog w 0 (fun _ => true) true 29 y d2 p2) (to_ : DataW.Trod enc Try.prog w 0 (fun _ => true) true 24 o d5 p5)
    (fv : ∀ b off, MemPlace.cell b off ∈ p0 → w.frozen? ⟨b, off, none⟩ = false) (fx : ∀ b off, MemPlace.cell b off ∈ p1 → w.frozen? ⟨b, off, none⟩ = false) (fy : ∀ b off, MemPlace.cell b off ∈ p2 → w.frozen? ⟨b, off, none⟩ = false) (fo : ∀ b off, MemPlace.cell b off ∈ p5 → w.frozen? ⟨b, off, none⟩ = false) :
    Calls Try.prog 5 #[v, x, y, z1, z2, o] w fun e w' => e = .returned (.bool true) ∧ Below w.heap.size w w' := by
  obtain ⟨l, rfl, hl, hc⟩ := Tc Try.underlying31 (ts := [3, 3, 29]) (by kernel_rfl) (by kernel_rfl) hx
  match l, hl, hc with
  | [x0, x1, x2], _, hc =>
    obtain ⟨a, rfl⟩ := Iu Try.underlying3 (hc 0 3 x0 rfl rfl)
    obtain ⟨b, rfl⟩ := Iu Try.underlying3 (hc 1 3 x1 rfl rfl)
    have h2 := hc 2 29 x2 rfl rfl
    obtain ⟨fuel, hf⟩ := tx
    obtain ⟨xs, n, _, hxs, _, hn, hfs⟩ := DataW.trod_struct Try.underlying31 hf
    have hp : p1 = xs.flatMap (·.2) := congrArg Prod.snd hxs
    have h3 := hfs 2 _ rfl
    have h3 : DataW.trod enc Try.prog w 0 (fun _ => true) true n 29 [x2] = xs[2]? := h3
    have hn : xs.length = 3 := hn
    cases hx2 : xs[2]? with
    | none => rw [List.getElem?_eq_none_iff] at hx2; omega
    | some r =>
      rw [hx2] at h3
      obtain ⟨zs, hzs, I⟩ := Kl Try.underlying29 Try.underlying3 KW h2 h3 (fun b off hm => fx b off (by rw [hp]; exact List.mem_flatMap.2 ⟨r, List.mem_of_getElem? hx2, hm⟩))
      obtain ⟨hy', f2, hf2⟩ := slc Try.underlying29 hy ty
      obtain ⟨ho', f5, hf5⟩ := slc Try.underlying24 ho to_
      obtain ⟨hv', f0, hf0⟩ := slc Try.underlying25 hv tv
      obtain ⟨fr, rfl⟩ := Lo Try.underlying3 hz1
      obtain ⟨to, rfl⟩ := Lo Try.underlying3 hz2
      obtain ⟨all, _, J⟩ := Kl Try.underlying29 Try.underlying3 KW hy' hf2 fy
      obtain ⟨bs, hbs, K⟩ := Kl Try.underlying24 Try.underlying5 Yq ho' hf5 fo
      obtain ⟨m, hm, hb⟩ := Qc hbs
      obtain ⟨ws, PI⟩ := aW Try.underlying25 Try.underlying37 rfl rfl rfl rfl rfl rfl Try.underlying3 Try.underlying29 Try.underlying3 Tp KW To KW hv' hf0 fv
      obtain ⟨u, q0, Z0, i1, i2, i3⟩ := I.rel 0
      obtain ⟨u2, q1, Z1, j1, j2, j3⟩ := J.rel 1
      obtain ⟨ub, q2, Z2, k1, k2, k3⟩ := K.rel 2
      rcases Nat.lt_or_ge 20 ws.length with hN | hN
      · obtain ⟨vv, q3, L0, m1, m2⟩ := PI.many 3
        have W0 : (inH [ints .i64 Z0, ints .i64 Z1, ints .u8 Z2, L0]).Wf := NS (by show 4 ≤ 256; omega)
        have V := i3 _ (En (Ls := [ints .i64 Z0, ints .i64 Z1, ints .u8 Z2, L0]) (by show 4 ≤ 256; omega) (i := 0) rfl)
        have V2 := j3 _ (En (Ls := [ints .i64 Z0, ints .i64 Z1, ints .u8 Z2, L0]) (by show 4 ≤ 256; omega) (i := 1) rfl)
        have Vb := k3 _ (En (Ls := [ints .i64 Z0, ints .i64 Z1, ints .u8 Z2, L0]) (by show 4 ≤ 256; omega) (i := 2) rfl)
        rw [hm] at Vb
        obtain ⟨h', hr, hx'⟩ := Nz (n := 52) W0 (f := a) (t := b) (fr := fr) (to_ := to) m2 hN V V2 Vb
        obtain ⟨r1, r2⟩ := m1 (FF [q0, q1, q2, q3]) rfl
        refine Ow LN hr hx' rfl (.cons r2 (.cons (.agg (.cons (.int _ _) (.cons (.int _ _) (.cons (i2 (FF [q0, q1, q2, q3]) rfl) .nil)))) (.cons (j2 (FF [q0, q1, q2, q3]) rfl) (.cons (.int _ _) (.cons (.int _ _) (.cons (k2 (FF [q0, q1, q2, q3]) rfl) .nil)))))) (Mc (ps := [q0, q1, q2, q3]) (by show 4 ≤ 256; omega) rfl fun i q L e1 e2 => ?_)
        match i, e1, e2 with
        | 0, e1, e2 => cases e1; cases e2; exact i1.irel (Dz _ _ _)
        | 1, e1, e2 => cases e1; cases e2; exact j1.irel (Dz _ _ _)
        | 2, e1, e2 => cases e1; cases e2; exact k1.irel (Dz _ _ _)
        | 3, e1, e2 => cases e1; cases e2; exact r1
        | _ + 4, e1, _ => cases e1
      · obtain ⟨vv, us, q3, L0, qs, Zs, l1, l2, l3, m1, m2, m3⟩ := PI.rel 3 4
        have h256 : (ints .i64 Z0 :: ints .i64 Z1 :: ints .u8 Z2 :: L0 :: Zs).length ≤ 256 := by simp only [List.length_cons]; omega
        have W0 : (inH (ints .i64 Z0 :: ints .i64 Z1 :: ints .u8 Z2 :: L0 :: Zs)).Wf := NS h256
        have V := i3 _ (En h256 (i := 0) rfl)
        have V2 := j3 _ (En h256 (i := 1) rfl)
        have Vb := k3 _ (En h256 (i := 2) rfl)
        obtain ⟨d, D⟩ := m3 _ (En h256 (i := 3) rfl) (fun j L e => En h256 (i := j + 4) e)
        rw [hm] at Vb
        obtain ⟨h', hr, hx'⟩ := TR (n := 52) W0 (f := a) (t := b) (fr := fr) (to_ := to) d D (by omega) V V2 Vb hb
        obtain ⟨r1, r2⟩ := m1 (FF (q0 :: q1 :: q2 :: q3 :: qs)) rfl (fun j q' e => by
          show ((q0 :: q1 :: q2 :: q3 :: qs)[j + 4]?).getD none = q'
          have e : (q0 :: q1 :: q2 :: q3 :: qs)[j + 4]? = some q' := e
          rw [e]; rfl)
        refine Ow LN hr hx' rfl (.cons r2 (.cons (.agg (.cons (.int _ _) (.cons (.int _ _) (.cons (i2 (FF (q0 :: q1 :: q2 :: q3 :: qs)) rfl) .nil)))) (.cons (j2 (FF (q0 :: q1 :: q2 :: q3 :: qs)) rfl) (.cons (.int _ _) (.cons (.int _ _) (.cons (k2 (FF (q0 :: q1 :: q2 :: q3 :: qs)) rfl) .nil)))))) (Mc (ps := q0 :: q1 :: q2 :: q3 :: qs) h256 (by simp only [List.length_cons]; omega) fun i q L e1 e2 => ?_)
        match i, e1, e2 with
        | 0, e1, e2 => cases e1; cases e2; exact i1.irel (Dz _ _ _)
        | 1, e1, e2 => cases e1; cases e2; exact j1.irel (Dz _ _ _)
        | 2, e1, e2 => cases e1; cases e2; exact k1.irel (Dz _ _ _)
        | 3, e1, e2 => cases e1; cases e2; exact r1
        | i + 4, e1, e2 =>
          obtain ⟨g1, g2⟩ := m2 i q L e1 e2
          exact g1.irel (g2 _)
set_option maxRecDepth 100000 in
theorem aD (os : Os) (started : os.Started) (H : Type) (enc : TypeId × Value → H) :
    ReturnsInHanded {} Try.checked os 5 .any (Rows.moveTellsSpec.pre6 enc Try.prog Try.f5 Rows.moveTellsRow.domain false) (Rows.moveTellsSpec.post enc Try.prog Try.f5 false true false false) := by
  refine returnsInHanded_of_change (C := Try.checked) own started (by kernel_rfl) Try.func5
    (ChangeSpec.witness6 (enc := enc) (C := Try.checked) false ⟨#[], #[.slice none 0 0, .agg #[.int .i64 0, .int .i64 0, .slice none 0 0], .slice none 0 0, .int .i64 0, .int .i64 0, .slice none 0 0], []⟩ 8 (by kernel_rfl) (by kernel_rfl) (by kernel_rfl) (by kernel_rfl)) ?_
  intro W base args ds gs before hval0 hW hcnd _
  have hval : ∀ (j : Nat) t v, Try.f5.params[j]? = some t → args[j]? = some v → Value.okWide Try.prog W .any base t v := hval0
  have hW' := hW
  obtain ⟨p, q, hA0, hV, rfl, hfz, hnd⟩ := hW
  have hA : DataW.TrodAll enc Try.prog W 0 (fun _ => true) true Try.f5.params.toList args.toList ds p := hA0
  rw [Try.params5] at hA hval
  obtain ⟨v0, vs0, d0, ds0, p0, q0, hargs, rfl, rfl, h0, r0⟩ := trodAll_cons hA
  obtain ⟨v1, vs1, d1, ds1, p1, q1, rfl, rfl, rfl, h1, r1⟩ := trodAll_cons r0
  obtain ⟨v2, vs2, d2, ds2, p2, q2, rfl, rfl, rfl, h2, r2⟩ := trodAll_cons r1
  obtain ⟨v3, vs3, d3, ds3, p3, q3, rfl, rfl, rfl, h3, r3⟩ := trodAll_cons r2
  obtain ⟨v4, vs4, d4, ds4, p4, q4, rfl, rfl, rfl, h4, r4⟩ := trodAll_cons r3
  obtain ⟨v5, vs5, d5, ds5, p5, q5, rfl, rfl, rfl, h5, r5⟩ := trodAll_cons r4
  obtain ⟨rfl, rfl, rfl⟩ := trodAll_nil r5
  obtain rfl : args = #[v0, v1, v2, v3, v4, v5] := by cases args; simp_all
  obtain ⟨rfl, rfl⟩ := trodVars_none hV
  clear hA0 hval0
  simp only [List.append_nil] at hW' hfz
  have hlt : ∀ x ∈ p0 ++ (p1 ++ (p2 ++ (p3 ++ (p4 ++ p5)))), x.block < W.heap.size := fun x hx => hW'.lt x hx
  have i0 : ∀ x ∈ p0, x ∈ p0 ++ (p1 ++ (p2 ++ (p3 ++ (p4 ++ p5)))) := fun x hx => List.mem_append_left _ hx
  have i1 : ∀ x ∈ p1, x ∈ p0 ++ (p1 ++ (p2 ++ (p3 ++ (p4 ++ p5)))) := fun x hx => List.mem_append_right _ (List.mem_append_left _ hx)
  have i2 : ∀ x ∈ p2, x ∈ p0 ++ (p1 ++ (p2 ++ (p3 ++ (p4 ++ p5)))) := fun x hx => List.mem_append_right _ (List.mem_append_right _ (List.mem_append_left _ hx))
  have i3 : ∀ x ∈ p3, x ∈ p0 ++ (p1 ++ (p2 ++ (p3 ++ (p4 ++ p5)))) := fun x hx => List.mem_append_right _ (List.mem_append_right _ (List.mem_append_right _ (List.mem_append_left _ hx)))
  have i4 : ∀ x ∈ p4, x ∈ p0 ++ (p1 ++ (p2 ++ (p3 ++ (p4 ++ p5)))) := fun x hx => List.mem_append_right _ (List.mem_append_right _ (List.mem_append_right _ (List.mem_append_right _ (List.mem_append_left _ hx))))
  have i5 : ∀ x ∈ p5, x ∈ p0 ++ (p1 ++ (p2 ++ (p3 ++ (p4 ++ p5)))) := fun x hx => List.mem_append_right _ (List.mem_append_right _ (List.mem_append_right _ (List.mem_append_right _ (List.mem_append_right _ hx))))
  refine (mm v0 v1 v2 v3 v4 v5 W (hval 0 25 v0 rfl rfl) (hval 1 31 v1 rfl rfl) (hval 2 29 v2 rfl rfl) (hval 3 3 v3 rfl rfl) (hval 4 3 v4 rfl rfl) (hval 5 24 v5 rfl rfl) h0 h1 h2 h5 (fun b off hm => hfz b off (i0 _ hm)) (fun b off hm => hfz b off (i1 _ hm)) (fun b off hm => hfz b off (i2 _ hm)) (fun b off hm => hfz b off (i5 _ hm))).mono fun e W' ⟨he, hb⟩ => ?_
  subst he
  refine ⟨_, rfl, Ja (pa := p0 ++ (p1 ++ (p2 ++ (p3 ++ (p4 ++ p5))))) (pv := []) hW' (fun _ _ _ => (trodAll_cons_mk (shut_bool Try.underlying4 _) trodAll_mk0)) (fun sp hsp => ?_) (fun _ _ => rfl) (by simp) hb (ok_one (by kernel_rfl) rfl (okWide_bool_mk Try.underlying4 _))⟩
  have s0 := WideElems.Trod_stays F8 (by kernel_rfl) (of_decide_eq_true (by kernel_rfl)) h0 (fun x hx => hb.same (hlt x (i0 x hx))) (fun x hx => hsp x (i0 x hx))
  have s1 := WideElems.Trod_stays F8 (by kernel_rfl) (of_decide_eq_true (by kernel_rfl)) h1 (fun x hx => hb.same (hlt x (i1 x hx))) (fun x hx => hsp x (i1 x hx))
  have s2 := WideElems.Trod_stays F8 (by kernel_rfl) (of_decide_eq_true (by kernel_rfl)) h2 (fun x hx => hb.same (hlt x (i2 x hx))) (fun x hx => hsp x (i2 x hx))
  have s3 := WideElems.Trod_stays F8 (by kernel_rfl) (of_decide_eq_true (by kernel_rfl)) h3 (fun x hx => hb.same (hlt x (i3 x hx))) (fun x hx => hsp x (i3 x hx))
  have s4 := WideElems.Trod_stays F8 (by kernel_rfl) (of_decide_eq_true (by kernel_rfl)) h4 (fun x hx => hb.same (hlt x (i4 x hx))) (fun x hx => hsp x (i4 x hx))
  have s5 := WideElems.Trod_stays F8 (by kernel_rfl) (of_decide_eq_true (by kernel_rfl)) h5 (fun x hx => hb.same (hlt x (i5 x hx))) (fun x hx => hsp x (i5 x hx))
  have := trodAll_cons_mk s0 (trodAll_cons_mk s1 (trodAll_cons_mk s2 (trodAll_cons_mk s3 (trodAll_cons_mk s4 (trodAll_cons_mk s5 (trodAll_mk0 (enc := enc) (P := Try.prog) (w := W') (base := 0) (spare := sp) (held := true)))))))
  rw [List.append_nil] at this
  exact this
theorem over : Rows.moveTellsRow.holds Try.pinned (OpenSpec.ofChange Rows.moveTellsSpec) :=
  OpenClaim.holds_of_wide 5 Try.f5 rfl rfl rfl rfl rfl rfl rfl ⟨rfl, rfl, rfl, rfl, rfl⟩ rfl rfl rfl rfl rfl (by kernel_rfl) Try.func5 (by kernel_rfl)
    (of_decide_eq_true (by kernel_rfl)) (by unfold Func.isWrapper; first | (rw [if_pos (by decide +kernel)]; kernel_rfl) | (rw [if_neg (by decide +kernel)]; exact ⟨rfl, rfl⟩))
    (fun os started H enc _ => aD os started H enc)
theorem proved : Rows.MoveTellsSaid :=
  over
#print axioms proved
end
end Go.Proofs.Ytkafejncffinmaa.moveTells
