/-
  'SlotsTells' of layer 06 answers true, whatever memory it is called in, whatever slot, bytes, size and choice of table it is handed and whatever the tape answers: no condition. What the canonical machine gives is shown for any of them (YtfeldadhbnmklaaGreatQma); that machine is sound for the model (YtfeldadhbnmklaaGreatFns).
  SlotsTells on the machine: true, whatever slot, bytes, size it is handed.
  The document's Parse, the whole.
  The document's Parse.
  slots.Parse, the whole.
  slots.Parse: its loop, and the whole.
  slots.Parse.
  slots.Head.
-/
import Derived.Test.YtfeldadhbnmklaaGreatZF
import Derived.Test.YtfeldadhbnmklaaGreatRows
import Derived.ProofKit
import Derived.OpenShut
import Derived.Carry
set_option linter.unusedVariables false
set_option linter.unusedSimpArgs false
namespace Go.Proofs.YtfeldadhbnmklaaGreat
noncomputable section
open Go
set_option maxRecDepth 100000
def nv (n : Nat) : Value := .int .u64 (n : Int)
theorem Hp.Own.apart {h : Hp} {k en b : Nat} {v : Value} {xs : List Value} (o : h.Own k en v xs) (hb : b < k) : ¬ GE v b := by
  rcases o with ⟨rfl, _⟩ | ⟨c, rfl, _, h3, _⟩
  · exact RY
  · exact Ks (by omega)
theorem Qp {h0 h : Hp} {k n : Nat} {v : Value} {xs : List Nat} (x0 : h0.Ext h) (hk : h0.next ≤ k) (hk2 : k ≤ h.next) (o : h.Own k 5 v (xs.map bv)) (hn : 0 < n) (hm : xs.length + n ≤ 1000000) :
    ∃ h' v', Fy 1 1 5 ty5.zero v (.ok n) h = .ok v' h' ∧ h0.Ext h' ∧ h'.Own k 5 v' ((xs ++ List.replicate n 0).map bv) ∧ h.next ≤ h'.next := by
  have W := x0.wf
  have hz : B6 ty5.zero = true := by kernel_rfl
  have hyl : ((List.replicate n 0).map bv).length = n := by simp
  rw [List.map_append]
  have hx : (xs.map bv).length = xs.length := List.length_map ..
  generalize hY : (List.replicate n 0).map bv = ys at hyl
  rcases o with ⟨rfl, hnil⟩ | ⟨b, rfl, r, hb, hb2⟩
  · rw [hnil]
    obtain ⟨t1, t2⟩ := Gb ys
    refine ⟨h.push (.cells (ofL ys) ys.length 6), .slice (some ⟨h.next, 0, none⟩) ys.length ys.length, ?_, x0.push _, .inr ⟨h.next, rfl, ⟨ofL ys, by rw [W.push_get, if_pos rfl]; rfl, t2⟩, hk2, W.big⟩, Nat.le_succ _⟩
    unfold Fy
    simp only [Ao, Nat.add_eq, Nat.zero_add]
    have e1 : Nat.ble n 0 = false := by
      cases e : Nat.ble n 0
      · rfl
      · have := Ap.1 e; omega
    have e2 : Nat.ble (Nat.mul (Nat.succ n) (Nat.succ 1)) most = true := Ap.2 (by show (n + 1) * 2 ≤ 1099511627776; omega)
    rw [e1]
    simp only [e2, cond_true, hz, LT, hY]
    unfold Gz BX H4
    simp only [List.nil_append, t1]
    unfold EU
    simp only [BD]
    unfold CJ
    rw [Ao, DX W, hyl]; rfl
  · obtain ⟨cc, hcc, hl⟩ := r.rowOf
    rw [hx] at hcc
    obtain ⟨t, h2, h3⟩ := Dz ys cc (xs.map bv) xs.length hl (.inr hx.symm)
    have h3 : t.Is (xs.map bv ++ ys) := by
      have e : (xs.map bv).drop (xs.length + ys.length) = [] := List.drop_of_length_le (by omega)
      have e' : (xs.map bv).take xs.length = xs.map bv := List.take_of_length_le (by omega)
      rw [e, e'] at h3
      simpa using h3
    have hlen : (xs.map bv ++ ys).length = xs.length + n := by rw [List.length_append, hx, hyl]
    have hlt := r.lt W
    have W1 : (h.put b .dead).Wf := W.put hlt _
    have x1 : h0.Ext (h.put b .dead) := x0.put (by omega) hlt _
    refine ⟨(h.put b .dead).push (.cells t (xs.length + n) 6), .slice (some ⟨h.next, 0, none⟩) (xs.length + n) (xs.length + n), ?_, x1.push _, .inr ⟨h.next, by rw [hlen], ⟨t, by
      have := W1.push_get (.cells t (xs.length + n) 6) h.next
      rw [this, if_pos (show h.next = (h.put b .dead).next from rfl), hlen], h3⟩, hk2, W.big⟩, Nat.le_succ _⟩
    rw [hx]
    unfold Fy
    simp only [Ao, Nat.add_eq]
    have e1 : Nat.ble (xs.length + n) xs.length = false := by
      cases e : Nat.ble (xs.length + n) xs.length
      · rfl
      · have := Ap.1 e; omega
    have e2 : Nat.ble (Nat.mul (Nat.succ (xs.length + n)) (Nat.succ 1)) most = true := Ap.2 (by show (xs.length + n + 1) * 2 ≤ 1099511627776; omega)
    rw [e1]
    simp only [e2, cond_true, hz, LT, hY]
    unfold Gz
    have e3 : Nat.beq xs.length (Nat.mul xs.length 1) = true := AZ.2 (Nat.mul_one _).symm
    simp only [hcc, e3, h2]
    unfold EU
    have e4 : J0 0 xs.length 1 xs.length = true := by
      unfold J0
      cases xs.length with
      | zero => rfl
      | succ n => exact AZ.2 (by show 0 + (n + 1) * 1 = n + 1; omega)
    simp only [hcc, BD, Nat.add_eq, Nat.beq_refl, cond_true, e4]
    rw [Ht W hb2 hlt]
    unfold CJ
    rw [Ao, DX W1, hyl]; rfl
theorem Mf {F : CallF} {e : Env} {h : Hp} {x y : O} {n : Nat} {v : Value} (hx : x e = v) (hy : y e = .int .i64 (n : Int)) : DH 1 1 5 ty5.zero x y F e h = Fy 1 1 5 ty5.zero v (.ok n) h := by
  unfold DH
  rw [hx, hy, Dv]
theorem XU : A6 Jn.zero 6 = [nv 0, nv 0, nv 0, nv 0, nv 0, nv 0] := by kernel_rfl
theorem Rs {n : Nat} : cellsOf (nv n) = [nv n] := rfl
theorem Qw {F : CallF} {e : Env} {h : Hp} (W : h.Wf) {g1 g2 g3 g4 g5 g6 : O} {a b c d i j : Nat} (h1 : g1 e = nv a) (h2 : g2 e = nv b) (h3 : g3 e = nv c) (h4 : g4 e = nv d) (h5 : g5 e = nv i) (h6 : g6 e = nv j) :
    AX 6 (A6 Jn.zero 6) [(0, 1, g1), (1, 1, g2), (2, 1, g3), (3, 1, g4), (4, 1, g5), (5, 1, g6)] F e h = .ok (.slice (some ⟨h.next, 0, none⟩) 6 6) (h.pushRow 0 ([a, b, c, d, i, j].map nv)) := by
  rw [Cr, XU, BV (hk := by rw [h1]; rfl), h1, BV (hk := by rw [h2]; rfl), h2, BV (hk := by rw [h3]; rfl), h3, BV (hk := by rw [h4]; rfl), h4, BV (hk := by rw [h5]; rfl), h5, BV (hk := by rw [h6]; rfl), h6]
  simp only [Rs, List.length_singleton, List.length_cons, List.length_nil, over, List.take, List.drop, List.append_eq, List.nil_append, List.cons_append, Nat.reduceAdd, Nat.reduceLeDiff, if_true, C7, reduceIte]
  rw [DA W]; rfl
def heB : C := (cOp (AD 36) (AM iLt .i64 (AB 35) (AB 34))
(AJ (AB 36)
(Al (AK 1 (cOp (AD 37) (AY 1 (AB 33) (AB 35))
(cOp (AD 38) (AG (AB 37))
(cOp (AD 8) (AC (AB 38))
(cOp (AD 41) (AL 26 [(AB 6), (AB 8)])
(cOp (AD 6) (AC (AB 41))
AO))))))
(cOp (AD 42) (Ai .i64 (AQ .i64) (AB 35) (kV (.int .i64 1)))
(cOp (AD 35) (AC (AB 42))
AO)))
(At 0)))
def heE : C := (cOp (AD 46) (Aw (AB 6))
(cOp (AD 47) (As Int.sub .i64 (kV (.int .i64 60)) (AB 46))
(cOp (AD 48) (DH 1 1 5 ty5.zero (AB 6) (AB 47))
(cOp (AD 49) (AL 27 [(AB 0), (AB 48)])
(cOp (AD 4) (AC (AB 49))
(cOp (AD 5) (AC (kV (.int .i64 0)))
AU))))))
def heS : C := (Al (AK 0 (Aj (cOp (AD 36) (AM iLt .i64 (AB 35) (AB 34))
(AJ (AB 36)
(Al (AK 1 (cOp (AD 37) (AY 1 (AB 33) (AB 35))
(cOp (AD 38) (AG (AB 37))
(cOp (AD 8) (AC (AB 38))
(cOp (AD 41) (AL 26 [(AB 6), (AB 8)])
(cOp (AD 6) (AC (AB 41))
AO))))))
(cOp (AD 42) (Ai .i64 (AQ .i64) (AB 35) (kV (.int .i64 1)))
(cOp (AD 35) (AC (AB 42))
AO)))
(At 0)))))
(cOp (AD 46) (Aw (AB 6))
(cOp (AD 47) (As Int.sub .i64 (kV (.int .i64 60)) (AB 46))
(cOp (AD 48) (DH 1 1 5 ty5.zero (AB 6) (AB 47))
(cOp (AD 49) (AL 27 [(AB 0), (AB 48)])
(cOp (AD 4) (AC (AB 49))
(cOp (AD 5) (AC (kV (.int .i64 0)))
AU)))))))
theorem aV : heS = Al (AK 0 (Aj heB)) heE := rfl
def d6h : C := (cOp (AD 3) (CG (AB 1))
(cOp (AD 4) (AC (kV (.slice none 0 0)))
(cOp (AD 5) (AC (kV (.int .i64 0)))
(cOp (AD 9) (Ac 5 (AB 3))
(cOp (AD 10) (AL 24 [(AB 9)])
(cOp (AD 11) (Bo (AB 10))
(AJ (AB 11)
(cOp (AD 4) (AC (kV (.slice none 0 0)))
(cOp (AD 5) (AC (kV (.int .i64 2)))
AU))
(cOp (AD 6) (AC (kV (.slice none 0 0)))
(Ar (cOp (AD 12) (AE 3 (AB 3))
(Cn (AB 12) (B7 (AB 12) []
(cOp (AD 13) (AG (AB 12))
(cOp (AD 14) (An .u64 (AB 13))
(cOp (AD 15) (AE 0 (AB 3))
(Cn (AB 15) (B7 (AB 15) []
(cOp (AD 16) (AG (AB 15))
(cOp (AD 17) (An .u64 (AB 16))
(cOp (AD 18) (AE 1 (AB 3))
(Cn (AB 18) (B7 (AB 18) []
(cOp (AD 19) (AG (AB 18))
(cOp (AD 20) (An .u64 (AB 19))
(cOp (AD 21) (AE 2 (AB 3))
(Cn (AB 21) (B7 (AB 21) []
(cOp (AD 22) (AG (AB 21))
(cOp (AD 23) (An .u64 (AB 22))
(cOp (AD 24) (AE 4 (AB 3))
(Cn (AB 24) (B7 (AB 24) []
(cOp (AD 25) (AG (AB 24))
(cOp (AD 26) (Aw (AB 25))
(cOp (AD 27) (An .u64 (AB 26))
(cOp (AD 29) (AE 4 (AB 3))
(cOp (AD 30) (AG (AB 29))
(cOp (AD 31) (AS .weak (AL 25 [(AB 0), (AB 30)]))
(cOp (AD 32) (An .u64 (AB 31))
(cOp (AD 33) (AS .strong (AX 6 (A6 Jn.zero 6) [(0, 1, (AB 14)), (1, 1, (AB 17)), (2, 1, (AB 20)), (3, 1, (AB 23)), (4, 1, (AB 27)), (5, 1, (AB 32))]))
(cOp (AD 34) (Aw (AB 33))
(cOp (AD 35) (AC (kV (.int .i64 0)))
heS))))))))))))))))))))))))))))))))))))))))))
def d6 : C := d6h
theorem Xu {n : Nat} {args : List Value} {h : Hp} (hl : Nat.ble (BR args) 320 = true) : call AH (Nat.succ n) 6 args h = Bs [.t (AB 4), .t (AB 5)] (d6 (call AH n) (Av e0 0 args) h) := by
  have hb : AH.get 6 = some b6 := by kernel_rfl
  rw [BQ hb]
  have hd : b6 = ⟨[.t (AB 4), .t (AB 5)], d6⟩ := by kernel_rfl
  rw [hd, BJ hl]
theorem Xy : d6 = d6h := rfl
theorem Vq {n : Nat} {h0 h : Hp} (x0 : h0.Ext h) {b6 : Nat} (hb6 : b6 < h.next) (hk : h0.next ≤ h.next) {ns : List Nat} (R6 : h.Row b6 0 (ns.map nv)) (hns : ∀ v ∈ ns, v < 18446744073709551616) (h6 : ns.length = 6) {p : Value} {e : Env}
    (s0 : AB 0 e = p) (s6 : AB 6 e = .slice none 0 0) (s33 : AB 33 e = .slice (some ⟨b6, 0, none⟩) 6 6) (s34 : AB 34 e = .int .i64 6) (s35 : AB 35 e = .int .i64 ((0 : Nat) : Int)) :
    ∃ e' h' v, Aj heB (call AH (n + 1)) e h = .exit 0 e' h' ∧ h0.Ext h' ∧ h'.Own h.next 5 v ((BZ ns).map bv) ∧ AB 0 e' = p ∧ AB 6 e' = v ∧ h.next ≤ h'.next := by
  refine CF (I := fun i e' h' => ∃ v, h0.Ext h' ∧ h'.Own h.next 5 v ((BZ (ns.take i)).map bv) ∧ h'.Row b6 0 (ns.map nv) ∧ AB 0 e' = p ∧ AB 6 e' = v ∧ AB 33 e' = .slice (some ⟨b6, 0, none⟩) 6 6 ∧ AB 34 e' = .int .i64 6 ∧ AB 35 e' = .int .i64 (i : Int) ∧ h.next ≤ h'.next ∧ i ≤ 6)
    (Q := fun x => ∃ e' h' v, x = .exit 0 e' h' ∧ h0.Ext h' ∧ h'.Own h.next 5 v ((BZ ns).map bv) ∧ AB 0 e' = p ∧ AB 6 e' = v ∧ h.next ≤ h'.next) 6 (by omega) (fun i e' h' ⟨v, x', o', R', t0, t6, t33, t34, t35, hn, hi⟩ => ?_)
    ⟨_, x0, .inl ⟨rfl, rfl⟩, R6, s0, s6, s33, s34, s35, Nat.le_refl _, by omega⟩
  by_cases hlt : i < 6
  · left
    have c1 : iLt (i : Int) 6 = true := IH (b := 6) hlt
    have hil : i < ns.length := by omega
    have i1 : D4 1 (.slice (some ⟨b6, 0, none⟩) 6 6) (.int .i64 (i : Int)) h' = .ok (.pointer (some ⟨b6, i, none⟩)) h' := by
      have := Et (h := h') (n := 6) (c := 6) (es := 1) (b := b6) (off := 0) (i := i) (k := .i64) hlt
      rwa [Nat.zero_add, Nat.mul_one] at this
    have l1 : load1 ⟨b6, i, none⟩ h' = .ok (.int .u64 ((ns[i]'hil : Nat) : Int)) h' := by
      rw [R'.load1 (off := i) (by rw [List.length_map]; exact hil), List.getD_eq_getElem?_getD, List.getElem?_map, List.getElem?_eq_getElem hil]; rfl
    have htl : (BZ (ns.take i)).length ≤ 1000000 := by
      have h1 := Gh (ns := ns.take i) fun v hv => hns v (List.mem_of_mem_take hv)
      rw [List.length_take] at h1
      omega
    obtain ⟨h2, v2, k2, x2, o2, hn2, fr⟩ := XP (n := n) x' hk hn o' htl (hns _ (List.getElem_mem hil))
    have a3 := G1 (i := i) (h := h2) (by omega)
    have R2 := (fr b6 0 _ (o'.apart hb6) R').1
    have htk : BZ (ns.take i) ++ BC (ns[i]'hil) = BZ (ns.take (i + 1)) := by
      rw [List.take_succ_eq_append_getElem hil, Ou]
      show _ = _ ++ (BC _ ++ [])
      rw [List.append_nil]
    rw [htk] at o2
    have hrun : ∃ e2, heB (call AH (n + 1)) e' h' = .norm e2 h2 ∧ AB 0 e2 = p ∧ AB 6 e2 = v2 ∧ AB 33 e2 = .slice (some ⟨b6, 0, none⟩) 6 6 ∧ AB 34 e2 = .int .i64 6 ∧ AB 35 e2 = .int .i64 ((i + 1 : Nat) : Int) := by
      unfold heB
      simp only [sT, Nat.reduceLT, Nat.reduceEqDiff, if_true, if_false, reduceIte, Ae, Ad, t35, t34, c1, CO, t33, i1, Au, A5, l1, Ay, Ah, Ax, t6, k2, Bt, a3]
      exact ⟨_, rfl, by simp only [AF, Nat.reduceLT, Nat.reduceEqDiff, if_true, if_false, reduceIte]; exact t0, by simp [AF], by simp only [AF, Nat.reduceLT, Nat.reduceEqDiff, if_true, if_false, reduceIte]; exact t33, by simp only [AF, Nat.reduceLT, Nat.reduceEqDiff, if_true, if_false, reduceIte]; exact t34, by simp [AF]⟩
    obtain ⟨e2, q1, q2, q3, q4, q5, q6⟩ := hrun
    exact ⟨by omega, e2, h2, q1, v2, x2, o2, R2, q2, q3, q4, q5, q6, by omega, by omega⟩
  · right
    have hi6 : i = 6 := by omega
    subst hi6
    have c1 : iLt ((6 : Nat) : Int) 6 = false := FU (a := 6) (b := 6) (by omega)
    have hrun : ∃ e2, heB (call AH (n + 1)) e' h' = .exit 0 e2 h' ∧ AB 0 e2 = p ∧ AB 6 e2 = v := by
      unfold heB
      simp only [sT, Nat.reduceLT, Nat.reduceEqDiff, if_true, if_false, reduceIte, Ae, Ad, t35, t34, c1]
      exact ⟨_, rfl, by simp only [AF, Nat.reduceLT, Nat.reduceEqDiff, if_true, if_false, reduceIte]; exact t0, by simp only [AF, Nat.reduceLT, Nat.reduceEqDiff, if_true, if_false, reduceIte]; exact t6⟩
    obtain ⟨e2, q1, q2, q3⟩ := hrun
    rw [q1]
    rw [List.take_of_length_le (by omega)] at o'
    exact ⟨rfl, e2, h', v, rfl, x', o', q2, q3, hn⟩
theorem Vr {n : Nat} {h : Hp} (W : h.Wf) {tb : Nat} {T : List Nat} (R : h.Row tb 0 (T.map wv)) (hT : Cm T) {a b c : Int} {s : Nat} {u : Value} {l : List Nat} (V : h.Vals u (l.map bv)) (hb : ∀ x ∈ l, x < 256) (hs : s < 256) (hl : l.length ≤ 900000) :
    ∃ h', h.Ext h' ∧ UM T a b c s l h h' (call AH (n + 3) 6 [pt tb, BS a b c s u] h) := by
  have x1 := (Hp.Ext.refl W).pushRow 0 (Aq a b c s u)
  have R1 := Hp.Row.new W 0 (Aq a b c s u)
  have bx : ∀ e : Env, AB 1 e = BS a b c s u → CG (AB 1) (call AH (n + 2)) e h = .ok (.pointer (some ⟨h.next, 0, none⟩)) (h.pushRow 0 (Aq a b c s u)) := fun e he => EC W he
  have n1 : (h.pushRow 0 (Aq a b c s u)).next = h.next + 1 := rfl
  generalize h.pushRow 0 (Aq a b c s u) = h1 at x1 R1 bx n1
  obtain ⟨_, _, _, _, _, ln⟩ := BG R1
  have k1 := NF (n := n + 1) x1.wf (a := a) (b := b) (c := c) (s := s) (u := u) V.bl
  have y2 := (Hp.Ext.refl x1.wf).pushRow 0 (Aq a b c s u)
  have n2 : (h1.pushRow 0 (Aq a b c s u)).next = h1.next + 1 := rfl
  generalize h1.pushRow 0 (Aq a b c s u) = h2 at y2 k1 n2
  have x2 := x1.trans y2
  cases hr : CB a b c s l.length with
  | false =>
    rw [hr] at k1
    refine ⟨h2, x2, .inr ⟨hr, ?_⟩⟩
    rw [Xu rfl, Xy]
    unfold d6h
    simp only [Aa, Ab, Nat.succ_eq_add_one, Nat.zero_add, Nat.reduceAdd, sT, Nat.reduceLT, Nat.reduceEqDiff, if_true, if_false, reduceIte, bx, B4, B3, ln, Ay, Ah, Ax, k1, Cl, Ck, Bool.not_false, Ak, D1]
  | true =>
    rw [hr] at k1
    obtain ⟨ha1, ha2, hb1, hb2, hc1, hc2, hs2, hm⟩ := of_decide_eq_true hr
    have xm := x2.marked
    have R2 : h2.marked.Row h.next 0 (Aq a b c s u) := (R1.ext x1.wf y2).same rfl
    obtain ⟨m0, m1, m2, m3, m4, _⟩ := BG R2
    have hmk : h.next < h2.marked.mark := by show h.next < h2.next; omega
    have old : ∀ (off : Nat) (k : C) (F : CallF) (e : Env), Qo (.pointer (some ⟨h.next, off, none⟩)) k F e h2.marked = k F e h2.marked := fun off k F e => Mu hmk
    have Vl := V.bl h2.marked
    obtain ⟨a', rfl⟩ := Int.eq_ofNat_of_zero_le ha1
    obtain ⟨b', rfl⟩ := Int.eq_ofNat_of_zero_le hb1
    obtain ⟨c', rfl⟩ := Int.eq_ofNat_of_zero_le (show 0 ≤ c by omega)
    have cs := Dj (k := .u8) (n := s) (by omega) (h := h2.marked)
    have ca := Dj (k := .i64) (n := a') (by omega) (h := h2.marked)
    have cb := Dj (k := .i64) (n := b') (by omega) (h := h2.marked)
    have cc := Dj (k := .i64) (n := c') (by omega) (h := h2.marked)
    have cm := Dj (k := .i64) (n := l.length) (by omega) (h := h2.marked)
    obtain ⟨hq, kq, hq2⟩ := Tk (n := n + 1) (h := h2.marked.quiet) (R.ext W xm.quiet) hT (V.ext W xm.quiet) hb hl
    have yq : h2.marked.quiet.Ext hq := by
      rcases hq2 with rfl | rfl
      · exact Hp.Ext.refl xm.quiet.wf
      · exact (Hp.Ext.refl xm.quiet.wf).marked
    have nq : hq.next = h2.next := by rcases hq2 with rfl | rfl <;> rfl
    have q1 : ∀ e : Env, AB 0 e = pt tb → AB 30 e = u → AS .weak (AL 25 [AB 0, AB 30]) (call AH (n + 2)) e h2.marked = .ok (.int .u32 ((Bz T l : Nat) : Int)) (h2.marked.back hq) := fun e h0 h6 => by
      refine Fp ?_ yq (Nat.le_refl _)
      rw [Ay, Ah, Ah, Ax, h0, h6]
      exact kq
    have yb : h2.marked.Ext (h2.marked.back hq) := Hp.Ext.back yq
    have nb : (h2.marked.back hq).next = h2.next := nq
    have mb : (h2.marked.back hq).mark = h2.next := rfl
    generalize h2.marked.back hq = h3 at q1 yb nb mb
    have x3 := xm.trans yb
    have ct := Dj (k := .u32) (n := Bz T l) (by have := FP T l; omega) (h := h3)
    have y4 : h3.quiet.Ext (h3.quiet.pushRow 0 ((CW a' b' c' s l.length (Bz T l)).map nv)) := (Hp.Ext.refl x3.quiet.wf).pushRow _ _
    have R4 := Hp.Row.new x3.quiet.wf 0 ((CW a' b' c' s l.length (Bz T l)).map nv)
    have q2 : ∀ (F : CallF) (e : Env), AB 14 e = nv s → AB 17 e = nv a' → AB 20 e = nv b' → AB 23 e = nv c' → AB 27 e = nv l.length → AB 32 e = nv (Bz T l) →
        AS .strong (AX 6 (A6 Jn.zero 6) [(0, 1, AB 14), (1, 1, AB 17), (2, 1, AB 20), (3, 1, AB 23), (4, 1, AB 27), (5, 1, AB 32)]) F e h3 = .ok (.slice (some ⟨h3.next, 0, none⟩) 6 6) (h3.back (h3.quiet.pushRow 0 ((CW a' b' c' s l.length (Bz T l)).map nv))) := fun F e e1 e2 e3 e4 e5 e6 =>
      Fp (Qw x3.quiet.wf e1 e2 e3 e4 e5 e6) y4 (by omega)
    have z4 : h3.Ext (h3.back (h3.quiet.pushRow 0 ((CW a' b' c' s l.length (Bz T l)).map nv))) := Hp.Ext.back y4
    have n4 : (h3.back (h3.quiet.pushRow 0 ((CW a' b' c' s l.length (Bz T l)).map nv))).next = h3.next + 1 := rfl
    have R5 : (h3.back (h3.quiet.pushRow 0 ((CW a' b' c' s l.length (Bz T l)).map nv))).Row h3.next 0 ((CW a' b' c' s l.length (Bz T l)).map nv) := R4.same rfl
    generalize h3.back (h3.quiet.pushRow 0 ((CW a' b' c' s l.length (Bz T l)).map nv)) = h4 at q2 z4 n4 R5
    have x4 := x3.trans z4
    have hnl := Sh (a := a') (b := b') (c := c') (s := s) (m := l.length) (t := Bz T l) (by omega) (by omega) (by omega) hs (by omega) (FP T l)
    have hl7 := Ew (a := a') (b := b') (c := c') (s := s) (m := l.length) (t := Bz T l) (by omega) (by omega) (by omega) hs (by omega) (FP T l)
    have pre : ∃ e1, d6h (call AH (n + 2)) (Av e0 0 [pt tb, BS (a' : Int) (b' : Int) (c' : Int) s u]) h = heS (call AH (n + 2)) e1 h4 ∧ AB 0 e1 = pt tb ∧ AB 6 e1 = .slice none 0 0 ∧ AB 33 e1 = .slice (some ⟨h3.next, 0, none⟩) 6 6 ∧ AB 34 e1 = .int .i64 6 ∧ AB 35 e1 = .int .i64 ((0 : Nat) : Int) := by
      have cs : CV .u64 (.int .u8 (s : Int)) h2.marked = .ok (nv s) h2.marked := cs
      have ca : CV .u64 (.int .i64 (a' : Int)) h2.marked = .ok (nv a') h2.marked := ca
      have cb : CV .u64 (.int .i64 (b' : Int)) h2.marked = .ok (nv b') h2.marked := cb
      have cc : CV .u64 (.int .i64 (c' : Int)) h2.marked = .ok (nv c') h2.marked := cc
      have cm : CV .u64 (.int .i64 (l.length : Int)) h2.marked = .ok (nv l.length) h2.marked := cm
      have ct : CV .u64 (.int .u32 ((Bz T l : Nat) : Int)) h3 = .ok (nv (Bz T l)) h3 := ct
      unfold d6h
      simp only [Aa, Ab, Nat.succ_eq_add_one, Nat.zero_add, Nat.reduceAdd, sT, Nat.reduceLT, Nat.reduceEqDiff, if_true, if_false, reduceIte, bx, B4, B3, ln, Ay, Ah, Ax, k1, Cl, Ck, Bool.not_true, CU, A2, BO, IO, old, Gl, Au, A5, m0, m1, m2, m3, m4, Ba, cs, ca, cb, cc, Az, Vl, cm, q1, ct, q2, MR]
      exact ⟨_, rfl, by simp [AF], by simp [AF], by simp [AF], by simp only [AF, Nat.reduceLT, Nat.reduceEqDiff, if_true, if_false, reduceIte]; rfl, by simp only [AF, Nat.reduceLT, Nat.reduceEqDiff, if_true, if_false, reduceIte]; rfl⟩
    obtain ⟨e1, p1, p2, p3, p4, p5, p6⟩ := pre
    obtain ⟨e2, h5, v5, r1, x5, o5, r2, r3, n5⟩ := Vq (n := n + 1) x4 (b6 := h3.next) (by omega) x4.next R5 hnl rfl p2 p3 p4 p5 p6
    have Vl5 := o5.vals.bl h5
    have a1 : GD Int.sub .i64 (.int .i64 60) (.int .i64 ((BZ (CW a' b' c' s l.length (Bz T l))).length : Int)) h5 = .ok (.int .i64 ((60 - (BZ (CW a' b' c' s l.length (Bz T l))).length : Nat) : Int)) h5 := by
      have : Int.sub 60 ((BZ (CW a' b' c' s l.length (Bz T l))).length : Int) = ((60 - (BZ (CW a' b' c' s l.length (Bz T l))).length : Nat) : Int) := by
        show (60 : Int) - _ = _
        omega
      rw [Ct, this, Bc (by omega)]
    obtain ⟨h6, v6, k6, x6, o6, n6⟩ := Qp x5 (k := h4.next) x4.next n5 o5 (n := 60 - (BZ (CW a' b' c' s l.length (Bz T l))).length) (by omega) (by omega)
    have ap : ∀ (F : CallF) (e : Env), AB 6 e = v5 → AB 47 e = .int .i64 ((60 - (BZ (CW a' b' c' s l.length (Bz T l))).length : Nat) : Int) → DH 1 1 5 ty5.zero (AB 6) (AB 47) F e h5 = .ok v6 h6 := fun F e e1 e2 => (Mf e1 e2).trans k6
    have hpl := Fm (l := BZ (CW a' b' c' s l.length (Bz T l))) (by omega)
    have Vp : h6.Vals v6 ((JV (BZ (CW a' b' c' s l.length (Bz T l)))).map bv) := o6.vals
    obtain ⟨h7, w, k7, y7, m7⟩ := Pr (n := n) x6.wf (R.ext W x6) hT Vp (LQ Hx) (by omega)
    refine ⟨h7, x6.trans y7, .inl ⟨hr, w, ?_, ?_⟩⟩
    · rw [Xu rfl, Xy, p1, aV]
      simp only [Bj, BI, r1, BN, Bd]
      unfold heE
      simp only [sT, Nat.reduceLT, Nat.reduceEqDiff, if_true, if_false, reduceIte, Az, r3, Vl5, C3, a1, ap, Ay, Ah, Ax, r2, k7, Ak, D1]
    · rw [Int.toNat_natCast, Int.toNat_natCast, Int.toNat_natCast]
      exact m7.le x6.next
end
end Go.Proofs.YtfeldadhbnmklaaGreat
set_option linter.unusedVariables false
set_option linter.unusedSimpArgs false
namespace Go.Proofs.YtfeldadhbnmklaaGreat
noncomputable section
open Go
set_option maxRecDepth 100000
abbrev BK : Value := .slice none 0 0
def okT (ns : List Nat) : Value := .tuple ⟨[BS (at6 ns 1) (at6 ns 2) (at6 ns 3) (at6 ns 0) BK, .int .i64 (at6 ns 4 : Nat), .int .u32 (at6 ns 5 : Nat), .bool true]⟩
def noT : Value := .tuple ⟨[BS 0 0 0 0 BK, .int .i64 0, .int .u32 0, .bool false]⟩
theorem UI : Cv.zero = Aq 0 0 0 0 BK := by kernel_rfl
theorem GC : CH .mt 0 (Aq 0 0 0 0 BK) = some Bx := by kernel_rfl
theorem XW : CH .mt 0 ([0, 0, 0, 0, 0, 0].map nv) = some Ow := by kernel_rfl
theorem KA {e : Env} {h : Hp} {g g1 g2 g3 : O} {n : Nat} {v : Value} (hv : OK n (g e) h = .ok v h) : E8 [.cN g n, .t g1, .t g2, .t g3] e h = .ok (.tuple ⟨[v, g1 e, g2 e, g3 e]⟩) h := by
  have h1 : HG e h (.cN g n) = .ok v h := hv
  show (match HG e h (.cN g n) with | .ok v _ => forceV v fun v => forceV (g1 e) (fun x => forceV (g2 e) fun y => forceV (g3 e) fun z => K0 h [v, x, y, z]) | .no => .no) = _
  rw [h1]
  simp only [A7]; rfl
theorem IJ {h g : Hp} (W0 : h.Wf) (x : h.Ext g) {r : Nat} (hr : h.next ≤ r) {L : List Value} (R : g.Row r 0 L) (hL : L.length = 5) {a b c : Int} {s : Nat} {u : Value} (hu : Dr u = true) :
    storeR 5 (pt r) (BS a b c s u) g = .ok noRes (g.wr r 0 (Aq a b c s u)) ∧ loadN 5 ⟨r, 0, none⟩ (g.wr r 0 (Aq a b c s u)) = .ok (BS a b c s u) (g.wr r 0 (Aq a b c s u)) ∧ h.Ext (g.wr r 0 (Aq a b c s u)) ∧ (g.wr r 0 (Aq a b c s u)).Row r 0 (Aq a b c s u) ∧ (g.wr r 0 (Aq a b c s u)).next = g.next := by
  have h256 : 256 ≤ r := by have := W0.big; omega
  have ho : 0 + (Aq a b c s u).length ≤ L.length := by rw [hL]; show 0 + 5 ≤ 5; omega
  have h1 : B6 (Aq a b c s u) = true := by
    show (bif Dr u then true else false) = true
    rw [hu]; rfl
  have st := R.storeR (n := 5) (off := 0) x.wf h256 (v := BS a b c s u) rfl ho h1
  have wr := R.wr_self x.wf ho
  rw [TG (show L.length = (Aq a b c s u).length from hL)] at wr
  exact ⟨st, (BG wr).2.2.2.2.2, R.wr_ext x hr ho, wr, R.wr_next ho⟩
theorem O1 {F : CallF} {e : Env} {h : Hp} {g1 g2 g3 g4 : O} {a b c : Int} {s : Nat} (h1 : g1 e = .int .u8 (s : Int)) (h2 : g2 e = .int .i64 a) (h3 : g3 e = .int .i64 b) (h4 : g4 e = .int .i64 c) :
    BA Cv.zero [(3, 1, g1), (0, 1, g2), (1, 1, g3), (2, 1, g4)] F e h = .ok (BS a b c s BK) h := by
  rw [Ho, UI, BV (hk := by rw [h1]; rfl), h1, BV (hk := by rw [h2]; rfl), h2, BV (hk := by rw [h3]; rfl), h3, BV (hk := by rw [h4]; rfl), h4]
  simp only [Hc, List.length_singleton, List.length_cons, List.length_nil, Aq, over, List.take, List.drop, List.append_eq, List.nil_append, List.cons_append, Nat.reduceAdd, Nat.reduceLeDiff, if_true, C7, reduceIte]
  rfl
theorem Br {F : CallF} {e : Env} {h : Hp} : BA Cv.zero [] F e h = .ok (BS 0 0 0 0 BK) h := by
  rw [Ho, C7, UI]; rfl
theorem MJ {r k : Nat} (hk : k < 6) {g : Hp} : Js 6 1 (pt r) (.int .i64 (k : Int)) g = .ok (.pointer (some ⟨r, k, none⟩)) g := by
  have := PT (h := g) (n := 6) (es := 1) (b := r) (off := 0) (i := k) (k := .i64) hk
  rwa [Nat.zero_add, Nat.mul_one] at this
theorem Mc {g : Hp} {r k : Nat} {ns : List Nat} (R : g.Row r 0 (ns.map nv)) (h6 : ns.length = 6) (hk : k < 6) : load1 ⟨r, k, none⟩ g = .ok (.int .u64 ((at6 ns k : Nat) : Int)) g := by
  have hil : k < ns.length := by omega
  unfold at6
  rw [R.load1 (off := k) (by rw [List.length_map]; exact hil), List.getD_eq_getElem?_getD, List.getElem?_map, List.getD_eq_getElem?_getD, List.getElem?_eq_getElem hil]; rfl
abbrev f33 : Value := .func (.func 33) ⟨[]⟩ ⟨[]⟩
theorem RX {n : Nat} {h : Hp} {c : Nat} : call AH (n + 1) 33 [.int .u8 (c : Int)] h = .ok (.bool (iNe (c : Int) 0)) h := by
  rw [Zs rfl]
  unfold d33
  simp only [Aa, Ab, Nat.succ_eq_add_one, Nat.zero_add, Nat.reduceAdd, sT, Nat.reduceLT, Nat.reduceEqDiff, if_true, if_false, reduceIte, Ae, Ad, Ak, A1]
def ifB : C := (cOp (AD 9) (AM iLt .i64 (AB 8) (AB 7))
(AJ (AB 9)
(Al (AK 1 (cOp (AD 5) (AC (AB 8))
(cOp (AD 14) (AY 1 (AB 0) (AB 5))
(cOp (AD 15) (AG (AB 14))
(cOp (AD 16) (B8 (AB 1) [(AB 15)])
(AJ (AB 16)
(cOp (AD 4) (AC (AB 5))
AU)
AO))))))
(cOp (AD 18) (Ai .i64 (AQ .i64) (AB 8) (kV (.int .i64 1)))
(cOp (AD 8) (AC (AB 18))
AO)))
(At 0)))
def ifS : C := (Al (AK 0 (Aj (cOp (AD 9) (AM iLt .i64 (AB 8) (AB 7))
(AJ (AB 9)
(Al (AK 1 (cOp (AD 5) (AC (AB 8))
(cOp (AD 14) (AY 1 (AB 0) (AB 5))
(cOp (AD 15) (AG (AB 14))
(cOp (AD 16) (B8 (AB 1) [(AB 15)])
(AJ (AB 16)
(cOp (AD 4) (AC (AB 5))
AU)
AO))))))
(cOp (AD 18) (Ai .i64 (AQ .i64) (AB 8) (kV (.int .i64 1)))
(cOp (AD 8) (AC (AB 18))
AO)))
(At 0)))))
(cOp (AD 4) (AC (kV (.int .i64 (-1))))
AU))
def ifE : C := cOp (AD 4) (AC (kV (.int .i64 (-1)))) AU
theorem SS : ifS = Al (AK 0 (Aj ifB)) ifE := rfl
def VU : C := (cOp (AD 4) (AC (kV (.int .i64 0)))
(cOp (AD 7) (Aw (AB 0))
(cOp (AD 8) (AC (kV (.int .i64 0)))
ifS)))
def d65 : C := VU
theorem Rm {n : Nat} {args : List Value} {h : Hp} (hl : Nat.ble (BR args) 320 = true) : call AH (Nat.succ n) 65 args h = Bs [.t (AB 4)] (d65 (call AH n) (Av e0 0 args) h) := by
  have hb : AH.get 65 = some b65 := by kernel_rfl
  rw [BQ hb]
  have hd : b65 = ⟨[.t (AB 4)], d65⟩ := by kernel_rfl
  rw [hd, BJ hl]
theorem R0 : d65 = VU := rfl
theorem Vs {n : Nat} {h : Hp} {u : Value} {l : List Nat} (V : h.Vals u (l.map bv)) (hl : l.length ≤ 900000) {e : Env} (s0 : AB 0 e = u) (s1 : AB 1 e = f33) (s7 : AB 7 e = .int .i64 (l.length : Int)) (s8 : AB 8 e = .int .i64 ((0 : Nat) : Int)) :
    (∃ e', Aj ifB (call AH (n + 1)) e h = .exit 0 e' h ∧ ∀ x ∈ l, x = 0) ∨ (∃ e' i, Aj ifB (call AH (n + 1)) e h = .ret e' h ∧ AB 4 e' = .int .i64 ((i : Nat) : Int) ∧ ∃ x ∈ l, x ≠ 0) := by
  refine CF (I := fun i e' h' => h' = h ∧ AB 0 e' = u ∧ AB 1 e' = f33 ∧ AB 7 e' = .int .i64 (l.length : Int) ∧ AB 8 e' = .int .i64 (i : Int) ∧ i ≤ l.length ∧ ((∀ x ∈ l, x = 0) ↔ ∀ x ∈ l.drop i, x = 0))
    (Q := fun x => (∃ e', x = .exit 0 e' h ∧ ∀ x ∈ l, x = 0) ∨ (∃ e' i, x = .ret e' h ∧ AB 4 e' = .int .i64 ((i : Nat) : Int) ∧ ∃ x ∈ l, x ≠ 0)) l.length (by omega) (fun i e' h' ⟨hh, t0, t1, t7, t8, hi, hr⟩ => ?_) ⟨rfl, s0, s1, s7, s8, Nat.zero_le _, by simp⟩
  subst hh
  by_cases hlt : i < l.length
  · obtain ⟨a, g1, g2⟩ := Gk V hlt
    have hmem : l.getD i 0 ∈ l := by
      rw [List.getD_eq_getElem?_getD, List.getElem?_eq_getElem hlt]; exact List.getElem_mem hlt
    rw [Eq hlt] at hr
    generalize l.getD i 0 = c at g2 hr hmem
    have c1 := IH hlt
    have k1 := RX (n := n) (h := h') (c := c)
    by_cases hc : c = 0
    · left
      subst hc
      have k1 : call AH (n + 1) 33 [.int .u8 ((0 : Nat) : Int)] h' = .ok (.bool false) h' := k1
      have a3 := G1 (i := i) (h := h') (by omega)
      have hrun : ∃ e2, ifB (call AH (n + 1)) e' h' = .norm e2 h' ∧ AB 0 e2 = u ∧ AB 1 e2 = f33 ∧ AB 7 e2 = .int .i64 (l.length : Int) ∧ AB 8 e2 = .int .i64 ((i + 1 : Nat) : Int) := by
        unfold ifB
        simp only [sT, Nat.reduceLT, Nat.reduceEqDiff, if_true, if_false, reduceIte, Ae, Ad, t8, t7, c1, CO, t0, g1, Au, g2, KZ, t1, Jz, Ah, Ax, List.nil_append, List.append_nil, k1, Bt, a3]
        exact ⟨_, rfl, by simp only [AF, Nat.reduceLT, Nat.reduceEqDiff, if_true, if_false, reduceIte]; exact t0, by simp only [AF, Nat.reduceLT, Nat.reduceEqDiff, if_true, if_false, reduceIte]; exact t1, by simp only [AF, Nat.reduceLT, Nat.reduceEqDiff, if_true, if_false, reduceIte]; exact t7, by simp [AF]⟩
      obtain ⟨e2, q1, q2, q3, q4, q5⟩ := hrun
      refine ⟨hlt, e2, h', q1, rfl, q2, q3, q4, q5, hlt, hr.trans ?_⟩
      simp
    · right
      have c2 : iNe (c : Int) 0 = true := by rw [GW]; simpa using hc
      rw [c2] at k1
      have hrun : ∃ e2, ifB (call AH (n + 1)) e' h' = .ret e2 h' ∧ AB 4 e2 = .int .i64 (i : Int) := by
        unfold ifB
        simp only [sT, Nat.reduceLT, Nat.reduceEqDiff, if_true, if_false, reduceIte, Ae, Ad, t8, t7, c1, CO, t0, g1, Au, g2, KZ, t1, Jz, Ah, Ax, List.nil_append, List.append_nil, k1]
        exact ⟨_, rfl, by simp [AF]⟩
      obtain ⟨e2, q1, q2⟩ := hrun
      rw [q1]
      exact ⟨rfl, .inr ⟨e2, i, rfl, q2, c, hmem, hc⟩⟩
  · right
    have c1 := FU (show l.length ≤ i by omega)
    have hrun : ∃ e2, ifB (call AH (n + 1)) e' h' = .exit 0 e2 h' := by
      unfold ifB
      simp only [sT, Nat.reduceLT, Nat.reduceEqDiff, if_true, if_false, reduceIte, Ae, Ad, t8, t7, c1]
      exact ⟨_, rfl⟩
    obtain ⟨e2, q1⟩ := hrun
    rw [q1]
    refine ⟨rfl, .inl ⟨e2, rfl, hr.2 ?_⟩⟩
    rw [List.drop_of_length_le (by omega)]
    intro x hx; cases hx
theorem P5 {n : Nat} {h : Hp} {u : Value} {l : List Nat} (V : h.Vals u (l.map bv)) (hl : l.length ≤ 900000) : ∃ r : Bool, call AH (n + 3) 34 [u, f33] h = .ok (.bool r) h ∧ (r = true ↔ ∃ x ∈ l, x ≠ 0) := by
  have Vl := V.bl h
  have pre : ∃ e1, VU (call AH (n + 1)) (Av e0 0 [u, f33]) h = ifS (call AH (n + 1)) e1 h ∧ AB 0 e1 = u ∧ AB 1 e1 = f33 ∧ AB 7 e1 = .int .i64 (l.length : Int) ∧ AB 8 e1 = .int .i64 ((0 : Nat) : Int) := by
    unfold VU
    simp only [Aa, Ab, Nat.succ_eq_add_one, Nat.zero_add, Nat.reduceAdd, sT, Nat.reduceLT, Nat.reduceEqDiff, if_true, if_false, reduceIte, Az, Vl]
    exact ⟨_, rfl, by simp [AF], by simp [AF], by simp [AF], by simp only [AF, Nat.reduceLT, Nat.reduceEqDiff, if_true, if_false, reduceIte]; rfl⟩
  obtain ⟨e1, p1, p2, p3, p4, p5⟩ := pre
  rcases Vs (n := n) V hl p2 p3 p4 p5 with ⟨e2, q1, q2⟩ | ⟨e2, i, q1, q2, q3⟩
  · have k1 : call AH (n + 2) 65 [u, f33] h = .ok (.int .i64 (-1)) h := by
      rw [Rm rfl, R0, p1, SS]
      simp only [Bj, BI, q1, BN, Bd]
      unfold ifE
      simp only [sT, Nat.reduceLT, Nat.reduceEqDiff, if_true, if_false, reduceIte, Ak, A1]
    refine ⟨false, ?_, by simp; exact q2⟩
    have c1 : iGe (-1) 0 = false := PL (by omega)
    rw [Rk rfl]
    unfold d34
    simp only [Aa, Ab, Nat.succ_eq_add_one, Nat.zero_add, Nat.reduceAdd, sT, Nat.reduceLT, Nat.reduceEqDiff, if_true, if_false, reduceIte, Ay, Ah, Ax, k1, Ae, Ad, c1, Ak, A1]
  · have k1 : call AH (n + 2) 65 [u, f33] h = .ok (.int .i64 (i : Int)) h := by
      rw [Rm rfl, R0, p1, SS]
      simp only [Bj, BI, q1, Bf, DL, Ak, A1, q2]
    refine ⟨true, ?_, by simp only [true_iff]; exact q3⟩
    have c1 : iGe (i : Int) 0 = true := PM (by omega)
    rw [Rk rfl]
    unfold d34
    simp only [Aa, Ab, Nat.succ_eq_add_one, Nat.zero_add, Nat.reduceAdd, sT, Nat.reduceLT, Nat.reduceEqDiff, if_true, if_false, reduceIte, Ay, Ah, Ax, k1, Ae, Ad, c1, Ak, A1]
theorem Rw {h : Hp} {k m : Nat} {v : Value} {l : List Nat} (M : Mk h k v l) (hm : m ≤ l.length) : ∃ w, (∀ (F : CallF) (e : Env) (x y : O), x e = v → y e = .int .i64 (m : Int) → EM 5 1 x (some y) none none F e h = .ok w h) ∧ h.Vals w ((l.drop m).map bv) := by
  obtain ⟨b, el, hv, hel, Rb, _⟩ := M
  have hdl : (l.drop m).length = l.length - m := List.length_drop
  have key : ∀ (F : CallF) (e : Env) (x y : O), x e = v → y e = .int .i64 (m : Int) → EM 5 1 x (some y) none none F e h = He 5 1 (some ⟨b, 0, none⟩) false m l.length l.length h := fun F e x y hx hy => by
    have hb : ∀ K : Nat → R, DE e (some y) 0 l.length K = K m := fun K => by
      show (match Cy (y e) with | .ok n => (bif Nat.ble n l.length then K n else .no) | .no => .no) = _
      rw [hy, Dv]
      simp only
      rw [Ap.2 hm]; rfl
    show (match x e with | .slice a n c => E5 e n c (some y) none none (fun l hh m => He 5 1 a false l hh m h) | _ => .no) = _
    rw [hx, hv]
    show DE e none l.length l.length (fun hh => DE e (some y) 0 hh fun l' => He 5 1 (some ⟨b, 0, none⟩) false l' hh l.length h) = _
    show DE e (some y) 0 l.length (fun l' => He 5 1 (some ⟨b, 0, none⟩) false l' l.length l.length h) = _
    rw [hb]
  have key2 : He 5 1 (some ⟨b, 0, none⟩) false m l.length l.length h = CQ (some ⟨b, 0, none⟩) 1 m l.length l.length h := by
    cases m with
    | zero => rfl
    | succ m =>
      show (bif GJ 5 (some ⟨b, 0, none⟩) h then CQ (some ⟨b, 0, none⟩) 1 (m + 1) l.length l.length h else .no) = _
      have : GJ 5 (some ⟨b, 0, none⟩) h = true := by
        obtain ⟨cc, hcc, _⟩ := Rb.rowOf
        unfold GJ
        simp only [hcc]
        rcases hel with rfl | rfl <;> rfl
      rw [this]; rfl
  rcases Nat.lt_or_ge m l.length with hlt | hge
  · refine ⟨.slice (some ⟨b, m, none⟩) (l.length - m) (l.length - m), ?_, .inr ⟨b, m, l.length - m, el, _, by rw [List.length_map, hdl], Rb, by rw [List.length_map, List.length_map, hdl]; omega, ?_⟩⟩
    · intro F e x y hx hy
      rw [key F e x y hx hy, key2]
      unfold CQ
      simp only [Ao]
      have e1 : Nat.beq l.length m = false := by
        cases e : Nat.beq l.length m
        · rfl
        · have := AZ.1 e; omega
      rw [e1]
      cases m with
      | zero => rfl
      | succ m =>
        have e2 : Nat.mul (m + 1) 1 = Nat.succ m := Nat.mul_one _
        simp only [e2, Nat.add_eq, Nat.zero_add]; rfl
    · rw [List.length_map, hdl, ← List.map_drop, List.take_of_length_le (by rw [List.length_map, hdl]; exact Nat.le_refl _)]
  · have hml : m = l.length := by omega
    subst hml
    refine ⟨.slice (some ⟨b, 0, none⟩) 0 0, ?_, .inr ⟨b, 0, 0, el, _, by rw [List.drop_length]; rfl, Rb, by rw [List.drop_length]; exact Nat.zero_le _, by rw [List.drop_length]; rfl⟩⟩
    intro F e x y hx hy
    rw [key F e x y hx hy, key2]
    unfold CQ
    simp only [Ao, Nat.sub_eq, Nat.sub_self, Nat.beq_refl]
end
end Go.Proofs.YtfeldadhbnmklaaGreat
set_option linter.unusedVariables false
set_option linter.unusedSimpArgs false
namespace Go.Proofs.YtfeldadhbnmklaaGreat
noncomputable section
open Go
set_option maxRecDepth 100000
def paB : C := (cOp (AD 30) (AM iLt .i64 (AB 29) (kV (.int .i64 6)))
(AJ (AB 30)
(Al (AK 1 (cOp (AD 12) (AC (AB 29))
(cOp (AD 36) (AL 32 [(AB 8), (AB 11)])
(cOp (AD 37) (AN 0 (AB 36))
(cOp (AD 38) (AN 1 (AB 36))
(cOp (AD 39) (AN 2 (AB 36))
(cOp (AD 40) (A4 6 1 (AB 10) (AB 12))
(cDo (AP 1 (AB 40) (AB 37))
(cOp (AD 11) (AC (AB 38))
(cOp (AD 9) (AC (AB 39))
(cOp (AD 42) (AM iNe .i64 (AB 9) (kV (.int .i64 0)))
(cG (AB 42) false (AD 44) (AC (AB 12))
(cG (AB 42) false (AD 45) (A4 6 1 (AB 10) (AB 44))
(cG (AB 42) false (AD 46) (AG (AB 45))
(cG (AB 42) false (AD 47) (AM iGt .u64 (AB 46) (kV (.int .u64 1099511627776)))
(cOp (AD 48) (AW (AB 42) (kV (.bool true)) (AB 47))
(AJ (AB 48)
(cOp (AD 49) (BA Cv.zero [])
(cDo (AP 5 (AB 4) (AB 49))
(cOp (AD 5) (AC (kV (.int .i64 0)))
(cOp (AD 6) (AC (kV (.int .u32 0)))
(cOp (AD 7) (AC (kV (.bool false)))
AU)))))
AO)))))))))))))))))
(cOp (AD 50) (Ai .i64 (AQ .i64) (AB 29) (kV (.int .i64 1)))
(cOp (AD 29) (AC (AB 50))
AO)))
(At 0)))
def paE : C := (cOp (AD 51) (A4 6 1 (AB 10) (kV (.int .i64 0)))
(cOp (AD 52) (AG (AB 51))
(cOp (AD 53) (II (AB 52) (kV (.int .u64 9)))
(cOp (AD 54) (An .u8 (AB 53))
(cOp (AD 55) (A4 6 1 (AB 10) (kV (.int .i64 1)))
(cOp (AD 56) (AG (AB 55))
(cOp (AD 57) (An .i64 (AB 56))
(cOp (AD 58) (A4 6 1 (AB 10) (kV (.int .i64 2)))
(cOp (AD 59) (AG (AB 58))
(cOp (AD 60) (An .i64 (AB 59))
(cOp (AD 61) (A4 6 1 (AB 10) (kV (.int .i64 3)))
(cOp (AD 62) (AG (AB 61))
(cOp (AD 63) (An .i64 (AB 62))
(cOp (AD 64) (BA Cv.zero [(3, 1, (AB 54)), (0, 1, (AB 57)), (1, 1, (AB 60)), (2, 1, (AB 63))])
(cOp (AD 13) (A9 5 Bx)
(cDo (AP 5 (AB 13) (AB 64))
(cOp (AD 14) (AC (kV (.func (.func 33) #[] #[])))
(cOp (AD 65) (Ac 5 (AB 13))
(cOp (AD 66) (AL 24 [(AB 65)])
(cOp (AD 67) (Bo (AB 66))
(cG (AB 67) false (AD 69) (A4 6 1 (AB 10) (kV (.int .i64 4)))
(cG (AB 67) false (AD 70) (AG (AB 69))
(cG (AB 67) false (AD 71) (AM iGt .u64 (AB 70) (kV (.int .u64 65536)))
(cOp (AD 72) (AW (AB 67) (kV (.bool true)) (AB 71))
(cG (AB 72) false (AD 74) (A4 6 1 (AB 10) (kV (.int .i64 5)))
(cG (AB 72) false (AD 75) (AG (AB 74))
(cG (AB 72) false (AD 76) (AM iGt .u64 (AB 75) (kV (.int .u64 4294967295)))
(cOp (AD 77) (AW (AB 72) (kV (.bool true)) (AB 76))
(cG (AB 77) false (AD 79) (AC (AB 8))
(cG (AB 77) false (AD 80) (AC (AB 11))
(cG (AB 77) false (AD 81) (EM 5 1 (AB 79) (some (AB 80)) none none)
(cG (AB 77) false (AD 82) (AC (AB 14))
(cG (AB 77) false (AD 83) (AL 34 [(AB 81), (AB 82)])
(cOp (AD 84) (AW (AB 77) (kV (.bool true)) (AB 83))
(AJ (AB 84)
(cOp (AD 85) (BA Cv.zero [])
(cDo (AP 5 (AB 4) (AB 85))
(cOp (AD 5) (AC (kV (.int .i64 0)))
(cOp (AD 6) (AC (kV (.int .u32 0)))
(cOp (AD 7) (AC (kV (.bool false)))
AU)))))
(Ar (cOp (AD 86) (Ac 5 (AB 13))
(cOp (AD 87) (A4 6 1 (AB 10) (kV (.int .i64 4)))
(cOp (AD 88) (AG (AB 87))
(cOp (AD 89) (An .i64 (AB 88))
(cOp (AD 90) (A4 6 1 (AB 10) (kV (.int .i64 5)))
(cOp (AD 91) (AG (AB 90))
(cOp (AD 92) (An .u32 (AB 91))
(B7 (AB 4) [(AB 87), (AB 90)]
(cDo (Hm (AB 4) (AP 5 (AB 4) (AB 86)))
(cOp (AD 5) (AC (AB 89))
(cOp (AD 6) (AC (AB 92))
(cOp (AD 7) (AC (kV (.bool true)))
AU))))))))))))))))))))))))))))))))))))))))))))))))
def paS : C := (Al (AK 0 (Aj (cOp (AD 30) (AM iLt .i64 (AB 29) (kV (.int .i64 6)))
(AJ (AB 30)
(Al (AK 1 (cOp (AD 12) (AC (AB 29))
(cOp (AD 36) (AL 32 [(AB 8), (AB 11)])
(cOp (AD 37) (AN 0 (AB 36))
(cOp (AD 38) (AN 1 (AB 36))
(cOp (AD 39) (AN 2 (AB 36))
(cOp (AD 40) (A4 6 1 (AB 10) (AB 12))
(cDo (AP 1 (AB 40) (AB 37))
(cOp (AD 11) (AC (AB 38))
(cOp (AD 9) (AC (AB 39))
(cOp (AD 42) (AM iNe .i64 (AB 9) (kV (.int .i64 0)))
(cG (AB 42) false (AD 44) (AC (AB 12))
(cG (AB 42) false (AD 45) (A4 6 1 (AB 10) (AB 44))
(cG (AB 42) false (AD 46) (AG (AB 45))
(cG (AB 42) false (AD 47) (AM iGt .u64 (AB 46) (kV (.int .u64 1099511627776)))
(cOp (AD 48) (AW (AB 42) (kV (.bool true)) (AB 47))
(AJ (AB 48)
(cOp (AD 49) (BA Cv.zero [])
(cDo (AP 5 (AB 4) (AB 49))
(cOp (AD 5) (AC (kV (.int .i64 0)))
(cOp (AD 6) (AC (kV (.int .u32 0)))
(cOp (AD 7) (AC (kV (.bool false)))
AU)))))
AO)))))))))))))))))
(cOp (AD 50) (Ai .i64 (AQ .i64) (AB 29) (kV (.int .i64 1)))
(cOp (AD 29) (AC (AB 50))
AO)))
(At 0)))))
(cOp (AD 51) (A4 6 1 (AB 10) (kV (.int .i64 0)))
(cOp (AD 52) (AG (AB 51))
(cOp (AD 53) (II (AB 52) (kV (.int .u64 9)))
(cOp (AD 54) (An .u8 (AB 53))
(cOp (AD 55) (A4 6 1 (AB 10) (kV (.int .i64 1)))
(cOp (AD 56) (AG (AB 55))
(cOp (AD 57) (An .i64 (AB 56))
(cOp (AD 58) (A4 6 1 (AB 10) (kV (.int .i64 2)))
(cOp (AD 59) (AG (AB 58))
(cOp (AD 60) (An .i64 (AB 59))
(cOp (AD 61) (A4 6 1 (AB 10) (kV (.int .i64 3)))
(cOp (AD 62) (AG (AB 61))
(cOp (AD 63) (An .i64 (AB 62))
(cOp (AD 64) (BA Cv.zero [(3, 1, (AB 54)), (0, 1, (AB 57)), (1, 1, (AB 60)), (2, 1, (AB 63))])
(cOp (AD 13) (A9 5 Bx)
(cDo (AP 5 (AB 13) (AB 64))
(cOp (AD 14) (AC (kV (.func (.func 33) #[] #[])))
(cOp (AD 65) (Ac 5 (AB 13))
(cOp (AD 66) (AL 24 [(AB 65)])
(cOp (AD 67) (Bo (AB 66))
(cG (AB 67) false (AD 69) (A4 6 1 (AB 10) (kV (.int .i64 4)))
(cG (AB 67) false (AD 70) (AG (AB 69))
(cG (AB 67) false (AD 71) (AM iGt .u64 (AB 70) (kV (.int .u64 65536)))
(cOp (AD 72) (AW (AB 67) (kV (.bool true)) (AB 71))
(cG (AB 72) false (AD 74) (A4 6 1 (AB 10) (kV (.int .i64 5)))
(cG (AB 72) false (AD 75) (AG (AB 74))
(cG (AB 72) false (AD 76) (AM iGt .u64 (AB 75) (kV (.int .u64 4294967295)))
(cOp (AD 77) (AW (AB 72) (kV (.bool true)) (AB 76))
(cG (AB 77) false (AD 79) (AC (AB 8))
(cG (AB 77) false (AD 80) (AC (AB 11))
(cG (AB 77) false (AD 81) (EM 5 1 (AB 79) (some (AB 80)) none none)
(cG (AB 77) false (AD 82) (AC (AB 14))
(cG (AB 77) false (AD 83) (AL 34 [(AB 81), (AB 82)])
(cOp (AD 84) (AW (AB 77) (kV (.bool true)) (AB 83))
(AJ (AB 84)
(cOp (AD 85) (BA Cv.zero [])
(cDo (AP 5 (AB 4) (AB 85))
(cOp (AD 5) (AC (kV (.int .i64 0)))
(cOp (AD 6) (AC (kV (.int .u32 0)))
(cOp (AD 7) (AC (kV (.bool false)))
AU)))))
(Ar (cOp (AD 86) (Ac 5 (AB 13))
(cOp (AD 87) (A4 6 1 (AB 10) (kV (.int .i64 4)))
(cOp (AD 88) (AG (AB 87))
(cOp (AD 89) (An .i64 (AB 88))
(cOp (AD 90) (A4 6 1 (AB 10) (kV (.int .i64 5)))
(cOp (AD 91) (AG (AB 90))
(cOp (AD 92) (An .u32 (AB 91))
(B7 (AB 4) [(AB 87), (AB 90)]
(cDo (Hm (AB 4) (AP 5 (AB 4) (AB 86)))
(cOp (AD 5) (AC (AB 89))
(cOp (AD 6) (AC (AB 92))
(cOp (AD 7) (AC (kV (.bool true)))
AU)))))))))))))))))))))))))))))))))))))))))))))))))
theorem Oa : paS = Al (AK 0 (Aj paB)) paE := rfl
def Lv : C := (cOp (AD 4) (A9 5 Bx)
(cOp (AD 5) (AC (kV (.int .i64 0)))
(cOp (AD 6) (AC (kV (.int .u32 0)))
(cOp (AD 7) (AC (kV (.bool false)))
(cOp (AD 18) (AL 31 [(AB 0), (AB 1)])
(cOp (AD 19) (AN 0 (AB 18))
(cOp (AD 20) (AN 1 (AB 18))
(cOp (AD 8) (AC (AB 19))
(cOp (AD 9) (AC (AB 20))
(cOp (AD 22) (AM iNe .i64 (AB 9) (kV (.int .i64 0)))
(cG (AB 22) false (AD 24) (AC (AB 8))
(cG (AB 22) false (AD 25) (Aw (AB 24))
(cG (AB 22) false (AD 26) (AM iNe .i64 (AB 25) (kV (.int .i64 60)))
(cOp (AD 27) (AW (AB 22) (kV (.bool true)) (AB 26))
(AJ (AB 27)
(cOp (AD 28) (BA Cv.zero [])
(cDo (AP 5 (AB 4) (AB 28))
(cOp (AD 5) (AC (kV (.int .i64 0)))
(cOp (AD 6) (AC (kV (.int .u32 0)))
(cOp (AD 7) (AC (kV (.bool false)))
AU)))))
(cOp (AD 10) (A9 6 Ow)
(cOp (AD 11) (AC (kV (.int .i64 0)))
(cOp (AD 29) (AC (kV (.int .i64 0)))
paS))))))))))))))))))
def d11 : C := Lv
theorem Io {n : Nat} {args : List Value} {h : Hp} (hl : Nat.ble (BR args) 320 = true) : call AH (Nat.succ n) 11 args h = Bs [.cN (AB 4) 5, .t (AB 5), .t (AB 6), .t (AB 7)] (d11 (call AH n) (Av e0 0 args) h) := by
  have hb : AH.get 11 = some b11 := by kernel_rfl
  rw [BQ hb]
  have hd : b11 = ⟨[.cN (AB 4) 5, .t (AB 5), .t (AB 6), .t (AB 7)], d11⟩ := by kernel_rfl
  rw [hd, BJ hl]
theorem Iw : d11 = Lv := rfl
theorem NA (k : Nat) (l : List Nat) (p : Nat) : rdN (k + 1) l p = (match Ds 0 0 (l.drop p) with
    | none => none
    | some (v, j) => if v ≤ 1099511627776 then (match rdN k l (p + j) with
      | none => none
      | some (vs, q) => some (v :: vs, q)) else none) := rfl
def Km (h : Hp) (r4 : Nat) (e : Env) (g : Hp) : Prop := h.Ext g ∧ AB 4 e = pt r4 ∧ AB 5 e = .int .i64 0 ∧ AB 6 e = .int .u32 0 ∧ AB 7 e = .bool false ∧ loadN 5 ⟨r4, 0, none⟩ g = .ok (BS 0 0 0 0 BK) g
theorem Wv {n : Nat} {h hB g : Hp} (W0 : h.Wf) (xB : h.Ext hB) (x : hB.Ext g) {r4 r10 : Nat} (hr4 : h.next ≤ r4) (hr10 : hB.next ≤ r10) (R4 : hB.Row r4 0 (Aq 0 0 0 0 BK)) {v : Value} {l : List Nat} (V : hB.Vals v (l.map bv)) (hb : ∀ x ∈ l, x < 256) (hl : l.length ≤ 900000)
    (R10 : g.Row r10 0 ([0, 0, 0, 0, 0, 0].map nv)) {e : Env} (s4 : AB 4 e = pt r4) (s8 : AB 8 e = v) (s10 : AB 10 e = pt r10) (s11 : AB 11 e = .int .i64 ((0 : Nat) : Int)) (s29 : AB 29 e = .int .i64 ((0 : Nat) : Int)) :
    (∃ e' g' ns q, Aj paB (call AH (n + 1)) e g = .exit 0 e' g' ∧ hB.Ext g' ∧ g'.Row r10 0 (ns.map nv) ∧ rdN 6 l 0 = some (ns, q) ∧ AB 4 e' = pt r4 ∧ AB 8 e' = v ∧ AB 10 e' = pt r10 ∧ AB 11 e' = .int .i64 (q : Int)) ∨
    (∃ e' g', Aj paB (call AH (n + 1)) e g = .ret e' g' ∧ rdN 6 l 0 = none ∧ Km h r4 e' g') := by
  have WB := xB.wf
  refine CF (I := fun i e' g' => hB.Ext g' ∧ ∃ (ns : List Nat) (Z : List Value) (p : Nat), ns.length = i ∧ Z.length = 6 - i ∧ g'.Row r10 0 (ns.map nv ++ Z) ∧ AB 4 e' = pt r4 ∧ AB 8 e' = v ∧ AB 10 e' = pt r10 ∧ AB 11 e' = .int .i64 (p : Int) ∧ AB 29 e' = .int .i64 (i : Int) ∧ p ≤ l.length ∧ i ≤ 6 ∧
      rdN 6 l 0 = (match rdN (6 - i) l p with | none => none | some (vs, q) => some (ns ++ vs, q)))
    (Q := fun x => (∃ e' g' ns q, x = .exit 0 e' g' ∧ hB.Ext g' ∧ g'.Row r10 0 (ns.map nv) ∧ rdN 6 l 0 = some (ns, q) ∧ AB 4 e' = pt r4 ∧ AB 8 e' = v ∧ AB 10 e' = pt r10 ∧ AB 11 e' = .int .i64 (q : Int)) ∨
      (∃ e' g', x = .ret e' g' ∧ rdN 6 l 0 = none ∧ Km h r4 e' g')) 6 (by omega) (fun i e' g' ⟨x', ns, Z, p, hns, hZ, R', t4, t8, t10, t11, t29, hp, hi, hr⟩ => ?_)
    ⟨x, [], _, 0, rfl, rfl, R10, s4, s8, s10, s11, s29, Nat.zero_le _, by omega, by
      rw [Nat.sub_zero]
      cases rdN 6 l 0 with
      | none => rfl
      | some y => rfl⟩
  by_cases hlt : i < 6
  · have W := x'.wf
    obtain ⟨k, hk⟩ : ∃ k, 6 - i = k + 1 := ⟨5 - i, by omega⟩
    obtain ⟨z, Z', rfl⟩ : ∃ z Z', Z = z :: Z' := by
      cases Z with
      | nil => rw [List.length_nil] at hZ; omega
      | cons z Z' => exact ⟨z, Z', rfl⟩
    rw [hk, NA k l p] at hr
    have c1 : iLt (i : Int) 6 = true := IH (b := 6) hlt
    obtain ⟨a, b, c, k1, G⟩ := aT (n := n) (V.ext WB x') hb hp (by omega)
    have i1 := MJ (r := r10) hlt (g := g')
    have hal : (ns.map nv).length = i := by rw [List.length_map]; exact hns
    have ho : i + [Value.int .u64 a].length ≤ (ns.map nv ++ z :: Z').length := by
      simp only [List.length_append, List.length_cons, List.length_nil, hal]; omega
    have h256 : 256 ≤ r10 := by have := WB.big; omega
    have st := R'.storeR (n := 1) (off := i) W h256 (v := .int .u64 a) rfl ho rfl
    rw [Hc] at st
    have wr := R'.wr_self W (off := i) (vs := [.int .u64 a]) ho
    have x2 := R'.wr_ext x' hr10 (off := i) (vs := [.int .u64 a]) ho
    have hov : over (ns.map nv ++ z :: Z') i [.int .u64 a] = ns.map nv ++ .int .u64 a :: Z' := by
      have := Mx (A := ns.map nv) (B := Z') (x := z) (y := .int .u64 a)
      rwa [hal] at this
    rw [hov] at wr
    generalize g'.wr r10 i [.int .u64 a] = g2 at st wr x2
    have i2 := MJ (r := r10) hlt (g := g2)
    have l2 : load1 ⟨r10, i, none⟩ g2 = .ok (.int .u64 a) g2 := by
      rw [wr.load1 (off := i) (by simp only [List.length_append, List.length_cons, hal]; omega), List.getD_eq_getElem?_getD, List.getElem?_append_right (by rw [hal]; exact Nat.le_refl _), hal, Nat.sub_self]; rfl
    have a3 := G1 (i := i) (h := g2) (by omega)
    obtain ⟨w1, w2, w3, _, _⟩ := IJ W0 (xB.trans x2) hr4 (R4.ext WB x2) rfl (a := 0) (b := 0) (c := 0) (s := 0) (u := BK) rfl
    have fail : rdN 6 l 0 = none → (iNe c 0 = true ∨ iNe c 0 = false ∧ iGt a 1099511627776 = true) → ∃ e2, paB (call AH (n + 1)) e' g' = .ret e2 (g2.wr r4 0 (Aq 0 0 0 0 BK)) ∧ AB 4 e2 = pt r4 ∧ AB 5 e2 = .int .i64 0 ∧ AB 6 e2 = .int .u32 0 ∧ AB 7 e2 = .bool false := fun _ hc => by
      unfold paB
      rcases hc with c2 | ⟨c2, c3⟩
      · simp only [sT, Nat.reduceLT, Nat.reduceEqDiff, if_true, if_false, reduceIte, gD, Ae, Ad, t29, c1, Ay, Ah, Ax, t8, t11, k1, Bw, CD, CE, C4, CT, t10, i1, BL, st, c2, Br, t4, w1]
        exact ⟨_, rfl, by simp only [AF, Nat.reduceLT, Nat.reduceEqDiff, if_true, if_false, reduceIte]; exact t4, by simp [AF], by simp [AF], by simp [AF]⟩
      · simp only [sT, Nat.reduceLT, Nat.reduceEqDiff, if_true, if_false, reduceIte, gD, Ae, Ad, t29, c1, Ay, Ah, Ax, t8, t11, k1, Bw, CD, CE, C4, CT, t10, i1, BL, st, c2, i2, Au, A5, l2, c3, Br, t4, w1]
        exact ⟨_, rfl, by simp only [AF, Nat.reduceLT, Nat.reduceEqDiff, if_true, if_false, reduceIte]; exact t4, by simp [AF], by simp [AF], by simp [AF]⟩
    rcases G with ⟨vv, j, hu, rfl, rfl, rfl⟩ | ⟨hu, hc⟩
    · rw [hu] at hr
      simp only at hr
      have c2 : iNe 0 0 = false := H6 rfl
      by_cases hv : vv ≤ 1099511627776
      · left
        rw [if_pos hv] at hr
        have c3 : iGt (vv : Int) 1099511627776 = false := Fg (by omega)
        have hbd : ∀ x ∈ l.drop p, x < 256 := fun x hx => hb x (List.mem_of_mem_drop hx)
        have hj := Tz hbd hu
        rw [List.length_drop] at hj
        have hrun : ∃ e2, paB (call AH (n + 1)) e' g' = .norm e2 g2 ∧ AB 4 e2 = pt r4 ∧ AB 8 e2 = v ∧ AB 10 e2 = pt r10 ∧ AB 11 e2 = .int .i64 ((p + j : Nat) : Int) ∧ AB 29 e2 = .int .i64 ((i + 1 : Nat) : Int) := by
          unfold paB
          simp only [sT, Nat.reduceLT, Nat.reduceEqDiff, if_true, if_false, reduceIte, gD, Ae, Ad, t29, c1, Ay, Ah, Ax, t8, t11, k1, Bw, CD, CE, C4, CT, t10, i1, BL, st, c2, i2, Au, A5, l2, c3, Bt, a3]
          exact ⟨_, rfl, by simp only [AF, Nat.reduceLT, Nat.reduceEqDiff, if_true, if_false, reduceIte]; exact t4, by simp only [AF, Nat.reduceLT, Nat.reduceEqDiff, if_true, if_false, reduceIte]; exact t8, by simp only [AF, Nat.reduceLT, Nat.reduceEqDiff, if_true, if_false, reduceIte]; exact t10, by simp [AF], by simp [AF]⟩
        obtain ⟨e2, q1, q2, q3, q4, q5, q6⟩ := hrun
        refine ⟨hlt, e2, g2, q1, x2, ns ++ [vv], Z', p + j, by rw [List.length_append, hns]; rfl, by rw [List.length_cons] at hZ; omega, ?_, q2, q3, q4, q5, q6, by omega, by omega, ?_⟩
        · rw [List.map_append, List.append_assoc]; exact wr
        · rw [hr, show 6 - (i + 1) = k by omega]
          cases rdN k l (p + j) with
          | none => rfl
          | some y =>
            obtain ⟨vs, q⟩ := y
            show some (ns ++ vv :: vs, q) = some (ns ++ [vv] ++ vs, q)
            rw [List.append_assoc]; rfl
      · right
        rw [if_neg hv] at hr
        have hr : rdN 6 l 0 = none := hr
        obtain ⟨e2, q1, q2, q3, q4, q5⟩ := fail hr (.inr ⟨c2, Fh (by omega)⟩)
        rw [q1]
        exact ⟨rfl, .inr ⟨e2, _, rfl, hr, w3, q2, q3, q4, q5, w2⟩⟩
    · right
      rw [hu] at hr
      have hr : rdN 6 l 0 = none := hr
      obtain ⟨e2, q1, q2, q3, q4, q5⟩ := fail hr (.inl (PP hc))
      rw [q1]
      exact ⟨rfl, .inr ⟨e2, _, rfl, hr, w3, q2, q3, q4, q5, w2⟩⟩
  · right
    have hi6 : i = 6 := by omega
    subst hi6
    have c1 : iLt ((6 : Nat) : Int) 6 = false := FU (a := 6) (b := 6) (by omega)
    have hrun : ∃ e2, paB (call AH (n + 1)) e' g' = .exit 0 e2 g' ∧ AB 4 e2 = pt r4 ∧ AB 8 e2 = v ∧ AB 10 e2 = pt r10 ∧ AB 11 e2 = .int .i64 (p : Int) := by
      unfold paB
      simp only [sT, Nat.reduceLT, Nat.reduceEqDiff, if_true, if_false, reduceIte, Ae, Ad, t29, c1]
      exact ⟨_, rfl, by simp only [AF, Nat.reduceLT, Nat.reduceEqDiff, if_true, if_false, reduceIte]; exact t4, by simp only [AF, Nat.reduceLT, Nat.reduceEqDiff, if_true, if_false, reduceIte]; exact t8, by simp only [AF, Nat.reduceLT, Nat.reduceEqDiff, if_true, if_false, reduceIte]; exact t10, by simp only [AF, Nat.reduceLT, Nat.reduceEqDiff, if_true, if_false, reduceIte]; exact t11⟩
    obtain ⟨e2, q1, q2, q3, q4, q5⟩ := hrun
    rw [q1]
    have hZ0 : Z = [] := List.eq_nil_of_length_eq_zero hZ
    rw [hZ0, List.append_nil] at R'
    have hr : rdN 6 l 0 = some (ns ++ [], p) := hr
    rw [List.append_nil] at hr
    exact ⟨rfl, .inl ⟨e2, g', ns, p, rfl, x', R', hr, q2, q3, q4, q5⟩⟩
theorem Re {F : CallF} {e : Env} {h : Hp} {x y z : O} {k : C} {a b c i j m : Nat} (hx : x e = .pointer (some ⟨a, i, none⟩)) (hy : y e = .pointer (some ⟨b, j, none⟩)) (hz : z e = .pointer (some ⟨c, m, none⟩)) (h1 : b ≠ a) (h2 : c ≠ a) : B7 x [y, z] k F e h = k F e h := by
  have n1 : Nat.beq b a = false := by
    cases e : Nat.beq b a
    · rfl
    · exact absurd (AZ.1 e) h1
  have n2 : Nat.beq c a = false := by
    cases e : Nat.beq c a
    · rfl
    · exact absurd (AZ.1 e) h2
  unfold B7
  rw [hx]
  show (bif DS a e [y, z] then k F e h else .no) = _
  have : DS a e [y, z] = true := by
    unfold DS
    rw [hy]
    show (bif Nat.beq b a then false else DS a e [z]) = true
    rw [n1]
    unfold DS
    rw [hz]
    show (bif Nat.beq c a then false else DS a e []) = true
    rw [n2]; rfl
  rw [this]; rfl
theorem Pi {F : CallF} {e : Env} {h : Hp} (W : h.Wf) {x y : O} {r : Nat} {L : List Value} {a b c : Int} {s : Nat} {u : Value} (hx : x e = pt r) (hy : y e = BS a b c s u) (R : h.Row r 0 L) (hL : L.length = 5) (h256 : 256 ≤ r) (hu : Dr u = true) :
    Hm x (AP 5 x y) F e h = .ok noRes (h.back (h.quiet.wr r 0 (Aq a b c s u))) := by
  have Rq : h.quiet.Row r 0 L := R.same rfl
  have ho : 0 + (Aq a b c s u).length ≤ L.length := by rw [hL]; show 0 + 5 ≤ 5; omega
  have h1 : B6 (Aq a b c s u) = true := by
    show (bif Dr u then true else false) = true
    rw [hu]; rfl
  have st := Rq.storeR (n := 5) (off := 0) W.quiet h256 (v := BS a b c s u) rfl ho h1
  have st : storeR 5 (pt r) (BS a b c s u) h.quiet = .ok noRes (h.quiet.wr r 0 (Aq a b c s u)) := st
  obtain ⟨cc, _, hw, _⟩ := Rq.wr_is ho
  have hlow : (h.quiet.wr r 0 (Aq a b c s u)).low = r := by
    rw [hw]
    show Bh h.next r = r
    have := R.lt W
    rw [BU]; omega
  have hhigh : (h.quiet.wr r 0 (Aq a b c s u)).high = r := by
    rw [hw]
    show CS 0 r = r
    rw [CI]; omega
  show (match AP 5 x y F e h.quiet with | .ok v h' => bif P3 (blkOf (x e)) h h'.low h'.high then D0 h v h' else .no | .no => .no) = _
  rw [BL, hx, hy, st]
  show (bif P3 (.ok r) h (h.quiet.wr r 0 (Aq a b c s u)).low (h.quiet.wr r 0 (Aq a b c s u)).high then D0 h noRes (h.quiet.wr r 0 (Aq a b c s u)) else .no) = _
  rw [hlow, hhigh]
  have : P3 (.ok r) h r r = true := by
    show (bif Nat.ble r r then Nat.ble r r else false) = true
    rw [Ap.2 (Nat.le_refl r)]; rfl
  rw [this]
  show D0 h noRes (h.quiet.wr r 0 (Aq a b c s u)) = _
  unfold D0
  simp only [Ao]; rfl
end
end Go.Proofs.YtfeldadhbnmklaaGreat
set_option linter.unusedVariables false
set_option linter.unusedSimpArgs false
namespace Go.Proofs.YtfeldadhbnmklaaGreat
noncomputable section
open Go
set_option maxRecDepth 100000
def Ok4 (h : Hp) (r4 : Nat) (ns : List Nat) (e : Env) (g : Hp) : Prop := h.Ext g ∧ AB 4 e = pt r4 ∧ AB 5 e = .int .i64 (at6 ns 4 : Nat) ∧ AB 6 e = .int .u32 (at6 ns 5 : Nat) ∧ AB 7 e = .bool true ∧ loadN 5 ⟨r4, 0, none⟩ g = .ok (BS (at6 ns 1) (at6 ns 2) (at6 ns 3) (at6 ns 0) BK) g
theorem GA {h g : Hp} {r4 : Nat} {e : Env} (D : Km h r4 e g) : Bs [.cN (AB 4) 5, .t (AB 5), .t (AB 6), .t (AB 7)] (.ret e g) = .ok noT g := by
  obtain ⟨_, h4, h5, h6, h7, hl⟩ := D
  rw [Ak, KA (v := BS 0 0 0 0 BK) (by rw [h4]; exact hl), h5, h6, h7]; rfl
theorem S9 {h g : Hp} {r4 : Nat} {ns : List Nat} {e : Env} (D : Ok4 h r4 ns e g) : Bs [.cN (AB 4) 5, .t (AB 5), .t (AB 6), .t (AB 7)] (.ret e g) = .ok (okT ns) g := by
  obtain ⟨_, h4, h5, h6, h7, hl⟩ := D
  rw [Ak, KA (v := BS (at6 ns 1) (at6 ns 2) (at6 ns 3) (at6 ns 0) BK) (by rw [h4]; exact hl), h5, h6, h7]; rfl
theorem fK {n : Nat} {h hB g : Hp} (W0 : h.Wf) (xB : h.Ext hB) (x : hB.Ext g) {r4 r10 k q : Nat} (hr4 : h.next ≤ r4) (hr410 : r10 ≠ r4) (R4 : hB.Row r4 0 (Aq 0 0 0 0 BK)) {v : Value} {l ns : List Nat} (M : Mk hB k v l) (hl : l.length ≤ 900000) (hq : q ≤ l.length)
    (R10 : g.Row r10 0 (ns.map nv)) (h6 : ns.length = 6) (hns : ∀ v ∈ ns, v ≤ 1099511627776) {e : Env} (s4 : AB 4 e = pt r4) (s8 : AB 8 e = v) (s10 : AB 10 e = pt r10) (s11 : AB 11 e = .int .i64 (q : Int)) :
    (LN ns ∧ (∀ x ∈ l.drop q, x = 0) ∧ ∃ e2 g2, paE (call AH (n + 3)) e g = .ret e2 g2 ∧ Ok4 h r4 ns e2 g2) ∨ (¬ (LN ns ∧ ∀ x ∈ l.drop q, x = 0) ∧ ∃ e2 g2, paE (call AH (n + 3)) e g = .ret e2 g2 ∧ Km h r4 e2 g2) := by
  have W := x.wf
  have WB := xB.wf
  have hat : ∀ i, at6 ns i ≤ 1099511627776 := fun i => by
    unfold at6
    rw [List.getD_eq_getElem?_getD]
    cases h : ns[i]? with
    | none => exact Nat.zero_le _
    | some y => exact hns y (List.mem_of_getElem? h)
  have i0 : ∀ g : Hp, Js 6 1 (pt r10) (.int .i64 0) g = .ok (.pointer (some ⟨r10, 0, none⟩)) g := fun g => MJ (k := 0) (by omega)
  have i1 : ∀ g : Hp, Js 6 1 (pt r10) (.int .i64 1) g = .ok (.pointer (some ⟨r10, 1, none⟩)) g := fun g => MJ (k := 1) (by omega)
  have i2 : ∀ g : Hp, Js 6 1 (pt r10) (.int .i64 2) g = .ok (.pointer (some ⟨r10, 2, none⟩)) g := fun g => MJ (k := 2) (by omega)
  have i3 : ∀ g : Hp, Js 6 1 (pt r10) (.int .i64 3) g = .ok (.pointer (some ⟨r10, 3, none⟩)) g := fun g => MJ (k := 3) (by omega)
  have i4 : ∀ g : Hp, Js 6 1 (pt r10) (.int .i64 4) g = .ok (.pointer (some ⟨r10, 4, none⟩)) g := fun g => MJ (k := 4) (by omega)
  have i5 : ∀ g : Hp, Js 6 1 (pt r10) (.int .i64 5) g = .ok (.pointer (some ⟨r10, 5, none⟩)) g := fun g => MJ (k := 5) (by omega)
  have l0 := Mc R10 h6 (k := 0) (by omega)
  have l1 := Mc R10 h6 (k := 1) (by omega)
  have l2 := Mc R10 h6 (k := 2) (by omega)
  have l3 := Mc R10 h6 (k := 3) (by omega)
  have a0 := hat 0
  have a1 := hat 1
  have a2 := hat 2
  have a3 := hat 3
  have a4 := hat 4
  have a5 := hat 5
  have hcast : min ((at6 ns 0 : Nat) : Int) 9 = ((min (at6 ns 0) 9 : Nat) : Int) := by omega
  have mn : ∀ (F : CallF) (e : Env), AB 52 e = .int .u64 ((at6 ns 0 : Nat) : Int) → II (AB 52) (kV (.int .u64 9)) F e g = .ok (.int .u64 ((min (at6 ns 0) 9 : Nat) : Int)) g := fun F e he => by rw [Sd he rfl, hcast]
  have v0 : CV .u8 (.int .u64 ((min (at6 ns 0) 9 : Nat) : Int)) g = .ok (.int .u8 ((min (at6 ns 0) 9 : Nat) : Int)) g := by rw [Bp, DO, Nat.mod_eq_of_lt (by omega)]
  have cv : ∀ (i : Nat) (g : Hp), CV .i64 (.int .u64 ((at6 ns i : Nat) : Int)) g = .ok (.int .i64 ((at6 ns i : Nat) : Int)) g := fun i g => by rw [Bp, Bc (by have := hat i; omega)]
  have bd : ∀ (F : CallF) (e : Env), AB 54 e = .int .u8 ((min (at6 ns 0) 9 : Nat) : Int) → AB 57 e = .int .i64 ((at6 ns 1 : Nat) : Int) → AB 60 e = .int .i64 ((at6 ns 2 : Nat) : Int) → AB 63 e = .int .i64 ((at6 ns 3 : Nat) : Int) →
      BA Cv.zero [(3, 1, AB 54), (0, 1, AB 57), (1, 1, AB 60), (2, 1, AB 63)] F e g = .ok (BS (at6 ns 1) (at6 ns 2) (at6 ns 3) (min (at6 ns 0) 9) BK) g := fun F e h1 h2 h3 h4 => O1 h1 h2 h3 h4
  have f1 := fun (F : CallF) (e : Env) => DB (F := F) (e := e) (n := 5) (t := Bx) W
  have x1 := (Hp.Ext.refl W).push (.cells Bx 5 0)
  have R13 : (g.push (.cells Bx 5 0)).Row g.next 0 (Aq 0 0 0 0 BK) := Hp.Row.alloc W GC rfl
  generalize g.push (.cells Bx 5 0) = g1 at f1 x1 R13
  obtain ⟨st, ld, x2, R13', _⟩ := IJ W x1 (Nat.le_refl _) R13 rfl (a := at6 ns 1) (b := at6 ns 2) (c := at6 ns 3) (s := min (at6 ns 0) 9) (u := BK) rfl
  generalize g1.wr g.next 0 (Aq (at6 ns 1) (at6 ns 2) (at6 ns 3) (min (at6 ns 0) 9) BK) = g2 at st ld x2 R13'
  have k24 := NF (n := n + 2) x2.wf (a := at6 ns 1) (b := at6 ns 2) (c := at6 ns 3) (s := min (at6 ns 0) 9) (m := 0) (u := BK) (fun _ => rfl)
  have y3 := (Hp.Ext.refl x2.wf).pushRow 0 (Aq (at6 ns 1) (at6 ns 2) (at6 ns 3) (min (at6 ns 0) 9) BK)
  generalize g2.pushRow 0 (Aq (at6 ns 1) (at6 ns 2) (at6 ns 3) (min (at6 ns 0) 9) BK) = g3 at k24 y3
  have x3 := x2.trans y3
  have xB3 := x.trans x3
  have xh3 := xB.trans xB3
  obtain ⟨w1, w2, w3, _, _⟩ := IJ W0 xh3 hr4 (R4.ext WB xB3) rfl (a := 0) (b := 0) (c := 0) (s := 0) (u := BK) rfl
  have R10' := R10.ext W x3
  have l4 := Mc R10' h6 (k := 4) (by omega)
  have l5 := Mc R10' h6 (k := 5) (by omega)
  have nok : ¬ (LN ns ∧ ∀ x ∈ l.drop q, x = 0) → (∃ e2, paE (call AH (n + 3)) e g = .ret e2 (g3.wr r4 0 (Aq 0 0 0 0 BK)) ∧ AB 4 e2 = pt r4 ∧ AB 5 e2 = .int .i64 0 ∧ AB 6 e2 = .int .u32 0 ∧ AB 7 e2 = .bool false) →
      (LN ns ∧ (∀ x ∈ l.drop q, x = 0) ∧ ∃ e2 g2, paE (call AH (n + 3)) e g = .ret e2 g2 ∧ Ok4 h r4 ns e2 g2) ∨ (¬ (LN ns ∧ ∀ x ∈ l.drop q, x = 0) ∧ ∃ e2 g2, paE (call AH (n + 3)) e g = .ret e2 g2 ∧ Km h r4 e2 g2) := fun hn ⟨e2, q1, q2, q3, q4, q5⟩ => .inr ⟨hn, e2, _, q1, w3, q2, q3, q4, q5, w2⟩
  cases hr : CB (at6 ns 1) (at6 ns 2) (at6 ns 3) (min (at6 ns 0) 9) 0 with
  | false =>
    rw [hr] at k24
    refine nok (fun hh => by rw [hh.1.1] at hr; cases hr) ?_
    unfold paE
    simp only [sT, Nat.reduceLT, Nat.reduceEqDiff, if_true, if_false, reduceIte, gD, CT, s10, i0, i1, i2, i3, Au, A5, l0, l1, l2, l3, mn, Ba, v0, cv, bd, f1, BL, st, B4, B3, ld, Ay, Ah, Ax, k24, Cl, Ck, Bool.not_false, Br, s4, w1]
    exact ⟨_, rfl, by simp only [AF, Nat.reduceLT, Nat.reduceEqDiff, if_true, if_false, reduceIte]; exact s4, by simp [AF], by simp [AF], by simp [AF]⟩
  | true =>
    rw [hr] at k24
    by_cases h4 : at6 ns 4 ≤ 65536
    · have c4 : iGt ((at6 ns 4 : Nat) : Int) 65536 = false := Fg (by omega)
      by_cases h5 : at6 ns 5 ≤ 4294967295
      · have c5 : iGt ((at6 ns 5 : Nat) : Int) 4294967295 = false := Fg (by omega)
        have M3 := M.ext WB xB3
        obtain ⟨w, ct, Vw⟩ := Rw M3 hq
        obtain ⟨rb, kb, hrb⟩ := P5 (n := n) Vw (by rw [List.length_drop]; omega)
        have kb : call AH (n + 3) 34 [w, .func (.func 33) #[] #[]] g3 = .ok (.bool rb) g3 := kb
        cases rb with
        | true =>
          obtain ⟨y, hy1, hy2⟩ := hrb.1 rfl
          refine nok (fun hh => hy2 (hh.2 y hy1)) ?_
          unfold paE
          simp only [sT, Nat.reduceLT, Nat.reduceEqDiff, if_true, if_false, reduceIte, gD, CT, s10, i0, i1, i2, i3, i4, i5, Au, A5, l0, l1, l2, l3, l4, l5, mn, Ba, v0, cv, bd, f1, BL, st, B4, B3, ld, Ay, Ah, Ax, k24, Cl, Ck, Bool.not_true, Ae, Ad, c4, c5, s8, s11, ct, kb, Br, s4, w1]
          exact ⟨_, rfl, by simp only [AF, Nat.reduceLT, Nat.reduceEqDiff, if_true, if_false, reduceIte]; exact s4, by simp [AF], by simp [AF], by simp [AF]⟩
        | false =>
          have hz : ∀ x ∈ l.drop q, x = 0 := fun y hy => by
            rcases Nat.eq_zero_or_pos y with h0 | h0
            · exact h0
            · have := hrb.2 ⟨y, hy, by omega⟩; cases this
          have hok : LN ns := ⟨hr, h4, h5⟩
          have hmin : min (at6 ns 0) 9 = at6 ns 0 := Nat.min_eq_left (Nat.le_trans (bC.1 hok).1 (by decide))
          left
          refine ⟨hok, hz, ?_⟩
          have xm := x3.marked
          have R10m : g3.marked.Row r10 0 (ns.map nv) := R10'.same rfl
          have m4 := Mc R10m h6 (k := 4) (by omega)
          have m5 := Mc R10m h6 (k := 5) (by omega)
          have R13m : g3.marked.Row g.next 0 (Aq (at6 ns 1) (at6 ns 2) (at6 ns 3) (min (at6 ns 0) 9) BK) := (R13'.ext x2.wf y3).same rfl
          have mld := (BG R13m).2.2.2.2.2
          have v5 : CV .u32 (.int .u64 ((at6 ns 5 : Nat) : Int)) g3.marked = .ok (.int .u32 ((at6 ns 5 : Nat) : Int)) g3.marked := by rw [Bp, EI h5]
          have ck : ∀ (k : C) (F : CallF) (e : Env), AB 4 e = pt r4 → AB 87 e = .pointer (some ⟨r10, 4, none⟩) → AB 90 e = .pointer (some ⟨r10, 5, none⟩) → B7 (AB 4) [AB 87, AB 90] k F e g3.marked = k F e g3.marked := fun k F e e1 e2 e3 => Re e1 e2 e3 hr410 hr410
          have h256 : 256 ≤ r4 := by have := W0.big; omega
          have R4m : g3.marked.Row r4 0 (Aq 0 0 0 0 BK) := (R4.ext WB xB3).same rfl
          have ta : ∀ (F : CallF) (e : Env), AB 4 e = pt r4 → AB 86 e = BS (at6 ns 1) (at6 ns 2) (at6 ns 3) (min (at6 ns 0) 9) BK → Hm (AB 4) (AP 5 (AB 4) (AB 86)) F e g3.marked = .ok noRes (g3.marked.back (g3.marked.quiet.wr r4 0 (Aq (at6 ns 1) (at6 ns 2) (at6 ns 3) (min (at6 ns 0) 9) BK))) := fun F e e1 e2 => Pi xm.wf e1 e2 R4m rfl h256 rfl
          have xhm := xh3.marked
          obtain ⟨_, z2, z3, z4, _⟩ := IJ W0 xhm.quiet hr4 (R4m.same (h' := g3.marked.quiet) rfl) rfl (a := at6 ns 1) (b := at6 ns 2) (c := at6 ns 3) (s := min (at6 ns 0) 9) (u := BK) rfl
          have xf : h.Ext (g3.marked.back (g3.marked.quiet.wr r4 0 (Aq (at6 ns 1) (at6 ns 2) (at6 ns 3) (min (at6 ns 0) 9) BK))) := Hp.Ext.back2 xhm z3
          have Rf : (g3.marked.back (g3.marked.quiet.wr r4 0 (Aq (at6 ns 1) (at6 ns 2) (at6 ns 3) (min (at6 ns 0) 9) BK))).Row r4 0 (Aq (at6 ns 1) (at6 ns 2) (at6 ns 3) (min (at6 ns 0) 9) BK) := z4.same rfl
          generalize g3.marked.back (g3.marked.quiet.wr r4 0 (Aq (at6 ns 1) (at6 ns 2) (at6 ns 3) (min (at6 ns 0) 9) BK)) = g4 at ta xf Rf
          have ldf := (BG Rf).2.2.2.2.2
          rw [hmin] at ldf
          have hrun : ∃ e2, paE (call AH (n + 3)) e g = .ret e2 g4 ∧ AB 4 e2 = pt r4 ∧ AB 5 e2 = .int .i64 (at6 ns 4 : Nat) ∧ AB 6 e2 = .int .u32 (at6 ns 5 : Nat) ∧ AB 7 e2 = .bool true := by
            unfold paE
            simp only [sT, Nat.reduceLT, Nat.reduceEqDiff, if_true, if_false, reduceIte, gD, CT, s10, i0, i1, i2, i3, i4, i5, Au, A5, l0, l1, l2, l3, l4, l5, mn, Ba, v0, cv, bd, f1, BL, st, B4, B3, ld, Ay, Ah, Ax, k24, Cl, Ck, Bool.not_true, Ae, Ad, c4, c5, s8, s11, ct, kb, CU, mld, m4, m5, v5, s4, ck, ta]
            exact ⟨_, rfl, by simp only [AF, Nat.reduceLT, Nat.reduceEqDiff, if_true, if_false, reduceIte]; exact s4, by simp [AF], by simp [AF], by simp [AF]⟩
          obtain ⟨e2, q1, q2, q3, q4, q5⟩ := hrun
          exact ⟨e2, g4, q1, xf, q2, q3, q4, q5, ldf⟩
      · have c5 : iGt ((at6 ns 5 : Nat) : Int) 4294967295 = true := Fh (by omega)
        refine nok (fun hh => h5 hh.1.2.2) ?_
        unfold paE
        simp only [sT, Nat.reduceLT, Nat.reduceEqDiff, if_true, if_false, reduceIte, gD, CT, s10, i0, i1, i2, i3, i4, i5, Au, A5, l0, l1, l2, l3, l4, l5, mn, Ba, v0, cv, bd, f1, BL, st, B4, B3, ld, Ay, Ah, Ax, k24, Cl, Ck, Bool.not_true, Ae, Ad, c4, c5, Br, s4, w1]
        exact ⟨_, rfl, by simp only [AF, Nat.reduceLT, Nat.reduceEqDiff, if_true, if_false, reduceIte]; exact s4, by simp [AF], by simp [AF], by simp [AF]⟩
    · have c4 : iGt ((at6 ns 4 : Nat) : Int) 65536 = true := Fh (by omega)
      refine nok (fun hh => h4 hh.1.2.1) ?_
      unfold paE
      simp only [sT, Nat.reduceLT, Nat.reduceEqDiff, if_true, if_false, reduceIte, gD, CT, s10, i0, i1, i2, i3, i4, i5, Au, A5, l0, l1, l2, l3, l4, mn, Ba, v0, cv, bd, f1, BL, st, B4, B3, ld, Ay, Ah, Ax, k24, Cl, Ck, Bool.not_true, Ae, Ad, c4, Br, s4, w1]
      exact ⟨_, rfl, by simp only [AF, Nat.reduceLT, Nat.reduceEqDiff, if_true, if_false, reduceIte]; exact s4, by simp [AF], by simp [AF], by simp [AF]⟩
theorem TJ {n : Nat} {h : Hp} (W : h.Wf) {tb : Nat} {T : List Nat} (R : h.Row tb 0 (T.map wv)) (hT : Cm T) {u : Value} {l : List Nat} (V : h.Vals u (l.map bv)) (hC : Ig u) (hb : ∀ x ∈ l, x < 256) (hl : l.length ≤ 900000) :
    ∃ h', h.Ext h' ∧ ((∃ ns, RI T l ns ∧ call AH (n + 4) 11 [pt tb, u] h = .ok (okT ns) h') ∨ ((¬ ∃ ns, RI T l ns) ∧ call AH (n + 4) 11 [pt tb, u] h = .ok noT h')) := by
  have f1 := fun (F : CallF) (e : Env) => DB (F := F) (e := e) (n := 5) (t := Bx) W
  have x1 := (Hp.Ext.refl W).push (.cells Bx 5 0)
  have R4 : (h.push (.cells Bx 5 0)).Row h.next 0 (Aq 0 0 0 0 BK) := Hp.Row.alloc W GC rfl
  have nA : (h.push (.cells Bx 5 0)).next = h.next + 1 := rfl
  generalize h.push (.cells Bx 5 0) = hA at f1 x1 R4 nA
  obtain ⟨hB, yB, U⟩ := RF (n := n) x1.wf (R.ext W x1) hT (V.ext W x1) hC hb hl
  have xB := x1.trans yB
  have R4B := R4.ext x1.wf yB
  obtain ⟨w1, w2, w3, _, _⟩ := IJ W xB (Nat.le_refl _) R4B rfl (a := 0) (b := 0) (c := 0) (s := 0) (u := BK) rfl
  rcases U with ⟨body, v, hu, k1, M⟩ | ⟨hu, c, hc, k1⟩
  · have c2 : iNe 0 0 = false := H6 rfl
    have Vl := M.vals.bl hB
    by_cases h60 : body.length = 60
    · have c3 : iNe (body.length : Int) 60 = false := H6 (by omega)
      have f2 := fun (F : CallF) (e : Env) => DB (F := F) (e := e) (n := 6) (t := Ow) xB.wf
      have y2 := (Hp.Ext.refl xB.wf).push (.cells Ow 6 0)
      have R10 : (hB.push (.cells Ow 6 0)).Row hB.next 0 ([0, 0, 0, 0, 0, 0].map nv) := Hp.Row.alloc xB.wf XW rfl
      generalize hB.push (.cells Ow 6 0) = hC' at f2 y2 R10
      have pre : ∃ e1, Lv (call AH (n + 3)) (Av e0 0 [pt tb, u]) h = paS (call AH (n + 3)) e1 hC' ∧ AB 4 e1 = pt h.next ∧ AB 8 e1 = v ∧ AB 10 e1 = pt hB.next ∧ AB 11 e1 = .int .i64 ((0 : Nat) : Int) ∧ AB 29 e1 = .int .i64 ((0 : Nat) : Int) := by
        unfold Lv
        simp only [Aa, Ab, Nat.succ_eq_add_one, Nat.zero_add, Nat.reduceAdd, sT, Nat.reduceLT, Nat.reduceEqDiff, if_true, if_false, reduceIte, gD, f1, Ay, Ah, Ax, k1, Bw, CD, CE, Ae, Ad, c2, Az, Vl, c3, f2]
        exact ⟨_, rfl, by simp [AF], by simp [AF], by simp [AF], by simp only [AF, Nat.reduceLT, Nat.reduceEqDiff, if_true, if_false, reduceIte]; rfl, by simp only [AF, Nat.reduceLT, Nat.reduceEqDiff, if_true, if_false, reduceIte]; rfl⟩
      obtain ⟨e1, p1, p2, p3, p4, p5, p6⟩ := pre
      obtain ⟨hsl, hbt⟩ := HN hu
      have hbb : ∀ x ∈ body, x < 256 := fun x hx => hb x (by rw [hbt] at hx; exact List.mem_of_mem_take hx)
      rcases Wv (n := n + 2) W xB y2 (Nat.le_refl h.next) (Nat.le_refl _) R4B M.vals hbb (by omega) R10 p2 p3 p4 p5 p6 with ⟨e2, g, ns, q, q1, x2, R10', hrd, t4, t8, t10, t11⟩ | ⟨e2, g, q1, hrd, D⟩
      · obtain ⟨g1, g2, g3, g4, g5⟩ := HE 6 body 0 ns q hbb (Nat.zero_le _) hrd
        have hn2 : hB.next ≠ h.next := by have := yB.next; omega
        rcases fK (n := n) W xB x2 (Nat.le_refl _) hn2 R4B M (by omega) g4 R10' g1 g5 t4 t8 t10 t11 with ⟨ho, hz, e3, g', r1, D⟩ | ⟨hno, e3, g', r1, D⟩
        · refine ⟨g', D.1, .inl ⟨ns, ⟨body, q, hu, h60, hrd, ho, hz⟩, ?_⟩⟩
          rw [Io rfl, Iw, p1, Oa]
          simp only [Bj, BI, q1, BN, Bd, r1]
          exact S9 D
        · refine ⟨g', D.1, .inr ⟨?_, ?_⟩⟩
          · rintro ⟨ms, body', q', j1, j2, j3, j4, j5⟩
            rw [hu] at j1; cases j1
            rw [hrd] at j3; cases j3
            exact hno ⟨j4, j5⟩
          · rw [Io rfl, Iw, p1, Oa]
            simp only [Bj, BI, q1, BN, Bd, r1]
            exact GA D
      · refine ⟨g, D.1, .inr ⟨?_, ?_⟩⟩
        · rintro ⟨ms, body', q', j1, j2, j3, j4, j5⟩
          rw [hu] at j1; cases j1
          rw [hrd] at j3; cases j3
        · rw [Io rfl, Iw, p1, Oa]
          simp only [Bj, BI, q1, Bf, DL]
          exact GA D
    · have c3 : iNe (body.length : Int) 60 = true := PP (by omega)
      have hrun : ∃ e2, Lv (call AH (n + 3)) (Av e0 0 [pt tb, u]) h = .ret e2 (hB.wr h.next 0 (Aq 0 0 0 0 BK)) ∧ AB 4 e2 = pt h.next ∧ AB 5 e2 = .int .i64 0 ∧ AB 6 e2 = .int .u32 0 ∧ AB 7 e2 = .bool false := by
        unfold Lv
        simp only [Aa, Ab, Nat.succ_eq_add_one, Nat.zero_add, Nat.reduceAdd, sT, Nat.reduceLT, Nat.reduceEqDiff, if_true, if_false, reduceIte, gD, f1, Ay, Ah, Ax, k1, Bw, CD, CE, Ae, Ad, c2, Az, Vl, c3, Br, BL, w1]
        exact ⟨_, rfl, by simp [AF], by simp [AF], by simp [AF], by simp [AF]⟩
      obtain ⟨e2, q1, q2, q3, q4, q5⟩ := hrun
      refine ⟨_, w3, .inr ⟨?_, ?_⟩⟩
      · rintro ⟨ms, body', q', j1, j2, _⟩
        rw [hu] at j1; cases j1
        exact h60 j2
      · rw [Io rfl, Iw, q1]
        exact GA (h := h) ⟨w3, q2, q3, q4, q5, w2⟩
  · have c2 : iNe c 0 = true := PP hc
    have hrun : ∃ e2, Lv (call AH (n + 3)) (Av e0 0 [pt tb, u]) h = .ret e2 (hB.wr h.next 0 (Aq 0 0 0 0 BK)) ∧ AB 4 e2 = pt h.next ∧ AB 5 e2 = .int .i64 0 ∧ AB 6 e2 = .int .u32 0 ∧ AB 7 e2 = .bool false := by
      unfold Lv
      simp only [Aa, Ab, Nat.succ_eq_add_one, Nat.zero_add, Nat.reduceAdd, sT, Nat.reduceLT, Nat.reduceEqDiff, if_true, if_false, reduceIte, gD, f1, Ay, Ah, Ax, k1, Bw, CD, CE, Ae, Ad, c2, Br, BL, w1]
      exact ⟨_, rfl, by simp [AF], by simp [AF], by simp [AF], by simp [AF]⟩
    obtain ⟨e2, q1, q2, q3, q4, q5⟩ := hrun
    refine ⟨_, w3, .inr ⟨?_, ?_⟩⟩
    · rintro ⟨ms, body', q', j1, _⟩
      rw [hu] at j1; cases j1
    · rw [Io rfl, Iw, q1]
      exact GA (h := h) ⟨w3, q2, q3, q4, q5, w2⟩
end
end Go.Proofs.YtfeldadhbnmklaaGreat
set_option linter.unusedVariables false
set_option linter.unusedSimpArgs false
namespace Go.Proofs.YtfeldadhbnmklaaGreat
noncomputable section
open Go
set_option maxRecDepth 100000
def rpB : C := (cOp (AD 16) (AM iLt .i64 (AB 10) (kV (.int .i64 6)))
(AJ (AB 16)
(Al (AK 1 (cOp (AD 22) (AL 35 [(AB 1), (AB 9)])
(cOp (AD 23) (AN 0 (AB 22))
(cOp (AD 24) (AN 1 (AB 22))
(cOp (AD 25) (AN 2 (AB 22))
(cOp (AD 11) (AC (AB 23))
(cOp (AD 12) (AC (AB 24))
(cOp (AD 13) (AC (AB 25))
(cOp (AD 27) (AM iNe .i64 (AB 13) (kV (.int .i64 0)))
(cG (AB 27) false (AD 29) (AC (AB 11))
(cG (AB 27) false (AD 30) (AM iGt .u64 (AB 29) (kV (.int .u64 1099511627776)))
(cOp (AD 31) (AW (AB 27) (kV (.bool true)) (AB 30))
(AJ (AB 31)
(cOp (AD 32) (BA Cv.zero [])
(cDo (AP 5 (AB 4) (AB 32))
(cOp (AD 5) (AC (kV (.int .i64 0)))
(cOp (AD 6) (AC (kV (.int .u32 0)))
(cOp (AD 7) (AC (kV (.bool false)))
AU)))))
(cOp (AD 35) (AX 1 (A6 Jn.zero 1) [(0, 1, (AB 11))])
(cOp (AD 36) (BB 1 8 56 (AB 8) (AB 35))
(cOp (AD 8) (AC (AB 36))
(cOp (AD 9) (AC (AB 12))
AO)))))))))))))))))
(cOp (AD 18) (Ai .i64 (AQ .i64) (AB 10) (kV (.int .i64 1)))
(cOp (AD 10) (AC (AB 18))
AO)))
(At 0)))
def rpE : C := (cOp (AD 39) (AY 1 (AB 8) (kV (.int .i64 0)))
(cOp (AD 40) (AG (AB 39))
(cOp (AD 41) (AM iGt .u64 (AB 40) (kV (.int .u64 2)))
(cG (AB 41) false (AD 43) (AC (AB 8))
(cG (AB 41) false (AD 44) (AY 1 (AB 43) (kV (.int .i64 4)))
(cG (AB 41) false (AD 45) (AG (AB 44))
(cG (AB 41) false (AD 46) (AM iGt .u64 (AB 45) (kV (.int .u64 65536)))
(cOp (AD 47) (AW (AB 41) (kV (.bool true)) (AB 46))
(cG (AB 47) false (AD 49) (AC (AB 8))
(cG (AB 47) false (AD 50) (AY 1 (AB 49) (kV (.int .i64 5)))
(cG (AB 47) false (AD 51) (AG (AB 50))
(cG (AB 47) false (AD 52) (AM iGt .u64 (AB 51) (kV (.int .u64 4294967295)))
(cOp (AD 53) (AW (AB 47) (kV (.bool true)) (AB 52))
(AJ (AB 53)
(cOp (AD 54) (BA Cv.zero [])
(cDo (AP 5 (AB 4) (AB 54))
(cOp (AD 5) (AC (kV (.int .i64 0)))
(cOp (AD 6) (AC (kV (.int .u32 0)))
(cOp (AD 7) (AC (kV (.bool false)))
AU)))))
(Ar (cOp (AD 56) (AY 1 (AB 8) (kV (.int .i64 0)))
(cOp (AD 57) (AG (AB 56))
(cOp (AD 58) (An .u8 (AB 57))
(cOp (AD 60) (AY 1 (AB 8) (kV (.int .i64 1)))
(cOp (AD 61) (AG (AB 60))
(cOp (AD 62) (An .i64 (AB 61))
(cOp (AD 64) (AY 1 (AB 8) (kV (.int .i64 2)))
(cOp (AD 65) (AG (AB 64))
(cOp (AD 66) (An .i64 (AB 65))
(cOp (AD 68) (AY 1 (AB 8) (kV (.int .i64 3)))
(cOp (AD 69) (AG (AB 68))
(cOp (AD 70) (An .i64 (AB 69))
(cOp (AD 71) (BA Cv.zero [(3, 1, (AB 58)), (0, 1, (AB 62)), (1, 1, (AB 66)), (2, 1, (AB 70))])
(cOp (AD 14) (AS .strong (A9 5 Bx))
(cDo (AS .free (AP 5 (AB 14) (AB 71)))
(Ar (cOp (AD 72) (Ac 5 (AB 14))
(cOp (AD 73) (AS .free (AL 28 [(AB 72)]))
(cOp (AD 74) (Bo (AB 73))
(cG (AB 74) false (AD 76) (AC (AB 0))
(cG (AB 74) false (AD 77) (Ac 5 (AB 14))
(cG (AB 74) false (AD 78) (AC (AB 8))
(cG (AB 74) false (AD 79) (AY 1 (AB 78) (kV (.int .i64 4)))
(cG (AB 74) false (AD 80) (AG (AB 79))
(cG (AB 74) false (AD 81) (An .i64 (AB 80))
(cG (AB 74) false (AD 82) (AC (AB 8))
(cG (AB 74) false (AD 83) (AY 1 (AB 82) (kV (.int .i64 5)))
(cG (AB 74) false (AD 84) (AG (AB 83))
(cG (AB 74) false (AD 85) (An .u32 (AB 84))
(cG (AB 74) false (AD 86) (AS .free (AL 29 [(AB 76), (AB 77), (AB 81), (AB 85)]))
(cG (AB 74) false (AD 87) (AC (AB 1))
(cG (AB 74) false (AD 88) (AS .free (AL 36 [(AB 86), (AB 87)]))
(cG (AB 74) false (AD 89) (Bo (AB 88))
(cOp (AD 90) (AW (AB 74) (kV (.bool true)) (AB 89))
(AJ (AB 90)
(cOp (AD 91) (BA Cv.zero [])
(cDo (AP 5 (AB 4) (AB 91))
(cOp (AD 5) (AC (kV (.int .i64 0)))
(cOp (AD 6) (AC (kV (.int .u32 0)))
(cOp (AD 7) (AC (kV (.bool false)))
AU)))))
(Ar (cOp (AD 92) (Ac 5 (AB 14))
(cOp (AD 94) (AY 1 (AB 8) (kV (.int .i64 4)))
(cOp (AD 95) (AG (AB 94))
(cOp (AD 96) (An .i64 (AB 95))
(cOp (AD 98) (AY 1 (AB 8) (kV (.int .i64 5)))
(cOp (AD 99) (AG (AB 98))
(cOp (AD 100) (An .u32 (AB 99))
(B7 (AB 4) [(AB 94), (AB 98)]
(cDo (Hm (AB 4) (AP 5 (AB 4) (AB 92)))
(cOp (AD 5) (AC (AB 96))
(cOp (AD 6) (AC (AB 100))
(cOp (AD 7) (AC (kV (.bool true)))
AU)))))))))))))))))))))))))))))))))))))))))))))))))))))))))))))))
def rpS : C := (Al (AK 0 (Aj (cOp (AD 16) (AM iLt .i64 (AB 10) (kV (.int .i64 6)))
(AJ (AB 16)
(Al (AK 1 (cOp (AD 22) (AL 35 [(AB 1), (AB 9)])
(cOp (AD 23) (AN 0 (AB 22))
(cOp (AD 24) (AN 1 (AB 22))
(cOp (AD 25) (AN 2 (AB 22))
(cOp (AD 11) (AC (AB 23))
(cOp (AD 12) (AC (AB 24))
(cOp (AD 13) (AC (AB 25))
(cOp (AD 27) (AM iNe .i64 (AB 13) (kV (.int .i64 0)))
(cG (AB 27) false (AD 29) (AC (AB 11))
(cG (AB 27) false (AD 30) (AM iGt .u64 (AB 29) (kV (.int .u64 1099511627776)))
(cOp (AD 31) (AW (AB 27) (kV (.bool true)) (AB 30))
(AJ (AB 31)
(cOp (AD 32) (BA Cv.zero [])
(cDo (AP 5 (AB 4) (AB 32))
(cOp (AD 5) (AC (kV (.int .i64 0)))
(cOp (AD 6) (AC (kV (.int .u32 0)))
(cOp (AD 7) (AC (kV (.bool false)))
AU)))))
(cOp (AD 35) (AX 1 (A6 Jn.zero 1) [(0, 1, (AB 11))])
(cOp (AD 36) (BB 1 8 56 (AB 8) (AB 35))
(cOp (AD 8) (AC (AB 36))
(cOp (AD 9) (AC (AB 12))
AO)))))))))))))))))
(cOp (AD 18) (Ai .i64 (AQ .i64) (AB 10) (kV (.int .i64 1)))
(cOp (AD 10) (AC (AB 18))
AO)))
(At 0)))))
(cOp (AD 39) (AY 1 (AB 8) (kV (.int .i64 0)))
(cOp (AD 40) (AG (AB 39))
(cOp (AD 41) (AM iGt .u64 (AB 40) (kV (.int .u64 2)))
(cG (AB 41) false (AD 43) (AC (AB 8))
(cG (AB 41) false (AD 44) (AY 1 (AB 43) (kV (.int .i64 4)))
(cG (AB 41) false (AD 45) (AG (AB 44))
(cG (AB 41) false (AD 46) (AM iGt .u64 (AB 45) (kV (.int .u64 65536)))
(cOp (AD 47) (AW (AB 41) (kV (.bool true)) (AB 46))
(cG (AB 47) false (AD 49) (AC (AB 8))
(cG (AB 47) false (AD 50) (AY 1 (AB 49) (kV (.int .i64 5)))
(cG (AB 47) false (AD 51) (AG (AB 50))
(cG (AB 47) false (AD 52) (AM iGt .u64 (AB 51) (kV (.int .u64 4294967295)))
(cOp (AD 53) (AW (AB 47) (kV (.bool true)) (AB 52))
(AJ (AB 53)
(cOp (AD 54) (BA Cv.zero [])
(cDo (AP 5 (AB 4) (AB 54))
(cOp (AD 5) (AC (kV (.int .i64 0)))
(cOp (AD 6) (AC (kV (.int .u32 0)))
(cOp (AD 7) (AC (kV (.bool false)))
AU)))))
(Ar (cOp (AD 56) (AY 1 (AB 8) (kV (.int .i64 0)))
(cOp (AD 57) (AG (AB 56))
(cOp (AD 58) (An .u8 (AB 57))
(cOp (AD 60) (AY 1 (AB 8) (kV (.int .i64 1)))
(cOp (AD 61) (AG (AB 60))
(cOp (AD 62) (An .i64 (AB 61))
(cOp (AD 64) (AY 1 (AB 8) (kV (.int .i64 2)))
(cOp (AD 65) (AG (AB 64))
(cOp (AD 66) (An .i64 (AB 65))
(cOp (AD 68) (AY 1 (AB 8) (kV (.int .i64 3)))
(cOp (AD 69) (AG (AB 68))
(cOp (AD 70) (An .i64 (AB 69))
(cOp (AD 71) (BA Cv.zero [(3, 1, (AB 58)), (0, 1, (AB 62)), (1, 1, (AB 66)), (2, 1, (AB 70))])
(cOp (AD 14) (AS .strong (A9 5 Bx))
(cDo (AS .free (AP 5 (AB 14) (AB 71)))
(Ar (cOp (AD 72) (Ac 5 (AB 14))
(cOp (AD 73) (AS .free (AL 28 [(AB 72)]))
(cOp (AD 74) (Bo (AB 73))
(cG (AB 74) false (AD 76) (AC (AB 0))
(cG (AB 74) false (AD 77) (Ac 5 (AB 14))
(cG (AB 74) false (AD 78) (AC (AB 8))
(cG (AB 74) false (AD 79) (AY 1 (AB 78) (kV (.int .i64 4)))
(cG (AB 74) false (AD 80) (AG (AB 79))
(cG (AB 74) false (AD 81) (An .i64 (AB 80))
(cG (AB 74) false (AD 82) (AC (AB 8))
(cG (AB 74) false (AD 83) (AY 1 (AB 82) (kV (.int .i64 5)))
(cG (AB 74) false (AD 84) (AG (AB 83))
(cG (AB 74) false (AD 85) (An .u32 (AB 84))
(cG (AB 74) false (AD 86) (AS .free (AL 29 [(AB 76), (AB 77), (AB 81), (AB 85)]))
(cG (AB 74) false (AD 87) (AC (AB 1))
(cG (AB 74) false (AD 88) (AS .free (AL 36 [(AB 86), (AB 87)]))
(cG (AB 74) false (AD 89) (Bo (AB 88))
(cOp (AD 90) (AW (AB 74) (kV (.bool true)) (AB 89))
(AJ (AB 90)
(cOp (AD 91) (BA Cv.zero [])
(cDo (AP 5 (AB 4) (AB 91))
(cOp (AD 5) (AC (kV (.int .i64 0)))
(cOp (AD 6) (AC (kV (.int .u32 0)))
(cOp (AD 7) (AC (kV (.bool false)))
AU)))))
(Ar (cOp (AD 92) (Ac 5 (AB 14))
(cOp (AD 94) (AY 1 (AB 8) (kV (.int .i64 4)))
(cOp (AD 95) (AG (AB 94))
(cOp (AD 96) (An .i64 (AB 95))
(cOp (AD 98) (AY 1 (AB 8) (kV (.int .i64 5)))
(cOp (AD 99) (AG (AB 98))
(cOp (AD 100) (An .u32 (AB 99))
(B7 (AB 4) [(AB 94), (AB 98)]
(cDo (Hm (AB 4) (AP 5 (AB 4) (AB 92)))
(cOp (AD 5) (AC (AB 96))
(cOp (AD 6) (AC (AB 100))
(cOp (AD 7) (AC (kV (.bool true)))
AU))))))))))))))))))))))))))))))))))))))))))))))))))))))))))))))))
theorem Od : rpS = Al (AK 0 (Aj rpB)) rpE := rfl
def VM : C := (cOp (AD 4) (A9 5 Bx)
(cOp (AD 5) (AC (kV (.int .i64 0)))
(cOp (AD 6) (AC (kV (.int .u32 0)))
(cOp (AD 7) (AC (kV (.bool false)))
(cOp (AD 8) (AC (kV (.slice none 0 0)))
(cOp (AD 9) (AC (kV (.int .i64 0)))
(cOp (AD 10) (AC (kV (.int .i64 0)))
rpS)))))))
def d12 : C := VM
theorem Ns {n : Nat} {args : List Value} {h : Hp} (hl : Nat.ble (BR args) 320 = true) : call AH (Nat.succ n) 12 args h = Bs [.cN (AB 4) 5, .t (AB 5), .t (AB 6), .t (AB 7)] (d12 (call AH n) (Av e0 0 args) h) := by
  have hb : AH.get 12 = some b12 := by kernel_rfl
  rw [BQ hb]
  have hd : b12 = ⟨[.cN (AB 4) 5, .t (AB 5), .t (AB 6), .t (AB 7)], d12⟩ := by kernel_rfl
  rw [hd, BJ hl]
theorem Nv : d12 = VM := rfl
theorem XT : A6 Jn.zero 1 = [.int .u64 0] := by kernel_rfl
theorem W3 {n : Nat} {h hA g : Hp} (W0 : h.Wf) (xA : h.Ext hA) (x : hA.Ext g) {r4 tb : Nat} (hr4 : h.next ≤ r4) (R4 : hA.Row r4 0 (Aq 0 0 0 0 BK)) {u : Value} {l : List Nat} (V : hA.Vals u (l.map bv)) (hb : ∀ x ∈ l, x < 256) (hl : l.length ≤ 900000)
    {e : Env} (s0 : AB 0 e = pt tb) (s1 : AB 1 e = u) (s4 : AB 4 e = pt r4) (s8 : AB 8 e = BK) (s9 : AB 9 e = .int .i64 ((0 : Nat) : Int)) (s10 : AB 10 e = .int .i64 ((0 : Nat) : Int)) :
    (∃ e' g' ns q v, Aj rpB (call AH (n + 1)) e g = .exit 0 e' g' ∧ hA.Ext g' ∧ g'.Own hA.next 56 v (ns.map nv) ∧ rdN 6 l 0 = some (ns, q) ∧ AB 0 e' = pt tb ∧ AB 1 e' = u ∧ AB 4 e' = pt r4 ∧ AB 8 e' = v) ∨
    (∃ e' g', Aj rpB (call AH (n + 1)) e g = .ret e' g' ∧ rdN 6 l 0 = none ∧ Km h r4 e' g') := by
  have WA := xA.wf
  refine CF (I := fun i e' g' => hA.Ext g' ∧ ∃ (ns : List Nat) (v : Value) (p : Nat), ns.length = i ∧ g'.Own hA.next 56 v (ns.map nv) ∧ AB 0 e' = pt tb ∧ AB 1 e' = u ∧ AB 4 e' = pt r4 ∧ AB 8 e' = v ∧ AB 9 e' = .int .i64 (p : Int) ∧ AB 10 e' = .int .i64 (i : Int) ∧ p ≤ l.length ∧ i ≤ 6 ∧
      rdN 6 l 0 = (match rdN (6 - i) l p with | none => none | some (vs, q) => some (ns ++ vs, q)))
    (Q := fun x => (∃ e' g' ns q v, x = .exit 0 e' g' ∧ hA.Ext g' ∧ g'.Own hA.next 56 v (ns.map nv) ∧ rdN 6 l 0 = some (ns, q) ∧ AB 0 e' = pt tb ∧ AB 1 e' = u ∧ AB 4 e' = pt r4 ∧ AB 8 e' = v) ∨
      (∃ e' g', x = .ret e' g' ∧ rdN 6 l 0 = none ∧ Km h r4 e' g')) 6 (by omega) (fun i e' g' ⟨x', ns, v, p, hns, o', t0, t1, t4, t8, t9, t10, hp, hi, hr⟩ => ?_)
    ⟨x, [], _, 0, rfl, .inl ⟨rfl, rfl⟩, s0, s1, s4, s8, s9, s10, Nat.zero_le _, by omega, by
      rw [Nat.sub_zero]
      cases rdN 6 l 0 with
      | none => rfl
      | some y => rfl⟩
  by_cases hlt : i < 6
  · have W := x'.wf
    obtain ⟨k, hk⟩ : ∃ k, 6 - i = k + 1 := ⟨5 - i, by omega⟩
    rw [hk, NA k l p] at hr
    have c1 : iLt (i : Int) 6 = true := IH (b := 6) hlt
    obtain ⟨a, b, c, k1, G⟩ := Vj (n := n) (V.ext WA x') hb hp (by omega)
    obtain ⟨w1, w2, w3, _, _⟩ := IJ W0 (xA.trans x') hr4 (R4.ext WA x') rfl (a := 0) (b := 0) (c := 0) (s := 0) (u := BK) rfl
    have fail : (iNe c 0 = true ∨ iNe c 0 = false ∧ iGt a 1099511627776 = true) → ∃ e2, rpB (call AH (n + 1)) e' g' = .ret e2 (g'.wr r4 0 (Aq 0 0 0 0 BK)) ∧ AB 4 e2 = pt r4 ∧ AB 5 e2 = .int .i64 0 ∧ AB 6 e2 = .int .u32 0 ∧ AB 7 e2 = .bool false := fun hc => by
      unfold rpB
      rcases hc with c2 | ⟨c2, c3⟩
      · simp only [sT, Nat.reduceLT, Nat.reduceEqDiff, if_true, if_false, reduceIte, gD, Ae, Ad, t10, c1, Ay, Ah, Ax, t1, t9, k1, Bw, CD, CE, C4, c2, Br, BL, t4, w1]
        exact ⟨_, rfl, by simp only [AF, Nat.reduceLT, Nat.reduceEqDiff, if_true, if_false, reduceIte]; exact t4, by simp [AF], by simp [AF], by simp [AF]⟩
      · simp only [sT, Nat.reduceLT, Nat.reduceEqDiff, if_true, if_false, reduceIte, gD, Ae, Ad, t10, c1, Ay, Ah, Ax, t1, t9, k1, Bw, CD, CE, C4, c2, c3, Br, BL, t4, w1]
        exact ⟨_, rfl, by simp only [AF, Nat.reduceLT, Nat.reduceEqDiff, if_true, if_false, reduceIte]; exact t4, by simp [AF], by simp [AF], by simp [AF]⟩
    rcases G with ⟨vv, j, hu, rfl, rfl, rfl⟩ | ⟨hu, hc⟩
    · rw [hu] at hr
      simp only at hr
      have c2 : iNe 0 0 = false := H6 rfl
      by_cases hv : vv ≤ 1099511627776
      · left
        rw [if_pos hv] at hr
        have c3 : iGt (vv : Int) 1099511627776 = false := Fg (by omega)
        have hbd : ∀ x ∈ l.drop p, x < 256 := fun x hx => hb x (List.mem_of_mem_drop hx)
        have hj := Tz hbd hu
        rw [List.length_drop] at hj
        have os : ∀ e : Env, AB 11 e = .int .u64 (vv : Int) → AX 1 (A6 Jn.zero 1) [(0, 1, AB 11)] (call AH (n + 1)) e g' = .ok (.slice (some ⟨g'.next, 0, none⟩) 1 1) (g'.pushRow 0 [.int .u64 (vv : Int)]) := fun e he => by rw [XT]; exact Dw W he rfl rfl
        obtain ⟨h2, v2, a2, x2, o2, hn2, fr2⟩ := F9 (eb := 8) (en := 56) (n := (vv : Int)) (kd := .u64) x' (Nat.le_refl _) x'.next o' (by rw [List.length_map, hns]; omega)
        have a3 := G1 (i := i) (h := h2) (by omega)
        have hrun : ∃ e2, rpB (call AH (n + 1)) e' g' = .norm e2 h2 ∧ AB 0 e2 = pt tb ∧ AB 1 e2 = u ∧ AB 4 e2 = pt r4 ∧ AB 8 e2 = v2 ∧ AB 9 e2 = .int .i64 ((p + j : Nat) : Int) ∧ AB 10 e2 = .int .i64 ((i + 1 : Nat) : Int) := by
          unfold rpB
          simp only [sT, Nat.reduceLT, Nat.reduceEqDiff, if_true, if_false, reduceIte, gD, Ae, Ad, t10, c1, Ay, Ah, Ax, t1, t9, k1, Bw, CD, CE, C4, c2, c3, os, Cq, t8, a2, Bt, a3]
          exact ⟨_, rfl, by simp only [AF, Nat.reduceLT, Nat.reduceEqDiff, if_true, if_false, reduceIte]; exact t0, by simp only [AF, Nat.reduceLT, Nat.reduceEqDiff, if_true, if_false, reduceIte]; exact t1, by simp only [AF, Nat.reduceLT, Nat.reduceEqDiff, if_true, if_false, reduceIte]; exact t4, by simp [AF], by simp [AF], by simp [AF]⟩
        obtain ⟨e2, q1, q2, q3, q4, q5, q6, q7⟩ := hrun
        refine ⟨hlt, e2, h2, q1, x2, ns ++ [vv], v2, p + j, by rw [List.length_append, hns]; rfl, by rw [List.map_append]; exact o2, q2, q3, q4, q5, q6, q7, by omega, by omega, ?_⟩
        rw [hr, show 6 - (i + 1) = k by omega]
        cases rdN k l (p + j) with
        | none => rfl
        | some y =>
          obtain ⟨vs, q⟩ := y
          show some (ns ++ vv :: vs, q) = some (ns ++ [vv] ++ vs, q)
          rw [List.append_assoc]; rfl
      · right
        rw [if_neg hv] at hr
        have hr : rdN 6 l 0 = none := hr
        obtain ⟨e2, q1, q2, q3, q4, q5⟩ := fail (.inr ⟨c2, Fh (by omega)⟩)
        rw [q1]
        exact ⟨rfl, .inr ⟨e2, _, rfl, hr, w3, q2, q3, q4, q5, w2⟩⟩
    · right
      rw [hu] at hr
      have hr : rdN 6 l 0 = none := hr
      obtain ⟨e2, q1, q2, q3, q4, q5⟩ := fail (.inl (PP hc))
      rw [q1]
      exact ⟨rfl, .inr ⟨e2, _, rfl, hr, w3, q2, q3, q4, q5, w2⟩⟩
  · right
    have hi6 : i = 6 := by omega
    subst hi6
    have c1 : iLt ((6 : Nat) : Int) 6 = false := FU (a := 6) (b := 6) (by omega)
    have hrun : ∃ e2, rpB (call AH (n + 1)) e' g' = .exit 0 e2 g' ∧ AB 0 e2 = pt tb ∧ AB 1 e2 = u ∧ AB 4 e2 = pt r4 ∧ AB 8 e2 = v := by
      unfold rpB
      simp only [sT, Nat.reduceLT, Nat.reduceEqDiff, if_true, if_false, reduceIte, Ae, Ad, t10, c1]
      exact ⟨_, rfl, by simp only [AF, Nat.reduceLT, Nat.reduceEqDiff, if_true, if_false, reduceIte]; exact t0, by simp only [AF, Nat.reduceLT, Nat.reduceEqDiff, if_true, if_false, reduceIte]; exact t1, by simp only [AF, Nat.reduceLT, Nat.reduceEqDiff, if_true, if_false, reduceIte]; exact t4, by simp only [AF, Nat.reduceLT, Nat.reduceEqDiff, if_true, if_false, reduceIte]; exact t8⟩
    obtain ⟨e2, q1, q2, q3, q4, q5⟩ := hrun
    rw [q1]
    have hr : rdN 6 l 0 = some (ns ++ [], p) := hr
    rw [List.append_nil] at hr
    exact ⟨rfl, .inl ⟨e2, g', ns, p, v, rfl, x', o', hr, q2, q3, q4, q5⟩⟩
end
end Go.Proofs.YtfeldadhbnmklaaGreat
set_option linter.unusedVariables false
set_option linter.unusedSimpArgs false
namespace Go.Proofs.YtfeldadhbnmklaaGreat
noncomputable section
open Go
set_option maxRecDepth 100000
theorem Si : ∀ {ns : List Nat}, ns.length = 6 → CW (at6 ns 1) (at6 ns 2) (at6 ns 3) (at6 ns 0) (at6 ns 4) (at6 ns 5) = ns
  | [_, _, _, _, _, _], _ => rfl
theorem JO {g : Hp} {r k el : Nat} {ns : List Nat} (R : g.Row r el (ns.map nv)) (h6 : ns.length = 6) (hk : k < 6) : load1 ⟨r, k, none⟩ g = .ok (.int .u64 ((at6 ns k : Nat) : Int)) g := by
  have hil : k < ns.length := by omega
  unfold at6
  rw [R.load1 (off := k) (by rw [List.length_map]; exact hil), List.getD_eq_getElem?_getD, List.getElem?_map, List.getD_eq_getElem?_getD, List.getElem?_eq_getElem hil]; rfl
theorem QM {r k : Nat} (hk : k < 6) {g : Hp} : D4 1 (.slice (some ⟨r, 0, none⟩) 6 6) (.int .i64 (k : Int)) g = .ok (.pointer (some ⟨r, k, none⟩)) g := by
  have := Et (h := g) (n := 6) (c := 6) (es := 1) (b := r) (off := 0) (i := k) (k := .i64) hk
  rwa [Nat.zero_add, Nat.mul_one] at this
theorem fL {n : Nat} {h hA g : Hp} (W0 : h.Wf) (xA : h.Ext hA) (x : hA.Ext g) {r4 tb : Nat} (hr4 : h.next ≤ r4) (hr4A : r4 < hA.next) (R4 : hA.Row r4 0 (Aq 0 0 0 0 BK)) {T : List Nat} (R : hA.Row tb 0 (T.map wv)) (hT : Cm T) {u : Value} {l : List Nat} (V : hA.Vals u (l.map bv)) (hl : l.length ≤ 900000)
    {ns : List Nat} {v : Value} (o : g.Own hA.next 56 v (ns.map nv)) (h6 : ns.length = 6) (hns : ∀ v ∈ ns, v ≤ 1099511627776) {e : Env} (s0 : AB 0 e = pt tb) (s1 : AB 1 e = u) (s4 : AB 4 e = pt r4) (s8 : AB 8 e = v) :
    ((Mt ns ∧ CP T (Eh ns) = l) ∧ ∃ e2 g2, rpE (call AH (n + 3)) e g = .ret e2 g2 ∧ Ok4 h r4 ns e2 g2) ∨ (¬ (Mt ns ∧ CP T (Eh ns) = l) ∧ ∃ e2 g2, rpE (call AH (n + 3)) e g = .ret e2 g2 ∧ Km h r4 e2 g2) := by
  have W := x.wf
  have WA := xA.wf
  have hat : ∀ i, at6 ns i ≤ 1099511627776 := fun i => by
    unfold at6
    rw [List.getD_eq_getElem?_getD]
    cases h : ns[i]? with
    | none => exact Nat.zero_le _
    | some y => exact hns y (List.mem_of_getElem? h)
  have heta := Si h6
  have hml : (ns.map nv).length = 6 := by rw [List.length_map]; exact h6
  rcases o with ⟨_, hnil⟩ | ⟨b8, hv, R8, hb8, _⟩
  · rw [hnil] at hml; cases hml
  rw [hml] at hv
  rw [hv] at s8
  have h84 : b8 ≠ r4 := by omega
  have i0 : ∀ g : Hp, D4 1 (.slice (some ⟨b8, 0, none⟩) 6 6) (.int .i64 0) g = .ok (.pointer (some ⟨b8, 0, none⟩)) g := fun g => QM (k := 0) (by omega)
  have i1 : ∀ g : Hp, D4 1 (.slice (some ⟨b8, 0, none⟩) 6 6) (.int .i64 1) g = .ok (.pointer (some ⟨b8, 1, none⟩)) g := fun g => QM (k := 1) (by omega)
  have i2 : ∀ g : Hp, D4 1 (.slice (some ⟨b8, 0, none⟩) 6 6) (.int .i64 2) g = .ok (.pointer (some ⟨b8, 2, none⟩)) g := fun g => QM (k := 2) (by omega)
  have i3 : ∀ g : Hp, D4 1 (.slice (some ⟨b8, 0, none⟩) 6 6) (.int .i64 3) g = .ok (.pointer (some ⟨b8, 3, none⟩)) g := fun g => QM (k := 3) (by omega)
  have i4 : ∀ g : Hp, D4 1 (.slice (some ⟨b8, 0, none⟩) 6 6) (.int .i64 4) g = .ok (.pointer (some ⟨b8, 4, none⟩)) g := fun g => QM (k := 4) (by omega)
  have i5 : ∀ g : Hp, D4 1 (.slice (some ⟨b8, 0, none⟩) 6 6) (.int .i64 5) g = .ok (.pointer (some ⟨b8, 5, none⟩)) g := fun g => QM (k := 5) (by omega)
  have l0 := JO R8 h6 (k := 0) (by omega)
  have l4 := JO R8 h6 (k := 4) (by omega)
  have l5 := JO R8 h6 (k := 5) (by omega)
  have xh := xA.trans x
  have nok : ∀ {g' : Hp}, ¬ (Mt ns ∧ CP T (Eh ns) = l) → hA.Ext g' → (∃ e2, rpE (call AH (n + 3)) e g = .ret e2 (g'.wr r4 0 (Aq 0 0 0 0 BK)) ∧ AB 4 e2 = pt r4 ∧ AB 5 e2 = .int .i64 0 ∧ AB 6 e2 = .int .u32 0 ∧ AB 7 e2 = .bool false) →
      ((Mt ns ∧ CP T (Eh ns) = l) ∧ ∃ e2 g2, rpE (call AH (n + 3)) e g = .ret e2 g2 ∧ Ok4 h r4 ns e2 g2) ∨ (¬ (Mt ns ∧ CP T (Eh ns) = l) ∧ ∃ e2 g2, rpE (call AH (n + 3)) e g = .ret e2 g2 ∧ Km h r4 e2 g2) := fun {g'} hn xg ⟨e2, q1, q2, q3, q4, q5⟩ => by
    obtain ⟨_, w2, w3, _, _⟩ := IJ W0 (xA.trans xg) hr4 (R4.ext WA xg) rfl (a := 0) (b := 0) (c := 0) (s := 0) (u := BK) rfl
    exact .inr ⟨hn, e2, _, q1, w3, q2, q3, q4, q5, w2⟩
  have putz : ∀ {g' : Hp}, hA.Ext g' → storeR 5 (pt r4) (BS 0 0 0 0 BK) g' = .ok noRes (g'.wr r4 0 (Aq 0 0 0 0 BK)) := fun {g'} xg =>
    (IJ W0 (xA.trans xg) hr4 (R4.ext WA xg) rfl (a := 0) (b := 0) (c := 0) (s := 0) (u := BK) rfl).1
  have w0 := putz x
  by_cases h0 : at6 ns 0 ≤ 2
  · have c0 : iGt ((at6 ns 0 : Nat) : Int) 2 = false := Fg (by omega)
    by_cases h4 : at6 ns 4 ≤ 65536
    · have c4 : iGt ((at6 ns 4 : Nat) : Int) 65536 = false := Fg (by omega)
      by_cases h5 : at6 ns 5 ≤ 4294967295
      · have c5 : iGt ((at6 ns 5 : Nat) : Int) 4294967295 = false := Fg (by omega)
        have xm := x.marked
        have R8m : g.marked.Row b8 57 (ns.map nv) := R8.same rfl
        have m0 := JO R8m h6 (k := 0) (by omega)
        have m1 := JO R8m h6 (k := 1) (by omega)
        have m2 := JO R8m h6 (k := 2) (by omega)
        have m3 := JO R8m h6 (k := 3) (by omega)
        have v0 : CV .u8 (.int .u64 ((at6 ns 0 : Nat) : Int)) g.marked = .ok (.int .u8 ((at6 ns 0 : Nat) : Int)) g.marked := by rw [Bp, DO, Nat.mod_eq_of_lt (by omega)]
        have cv : ∀ (i : Nat) (g : Hp), CV .i64 (.int .u64 ((at6 ns i : Nat) : Int)) g = .ok (.int .i64 ((at6 ns i : Nat) : Int)) g := fun i g => by rw [Bp, Bc (by have := hat i; omega)]
        have v5 : ∀ g : Hp, CV .u32 (.int .u64 ((at6 ns 5 : Nat) : Int)) g = .ok (.int .u32 ((at6 ns 5 : Nat) : Int)) g := fun g => by rw [Bp, EI h5]
        have bd : ∀ (F : CallF) (e : Env), AB 58 e = .int .u8 ((at6 ns 0 : Nat) : Int) → AB 62 e = .int .i64 ((at6 ns 1 : Nat) : Int) → AB 66 e = .int .i64 ((at6 ns 2 : Nat) : Int) → AB 70 e = .int .i64 ((at6 ns 3 : Nat) : Int) →
            BA Cv.zero [(3, 1, AB 58), (0, 1, AB 62), (1, 1, AB 66), (2, 1, AB 70)] F e g.marked = .ok (BS (at6 ns 1) (at6 ns 2) (at6 ns 3) (at6 ns 0) BK) g.marked := fun F e h1 h2 h3 h4 => O1 h1 h2 h3 h4
        have Wq := xm.wf.quiet
        have p1 := (Hp.Ext.refl Wq).push (.cells Bx 5 0)
        have q1 : ∀ (F : CallF) (e : Env), AS .strong (A9 5 Bx) F e g.marked = .ok (.pointer (some ⟨g.next, 0, none⟩)) (g.marked.back (g.marked.quiet.push (.cells Bx 5 0))) := fun F e => Fp (DB Wq) p1 (Nat.le_refl _)
        have y1 : g.marked.Ext (g.marked.back (g.marked.quiet.push (.cells Bx 5 0))) := Hp.Ext.back p1
        have R14 : (g.marked.back (g.marked.quiet.push (.cells Bx 5 0))).Row g.next 0 (Aq 0 0 0 0 BK) := (Hp.Row.alloc Wq GC rfl).same rfl
        generalize g.marked.back (g.marked.quiet.push (.cells Bx 5 0)) = g1 at q1 y1 R14
        obtain ⟨st, _, z3, z4, _⟩ := IJ xm.wf y1.quiet (r := g.next) (Nat.le_refl _) (R14.same (h' := g1.quiet) rfl) rfl (a := at6 ns 1) (b := at6 ns 2) (c := at6 ns 3) (s := at6 ns 0) (u := BK) rfl
        have q2 : ∀ (F : CallF) (e : Env), AB 14 e = pt g.next → AB 71 e = BS (at6 ns 1) (at6 ns 2) (at6 ns 3) (at6 ns 0) BK → AS .free (AP 5 (AB 14) (AB 71)) F e g1 = .ok noRes (g1.back (g1.quiet.wr g.next 0 (Aq (at6 ns 1) (at6 ns 2) (at6 ns 3) (at6 ns 0) BK))) := fun F e e1 e2 => EA (by rw [BL, e1, e2]; exact st)
        have y2 : g.marked.Ext (g1.back (g1.quiet.wr g.next 0 (Aq (at6 ns 1) (at6 ns 2) (at6 ns 3) (at6 ns 0) BK))) := Hp.Ext.back2 y1 z3
        have R14 : (g1.back (g1.quiet.wr g.next 0 (Aq (at6 ns 1) (at6 ns 2) (at6 ns 3) (at6 ns 0) BK))).Row g.next 0 (Aq (at6 ns 1) (at6 ns 2) (at6 ns 3) (at6 ns 0) BK) := z4.same rfl
        generalize g1.back (g1.quiet.wr g.next 0 (Aq (at6 ns 1) (at6 ns 2) (at6 ns 3) (at6 ns 0) BK)) = g2 at q2 y2 R14
        have y2m := y2.marked
        have R14m : g2.marked.Row g.next 0 (Aq (at6 ns 1) (at6 ns 2) (at6 ns 3) (at6 ns 0) BK) := R14.same rfl
        have ld := (BG R14m).2.2.2.2.2
        have W2q := y2m.wf.quiet
        have k28 := Kg (n := n + 2) W2q (a := at6 ns 1) (b := at6 ns 2) (c := at6 ns 3) (s := at6 ns 0) (m := 0) (u := BK) (fun _ => rfl)
        have p3 := (Hp.Ext.refl W2q).pushRow 0 (Aq (at6 ns 1) (at6 ns 2) (at6 ns 3) (at6 ns 0) BK)
        have q3 : ∀ e : Env, AB 72 e = BS (at6 ns 1) (at6 ns 2) (at6 ns 3) (at6 ns 0) BK → AS .free (AL 28 [AB 72]) (call AH (n + 3)) e g2.marked = .ok (.bool (CB (at6 ns 1) (at6 ns 2) (at6 ns 3) (at6 ns 0) 0)) (g2.marked.back (g2.marked.quiet.pushRow 0 (Aq (at6 ns 1) (at6 ns 2) (at6 ns 3) (at6 ns 0) BK))) := fun e e1 => EA (by
          rw [Ay, Ah, Ax, e1]
          exact k28)
        have y3 : g2.marked.Ext (g2.marked.back (g2.marked.quiet.pushRow 0 (Aq (at6 ns 1) (at6 ns 2) (at6 ns 3) (at6 ns 0) BK))) := Hp.Ext.back p3
        generalize g2.marked.back (g2.marked.quiet.pushRow 0 (Aq (at6 ns 1) (at6 ns 2) (at6 ns 3) (at6 ns 0) BK)) = g3 at q3 y3
        have xA3 : hA.Ext g3 := (xm.trans y2m).trans y3
        have R14b := R14m.ext y2m.wf y3
        have ld3 := (BG R14b).2.2.2.2.2
        have R8b := R8m.ext xm.wf (y2m.trans y3)
        have n4 := JO R8b h6 (k := 4) (by omega)
        have n5 := JO R8b h6 (k := 5) (by omega)
        have w3 := putz xA3
        cases hr : CB (at6 ns 1) (at6 ns 2) (at6 ns 3) (at6 ns 0) 0 with
        | false =>
          rw [hr] at q3
          refine nok (g' := g3) (fun hh => by rw [hh.1.2.2.2] at hr; cases hr) xA3 ?_
          unfold rpE
          simp only [sT, Nat.reduceLT, Nat.reduceEqDiff, if_true, if_false, reduceIte, gD, CO, s8, i0, i1, i2, i3, i4, i5, Au, A5, l0, l4, l5, Ae, Ad, c0, c4, c5, CU, m0, m1, m2, m3, Ba, v0, cv, bd, q1, q2, B4, B3, ld, q3, Cl, Ck, Bool.not_false, Br, BL, s4, w3]
          exact ⟨_, rfl, by simp only [AF, Nat.reduceLT, Nat.reduceEqDiff, if_true, if_false, reduceIte]; exact s4, by simp [AF], by simp [AF], by simp [AF]⟩
        | true =>
          rw [hr] at q3
          obtain ⟨_, _, _, hb2, _, _, _, _⟩ := of_decide_eq_true hr
          have xA3q := xA3.quiet
          obtain ⟨h4', w, k29, y4, M⟩ := KL (n := n) xA3q.wf (R.ext WA xA3q) hT (a := at6 ns 1) (b := at6 ns 2) (c := at6 ns 3) (s := at6 ns 0) (m := at6 ns 4) (t := at6 ns 5) (u := BK) (hat 1) (by omega) (hat 3) (by omega) h4 (by omega)
          rw [heta] at M
          have q4 : ∀ e : Env, AB 76 e = pt tb → AB 77 e = BS (at6 ns 1) (at6 ns 2) (at6 ns 3) (at6 ns 0) BK → AB 81 e = .int .i64 (at6 ns 4 : Nat) → AB 85 e = .int .u32 (at6 ns 5 : Nat) → AS .free (AL 29 [AB 76, AB 77, AB 81, AB 85]) (call AH (n + 3)) e g3 = .ok w (g3.back h4') := fun e e1 e2 e3 e4 => EA (by
            rw [Ay, Ah, Ah, Ah, Ah, Ax, e1, e2, e3, e4]
            exact k29)
          have y4' : g3.Ext (g3.back h4') := Hp.Ext.back y4
          have M4 : Mk (g3.back h4') g3.quiet.next w (CP T (Eh ns)) := M.same rfl
          generalize g3.back h4' = g4 at q4 y4' M4
          have xA4 := xA3.trans y4'
          have xA4q := xA4.quiet
          have hsl : (CP T (Eh ns)).length ≤ 900000 := by
            have h1 := Ew (a := at6 ns 1) (b := at6 ns 2) (c := at6 ns 3) (s := at6 ns 0) (m := at6 ns 4) (t := at6 ns 5) (hat 1) (by omega) (hat 3) (by omega) h4 (by omega)
            rw [heta] at h1
            rw [Ex]
            unfold Eh
            rw [Fm (by omega)]
            omega
          obtain ⟨h5', k36, hq5⟩ := W7 (n := n + 2) (h := g4.quiet) ((M4.same (h' := g4.quiet) rfl).vals) (V.ext WA xA4q) hsl
          have p5 : g4.quiet.Ext h5' := by
            rcases hq5 with rfl | rfl
            · exact Hp.Ext.refl xA4q.wf
            · exact (Hp.Ext.refl xA4q.wf).marked
          have q5 : ∀ e : Env, AB 86 e = w → AB 87 e = u → AS .free (AL 36 [AB 86, AB 87]) (call AH (n + 3)) e g4 = .ok (.bool (decide (CP T (Eh ns) = l))) (g4.back h5') := fun e e1 e2 => EA (by
            rw [Ay, Ah, Ah, Ax, e1, e2]
            exact k36)
          have y5 : g4.Ext (g4.back h5') := Hp.Ext.back p5
          generalize g4.back h5' = g5 at q5 y5
          have xA5 := xA4.trans y5
          by_cases hs : CP T (Eh ns) = l
          · rw [decide_eq_true hs] at q5
            have xA5m := xA5.marked
            have xh5m := xA.trans xA5m
            have R8c : g5.marked.Row b8 57 (ns.map nv) := (R8b.ext xA3.wf (y4'.trans y5)).same rfl
            have f4 := JO R8c h6 (k := 4) (by omega)
            have f5 := JO R8c h6 (k := 5) (by omega)
            have R14c : g5.marked.Row g.next 0 (Aq (at6 ns 1) (at6 ns 2) (at6 ns 3) (at6 ns 0) BK) := (R14b.ext xA3.wf (y4'.trans y5)).same rfl
            have ld5 := (BG R14c).2.2.2.2.2
            have h256 : 256 ≤ r4 := by have := W0.big; omega
            have R4m := R4.ext WA xA5m
            have ck : ∀ (k : C) (F : CallF) (e : Env), AB 4 e = pt r4 → AB 94 e = .pointer (some ⟨b8, 4, none⟩) → AB 98 e = .pointer (some ⟨b8, 5, none⟩) → B7 (AB 4) [AB 94, AB 98] k F e g5.marked = k F e g5.marked := fun k F e e1 e2 e3 => Re e1 e2 e3 h84 h84
            have ta : ∀ (F : CallF) (e : Env), AB 4 e = pt r4 → AB 92 e = BS (at6 ns 1) (at6 ns 2) (at6 ns 3) (at6 ns 0) BK → Hm (AB 4) (AP 5 (AB 4) (AB 92)) F e g5.marked = .ok noRes (g5.marked.back (g5.marked.quiet.wr r4 0 (Aq (at6 ns 1) (at6 ns 2) (at6 ns 3) (at6 ns 0) BK))) := fun F e e1 e2 => Pi xA5m.wf e1 e2 R4m rfl h256 rfl
            obtain ⟨_, _, z3, z4, _⟩ := IJ W0 xh5m.quiet hr4 (R4m.same (h' := g5.marked.quiet) rfl) rfl (a := at6 ns 1) (b := at6 ns 2) (c := at6 ns 3) (s := at6 ns 0) (u := BK) rfl
            have xf : h.Ext (g5.marked.back (g5.marked.quiet.wr r4 0 (Aq (at6 ns 1) (at6 ns 2) (at6 ns 3) (at6 ns 0) BK))) := Hp.Ext.back2 xh5m z3
            have Rf : (g5.marked.back (g5.marked.quiet.wr r4 0 (Aq (at6 ns 1) (at6 ns 2) (at6 ns 3) (at6 ns 0) BK))).Row r4 0 (Aq (at6 ns 1) (at6 ns 2) (at6 ns 3) (at6 ns 0) BK) := z4.same rfl
            generalize g5.marked.back (g5.marked.quiet.wr r4 0 (Aq (at6 ns 1) (at6 ns 2) (at6 ns 3) (at6 ns 0) BK)) = g6 at ta xf Rf
            have ldf := (BG Rf).2.2.2.2.2
            left
            refine ⟨⟨⟨h0, h4, h5, hr⟩, hs⟩, ?_⟩
            have hrun : ∃ e2, rpE (call AH (n + 3)) e g = .ret e2 g6 ∧ AB 4 e2 = pt r4 ∧ AB 5 e2 = .int .i64 (at6 ns 4 : Nat) ∧ AB 6 e2 = .int .u32 (at6 ns 5 : Nat) ∧ AB 7 e2 = .bool true := by
              unfold rpE
              simp only [sT, Nat.reduceLT, Nat.reduceEqDiff, if_true, if_false, reduceIte, gD, CO, s8, i0, i1, i2, i3, i4, i5, Au, A5, l0, l4, l5, Ae, Ad, c0, c4, c5, CU, m0, m1, m2, m3, Ba, v0, cv, v5, bd, q1, q2, B4, B3, ld, q3, Cl, Ck, Bool.not_true, s0, s1, ld3, n4, n5, q4, q5, ld5, f4, f5, s4, ck, ta]
              exact ⟨_, rfl, by simp only [AF, Nat.reduceLT, Nat.reduceEqDiff, if_true, if_false, reduceIte]; exact s4, by simp [AF], by simp [AF], by simp [AF]⟩
            obtain ⟨e2, r1, r2, r3, r4', r5⟩ := hrun
            exact ⟨e2, g6, r1, xf, r2, r3, r4', r5, ldf⟩
          · rw [decide_eq_false hs] at q5
            have w5 := putz xA5
            refine nok (g' := g5) (fun hh => hs hh.2) xA5 ?_
            unfold rpE
            simp only [sT, Nat.reduceLT, Nat.reduceEqDiff, if_true, if_false, reduceIte, gD, CO, s8, i0, i1, i2, i3, i4, i5, Au, A5, l0, l4, l5, Ae, Ad, c0, c4, c5, CU, m0, m1, m2, m3, Ba, v0, cv, v5, bd, q1, q2, B4, B3, ld, q3, Cl, Ck, Bool.not_true, Bool.not_false, s0, s1, ld3, n4, n5, q4, q5, Br, BL, s4, w5]
            exact ⟨_, rfl, by simp only [AF, Nat.reduceLT, Nat.reduceEqDiff, if_true, if_false, reduceIte]; exact s4, by simp [AF], by simp [AF], by simp [AF]⟩
      · have c5 : iGt ((at6 ns 5 : Nat) : Int) 4294967295 = true := Fh (by omega)
        refine nok (g' := g) (fun hh => h5 hh.1.2.2.1) x ?_
        unfold rpE
        simp only [sT, Nat.reduceLT, Nat.reduceEqDiff, if_true, if_false, reduceIte, gD, CO, s8, i0, i4, i5, Au, A5, l0, l4, l5, Ae, Ad, c0, c4, c5, Br, BL, s4, w0]
        exact ⟨_, rfl, by simp only [AF, Nat.reduceLT, Nat.reduceEqDiff, if_true, if_false, reduceIte]; exact s4, by simp [AF], by simp [AF], by simp [AF]⟩
    · have c4 : iGt ((at6 ns 4 : Nat) : Int) 65536 = true := Fh (by omega)
      refine nok (g' := g) (fun hh => h4 hh.1.2.1) x ?_
      unfold rpE
      simp only [sT, Nat.reduceLT, Nat.reduceEqDiff, if_true, if_false, reduceIte, gD, CO, s8, i0, i4, i5, Au, A5, l0, l4, l5, Ae, Ad, c0, c4, Br, BL, s4, w0]
      exact ⟨_, rfl, by simp only [AF, Nat.reduceLT, Nat.reduceEqDiff, if_true, if_false, reduceIte]; exact s4, by simp [AF], by simp [AF], by simp [AF]⟩
  · have c0 : iGt ((at6 ns 0 : Nat) : Int) 2 = true := Fh (by omega)
    refine nok (g' := g) (fun hh => h0 hh.1.1) x ?_
    unfold rpE
    simp only [sT, Nat.reduceLT, Nat.reduceEqDiff, if_true, if_false, reduceIte, gD, CO, s8, i0, Au, A5, l0, Ae, Ad, c0, Br, BL, s4, w0]
    exact ⟨_, rfl, by simp only [AF, Nat.reduceLT, Nat.reduceEqDiff, if_true, if_false, reduceIte]; exact s4, by simp [AF], by simp [AF], by simp [AF]⟩
theorem Qt {n : Nat} {h : Hp} (W : h.Wf) {tb : Nat} {T : List Nat} (R : h.Row tb 0 (T.map wv)) (hT : Cm T) {u : Value} {l : List Nat} (V : h.Vals u (l.map bv)) (hb : ∀ x ∈ l, x < 256) (hl : l.length ≤ 900000) :
    ∃ h', h.Ext h' ∧ ((∃ ns, RH T l ns ∧ call AH (n + 4) 12 [pt tb, u] h = .ok (okT ns) h') ∨ ((¬ ∃ ns, RH T l ns) ∧ call AH (n + 4) 12 [pt tb, u] h = .ok noT h')) := by
  have f1 := fun (F : CallF) (e : Env) => DB (F := F) (e := e) (n := 5) (t := Bx) W
  have x1 := (Hp.Ext.refl W).push (.cells Bx 5 0)
  have R4 : (h.push (.cells Bx 5 0)).Row h.next 0 (Aq 0 0 0 0 BK) := Hp.Row.alloc W GC rfl
  have nA : (h.push (.cells Bx 5 0)).next = h.next + 1 := rfl
  generalize h.push (.cells Bx 5 0) = hA at f1 x1 R4 nA
  have pre : ∃ e1, VM (call AH (n + 3)) (Av e0 0 [pt tb, u]) h = rpS (call AH (n + 3)) e1 hA ∧ AB 0 e1 = pt tb ∧ AB 1 e1 = u ∧ AB 4 e1 = pt h.next ∧ AB 8 e1 = BK ∧ AB 9 e1 = .int .i64 ((0 : Nat) : Int) ∧ AB 10 e1 = .int .i64 ((0 : Nat) : Int) := by
    unfold VM
    simp only [Aa, Ab, Nat.succ_eq_add_one, Nat.zero_add, Nat.reduceAdd, sT, Nat.reduceLT, Nat.reduceEqDiff, if_true, if_false, reduceIte, f1]
    exact ⟨_, rfl, by simp [AF], by simp [AF], by simp [AF], by simp [AF], by simp only [AF, Nat.reduceLT, Nat.reduceEqDiff, if_true, if_false, reduceIte]; rfl, by simp only [AF, Nat.reduceLT, Nat.reduceEqDiff, if_true, if_false, reduceIte]; rfl⟩
  obtain ⟨e1, p1, p2, p3, p4, p5, p6, p7⟩ := pre
  rcases W3 (n := n + 2) W x1 (Hp.Ext.refl x1.wf) (Nat.le_refl _) R4 (V.ext W x1) hb hl p2 p3 p4 p5 p6 p7 with ⟨e2, g, ns, q, v, q1, x2, o, hrd, t0, t1, t4, t8⟩ | ⟨e2, g, q1, hrd, D⟩
  · obtain ⟨g1, g2, g3, g4, g5⟩ := HE 6 l 0 ns q hb (Nat.zero_le _) hrd
    rcases fL (n := n) W x1 x2 (Nat.le_refl _) (by omega) R4 (R.ext W x1) hT (V.ext W x1) hl o g1 g5 t0 t1 t4 t8 with ⟨ho, e3, g', r1, D⟩ | ⟨hno, e3, g', r1, D⟩
    · refine ⟨g', D.1, .inl ⟨ns, ⟨q, hrd, ho⟩, ?_⟩⟩
      rw [Ns rfl, Nv, p1, Od]
      simp only [Bj, BI, q1, BN, Bd, r1]
      exact S9 D
    · refine ⟨g', D.1, .inr ⟨?_, ?_⟩⟩
      · rintro ⟨ms, q', j1, j2⟩
        rw [hrd] at j1; cases j1
        exact hno j2
      · rw [Ns rfl, Nv, p1, Od]
        simp only [Bj, BI, q1, BN, Bd, r1]
        exact GA D
  · refine ⟨g, D.1, .inr ⟨?_, ?_⟩⟩
    · rintro ⟨ms, q', j1, j2⟩
      rw [hrd] at j1; cases j1
    · rw [Ns rfl, Nv, p1, Od]
      simp only [Bj, BI, q1, Bf, DL]
      exact GA D
end
end Go.Proofs.YtfeldadhbnmklaaGreat
set_option linter.unusedVariables false
set_option linter.unusedSimpArgs false
namespace Go.Proofs.YtfeldadhbnmklaaGreat
noncomputable section
open Go
set_option maxRecDepth 100000
theorem Nz {h : Hp} {t u v w : Value} {l : List Value} : Er 3 (.tuple ⟨t :: u :: v :: w :: l⟩) h = .ok w h := rfl
theorem qB : ty4.k = .bool := by kernel_rfl
theorem VC {F : CallF} {e : Env} {h : Hp} {x y : O} {k : Bool} (hx : x e = .bool k) (hy : y e = .bool k) : oEq ty4.k true x y F e h = .ok (.bool false) h := by
  show (match eqV ty4.k (x e) (y e) with | some r => okB (true != r) h | none => .no) = _
  rw [qB, hx, hy]
  cases k <;> exact Hs
theorem XV : CH .mt 0 Ld.zero = some Jq := by kernel_rfl
theorem bU : Ld.zero = (List.replicate 256 0).map wv := by kernel_rfl
theorem Ng : ∀ {L : List Value}, (∀ v ∈ L, isW v = true) → ∃ T : List Nat, L = T.map wv ∧ ∀ x ∈ T, x < 4294967296
  | [], _ => ⟨[], rfl, fun x hx => by cases hx⟩
  | v :: L, h => by
    obtain ⟨n, rfl, hn⟩ := LD (h v List.mem_cons_self)
    obtain ⟨T, rfl, hT⟩ := Ng fun x hx => h x (List.mem_cons_of_mem _ hx)
    refine ⟨n :: T, rfl, fun x hx => ?_⟩
    rcases List.mem_cons.1 hx with rfl | hx
    · exact hn
    · exact hT x hx
theorem Tt {T : List Nat} (h1 : T.length = 256) (h2 : ∀ x ∈ T, x < 4294967296) : Cm T := ⟨h1, fun i => by
  rw [List.getD_eq_getElem?_getD]
  cases h : T[i]? with
  | none => decide
  | some x => exact h2 x (List.mem_of_getElem? h)⟩
theorem XK : ∃ T : List Nat, Jl = T.map wv ∧ Cm T := by
  obtain ⟨_, _, h1, h2⟩ := Oo
  obtain ⟨T, h3, h4⟩ := Ng h2
  exact ⟨T, h3, Tt (by rw [h3, List.length_map] at h1; exact h1) h4⟩
theorem fp : Cm (List.replicate 256 0) := Tt (by rw [List.length_replicate]) fun x hx => by rw [List.eq_of_mem_replicate hx]; decide
theorem Jy : ∀ T : List Nat, B6 (T.map wv) = true
  | [] => rfl
  | x :: T => Jy T
theorem TP {h g : Hp} (W0 : h.Wf) (x : h.Ext g) {r : Nat} (hr : h.next ≤ r) {L : List Value} (R : g.Row r 0 L) (hL : L.length = 256) {T : List Nat} (hT : T.length = 256) :
    storeR 256 (pt r) (.agg ⟨T.map wv⟩) g = .ok noRes (g.wr r 0 (T.map wv)) ∧ h.Ext (g.wr r 0 (T.map wv)) ∧ (g.wr r 0 (T.map wv)).Row r 0 (T.map wv) := by
  have h256 : 256 ≤ r := by have := W0.big; omega
  have hl : (T.map wv).length = 256 := by rw [List.length_map]; exact hT
  have ho : 0 + (T.map wv).length ≤ L.length := by omega
  have st := R.storeR (n := 256) (off := 0) x.wf h256 (v := .agg ⟨T.map wv⟩) hl ho (Jy T)
  have wr := R.wr_self x.wf ho
  rw [TG (show L.length = (T.map wv).length by omega)] at wr
  exact ⟨st, R.wr_ext x hr ho, wr⟩
def Ie (h : Hp) (v : Value) (L : List Nat) : Prop := h.Vals v (L.map bv) ∧ Ig v ∧ (∀ x ∈ L, x < 256) ∧ L.length ≤ 900000
theorem Ie.ext {h h' : Hp} {v : Value} {L : List Nat} (b : Ie h v L) (W : h.Wf) (x : h.Ext h') : Ie h' v L := ⟨b.1.ext W x, b.2⟩
theorem V8 : Ig BK := fun o n c e => by cases e; exact Nat.le_refl _
theorem Vn {T : List Nat} {a b c : Int} {s : Nat} {l : List Nat} (hs : s < 256) {h1 g1 h2 g2 : Hp} {r1 r2 : R} (p : UM T a b c s l h1 g1 r1) (q : UM T a b c s l h2 g2 r2) :
    ∃ v1 v2 L c, r1 = .ok (.tuple ⟨[v1, .int .i64 c]⟩) g1 ∧ r2 = .ok (.tuple ⟨[v2, .int .i64 c]⟩) g2 ∧ Ie g1 v1 L ∧ Ie g2 v2 L := by
  rcases p with ⟨hr, v1, k1, M1⟩ | ⟨hr, k1⟩
  · rcases q with ⟨_, v2, k2, M2⟩ | ⟨hr', _⟩
    · obtain ⟨ha1, ha2, hb1, hb2, hc1, hc2, hs2, hm⟩ := of_decide_eq_true hr
      have hl := Ew (a := a.toNat) (b := b.toNat) (c := c.toNat) (s := s) (m := l.length) (t := Bz T l) (by omega) (by omega) (by omega) hs hm (FP T l)
      have h1 : ∀ x ∈ CP T (Eh (CW a.toNat b.toNat c.toNat s l.length (Bz T l))), x < 256 := NG (LQ Hx)
      have h2 : (CP T (Eh (CW a.toNat b.toNat c.toNat s l.length (Bz T l)))).length ≤ 900000 := by
        rw [Ex]
        unfold Eh
        rw [Fm (by omega)]
        omega
      exact ⟨v1, v2, _, 0, k1, k2, ⟨M1.vals, M1.cap, h1, h2⟩, ⟨M2.vals, M2.cap, h1, h2⟩⟩
    · rw [hr] at hr'; cases hr'
  · rcases q with ⟨hr', _⟩ | ⟨_, k2⟩
    · rw [hr] at hr'; cases hr'
    · have hb : ∀ g : Hp, Ie g BK [] := fun g => ⟨JN, V8, (fun x hx => by cases hx), Nat.zero_le _⟩
      exact ⟨_, _, [], 2, k1, k2, hb g1, hb g2⟩
theorem VD {n : Nat} {h : Hp} (W : h.Wf) {tb : Nat} {T : List Nat} (R : h.Row tb 0 (T.map wv)) (hT : Cm T) {u : Value} {l : List Nat} (B : Ie h u l) :
    ∃ (a b c : Int) (s : Nat) (i j : Int) (k : Bool) (h1 : Hp), call AH (n + 4) 11 [pt tb, u] h = .ok (.tuple ⟨[BS a b c s BK, .int .i64 i, .int .u32 j, .bool k]⟩) h1 ∧ h.Ext h1 ∧
      ∀ g, h1.Ext g → ∃ h2, call AH (n + 4) 12 [pt tb, u] g = .ok (.tuple ⟨[BS a b c s BK, .int .i64 i, .int .u32 j, .bool k]⟩) h2 ∧ g.Ext h2 := by
  obtain ⟨V, hC, hb, hl⟩ := B
  obtain ⟨h1, x1, P⟩ := TJ (n := n) W R hT V hC hb hl
  have Q : ∀ g, h1.Ext g → ∃ h2, g.Ext h2 ∧ ((∃ ns, RH T l ns ∧ call AH (n + 4) 12 [pt tb, u] g = .ok (okT ns) h2) ∨ ((¬ ∃ ns, RH T l ns) ∧ call AH (n + 4) 12 [pt tb, u] g = .ok noT h2)) := fun g x => Qt (n := n) x.wf (R.ext W (x1.trans x)) hT (V.ext W (x1.trans x)) hb hl
  rcases P with ⟨ns, hp, k1⟩ | ⟨hp, k1⟩
  · refine ⟨_, _, _, _, _, _, _, h1, k1, x1, fun g x => ?_⟩
    obtain ⟨h2, y, ⟨ms, hq, k2⟩ | ⟨hq, _⟩⟩ := Q g x
    · have := TH hp ((JW hb).2 hq)
      subst this
      exact ⟨h2, k2, y⟩
    · exact (hq ⟨ns, (JW hb).1 hp⟩).elim
  · refine ⟨_, _, _, _, _, _, _, h1, k1, x1, fun g x => ?_⟩
    obtain ⟨h2, y, ⟨ms, hq, k2⟩ | ⟨_, k2⟩⟩ := Q g x
    · exact (hp ⟨ms, (JW hb).2 hq⟩).elim
    · exact ⟨h2, k2, y⟩
def mlB : C := (cOp (AD 69) (AM iLt .i64 (AB 68) (AB 67))
(AJ (AB 69)
(Al (AK 1 (cOp (AD 70) (AY 1 (AB 66) (AB 68))
(cOp (AD 71) (AG (AB 70))
(cOp (AD 15) (AC (AB 71))
(cOp (AD 74) (AL 11 [(AB 9), (AB 15)])
(cOp (AD 75) (AN 0 (AB 74))
(cOp (AD 76) (AN 1 (AB 74))
(cOp (AD 77) (AN 2 (AB 74))
(cOp (AD 78) (AN 3 (AB 74))
(cOp (AD 16) (A9 5 Bx)
(cDo (AP 5 (AB 16) (AB 75))
(cOp (AD 17) (AC (AB 76))
(cOp (AD 18) (AC (AB 77))
(cOp (AD 19) (AC (AB 78))
(cOp (AD 81) (AL 12 [(AB 9), (AB 15)])
(cOp (AD 82) (AN 0 (AB 81))
(cOp (AD 83) (AN 1 (AB 81))
(cOp (AD 84) (AN 2 (AB 81))
(cOp (AD 85) (AN 3 (AB 81))
(cOp (AD 20) (A9 5 Bx)
(cDo (AP 5 (AB 20) (AB 82))
(cOp (AD 21) (AC (AB 83))
(cOp (AD 22) (AC (AB 84))
(cOp (AD 23) (AC (AB 85))
(cOp (AD 86) (Ac 5 (AB 16))
(cOp (AD 87) (Ac 5 (AB 20))
(cOp (AD 88) (AL 13 [(AB 86), (AB 87)])
(cOp (AD 89) (Bo (AB 88))
(cG (AB 89) false (AD 91) (AC (AB 17))
(cG (AB 89) false (AD 92) (AC (AB 21))
(cG (AB 89) false (AD 93) (AM iNe .i64 (AB 91) (AB 92))
(cOp (AD 94) (AW (AB 89) (kV (.bool true)) (AB 93))
(cG (AB 94) false (AD 96) (AC (AB 18))
(cG (AB 94) false (AD 97) (AC (AB 22))
(cG (AB 94) false (AD 98) (AM iNe .u32 (AB 96) (AB 97))
(cOp (AD 99) (AW (AB 94) (kV (.bool true)) (AB 98))
(cG (AB 99) false (AD 101) (AC (AB 19))
(cG (AB 99) false (AD 102) (AC (AB 23))
(cG (AB 99) false (AD 103) (oEq ty4.k true (AB 101) (AB 102))
(cOp (AD 104) (AW (AB 99) (kV (.bool true)) (AB 103))
(AJ (AB 104)
(cOp (AD 8) (AC (kV (.bool false)))
AU)
AO)))))))))))))))))))))))))))))))))))))))))
(cOp (AD 105) (Ai .i64 (AQ .i64) (AB 68) (kV (.int .i64 1)))
(cOp (AD 68) (AC (AB 105))
AO)))
(At 0)))
def mlE : C := (cOp (AD 106) (AL 4 [])
(cOp (AD 8) (AC (AB 106))
AU))
def mlS : C := (Al (AK 0 (Aj (cOp (AD 69) (AM iLt .i64 (AB 68) (AB 67))
(AJ (AB 69)
(Al (AK 1 (cOp (AD 70) (AY 1 (AB 66) (AB 68))
(cOp (AD 71) (AG (AB 70))
(cOp (AD 15) (AC (AB 71))
(cOp (AD 74) (AL 11 [(AB 9), (AB 15)])
(cOp (AD 75) (AN 0 (AB 74))
(cOp (AD 76) (AN 1 (AB 74))
(cOp (AD 77) (AN 2 (AB 74))
(cOp (AD 78) (AN 3 (AB 74))
(cOp (AD 16) (A9 5 Bx)
(cDo (AP 5 (AB 16) (AB 75))
(cOp (AD 17) (AC (AB 76))
(cOp (AD 18) (AC (AB 77))
(cOp (AD 19) (AC (AB 78))
(cOp (AD 81) (AL 12 [(AB 9), (AB 15)])
(cOp (AD 82) (AN 0 (AB 81))
(cOp (AD 83) (AN 1 (AB 81))
(cOp (AD 84) (AN 2 (AB 81))
(cOp (AD 85) (AN 3 (AB 81))
(cOp (AD 20) (A9 5 Bx)
(cDo (AP 5 (AB 20) (AB 82))
(cOp (AD 21) (AC (AB 83))
(cOp (AD 22) (AC (AB 84))
(cOp (AD 23) (AC (AB 85))
(cOp (AD 86) (Ac 5 (AB 16))
(cOp (AD 87) (Ac 5 (AB 20))
(cOp (AD 88) (AL 13 [(AB 86), (AB 87)])
(cOp (AD 89) (Bo (AB 88))
(cG (AB 89) false (AD 91) (AC (AB 17))
(cG (AB 89) false (AD 92) (AC (AB 21))
(cG (AB 89) false (AD 93) (AM iNe .i64 (AB 91) (AB 92))
(cOp (AD 94) (AW (AB 89) (kV (.bool true)) (AB 93))
(cG (AB 94) false (AD 96) (AC (AB 18))
(cG (AB 94) false (AD 97) (AC (AB 22))
(cG (AB 94) false (AD 98) (AM iNe .u32 (AB 96) (AB 97))
(cOp (AD 99) (AW (AB 94) (kV (.bool true)) (AB 98))
(cG (AB 99) false (AD 101) (AC (AB 19))
(cG (AB 99) false (AD 102) (AC (AB 23))
(cG (AB 99) false (AD 103) (oEq ty4.k true (AB 101) (AB 102))
(cOp (AD 104) (AW (AB 99) (kV (.bool true)) (AB 103))
(AJ (AB 104)
(cOp (AD 8) (AC (kV (.bool false)))
AU)
AO)))))))))))))))))))))))))))))))))))))))))
(cOp (AD 105) (Ai .i64 (AQ .i64) (AB 68) (kV (.int .i64 1)))
(cOp (AD 68) (AC (AB 105))
AO)))
(At 0)))))
(cOp (AD 106) (AL 4 [])
(cOp (AD 8) (AC (AB 106))
AU)))
theorem au : mlS = Al (AK 0 (Aj mlB)) mlE := rfl
def mR : C := (cOp (AD 38) (Ac 5 (AB 4))
(cOp (AD 39) (AL 6 [(AB 9), (AB 38)])
(cOp (AD 40) (AN 0 (AB 39))
(cOp (AD 41) (AN 1 (AB 39))
(cOp (AD 10) (AC (AB 40))
(cOp (AD 11) (AC (AB 41))
(cOp (AD 43) (Ac 5 (AB 4))
(cOp (AD 44) (AL 7 [(AB 9), (AB 43)])
(cOp (AD 45) (AN 0 (AB 44))
(cOp (AD 46) (AN 1 (AB 44))
(cOp (AD 12) (AC (AB 45))
(cOp (AD 13) (AC (AB 46))
(cOp (AD 49) (AL 8 [(AB 10), (AB 12)])
(cOp (AD 50) (Bo (AB 49))
(cG (AB 50) false (AD 52) (AC (AB 11))
(cG (AB 50) false (AD 53) (AC (AB 13))
(cG (AB 50) false (AD 54) (AM iNe .i64 (AB 52) (AB 53))
(cOp (AD 55) (AW (AB 50) (kV (.bool true)) (AB 54))
(cG (AB 55) false (AD 57) (AC (AB 2))
(cG (AB 55) false (AD 58) (AL 9 [(AB 57)])
(cG (AB 55) false (AD 59) (AC (AB 2))
(cG (AB 55) false (AD 60) (II (AB 59) (kV (.int .i64 131072)))
(cG (AB 55) false (AD 61) (AL 10 [(AB 60)])
(cG (AB 55) false (AD 62) (AM iNe .i64 (AB 58) (AB 61))
(cOp (AD 63) (AW (AB 55) (kV (.bool true)) (AB 62))
(AJ (AB 63)
(cOp (AD 8) (AC (kV (.bool false)))
AU)
(cOp (AD 66) (AX 2 (A6 HL.zero 2) [(0, 1, (AB 1)), (1, 1, (AB 10))])
(cOp (AD 67) (Aw (AB 66))
(cOp (AD 68) (AC (kV (.int .i64 0)))
mlS)))))))))))))))))))))))))))))
def d3h : C := (cOp (AD 4) (CG (AB 0))
(cOp (AD 8) (AC (kV (.bool false)))
(cOp (AD 24) (AE 4 (AB 4))
(cOp (AD 25) (AG (AB 24))
(cOp (AD 26) (Aw (AB 25))
(cOp (AD 27) (AM iGt .i64 (AB 26) (kV (.int .i64 300)))
(cG (AB 27) false (AD 29) (AC (AB 1))
(cG (AB 27) false (AD 30) (Aw (AB 29))
(cG (AB 27) false (AD 31) (AM iGt .i64 (AB 30) (kV (.int .i64 200)))
(cOp (AD 32) (AW (AB 27) (kV (.bool true)) (AB 31))
(AJ (AB 32)
(cOp (AD 33) (AL 4 [])
(cOp (AD 8) (AC (AB 33))
AU))
(cOp (AD 34) (AL 5 [])
(cOp (AD 9) (A9 256 Jq)
(cDo (AP 256 (AB 9) (AB 34))
(Al (AJ (AB 3)
(cOp (AD 36) (BA Ld.zero [])
(cDo (AP 256 (AB 9) (AB 36))
AO))
AO)
mR)))))))))))))))
theorem Rz : d3 = d3h := rfl
theorem V0 {n : Nat} {h : Hp} (W : h.Wf) {tb r : Nat} {T : List Nat} (R : h.Row tb 0 (T.map wv)) (hT : Cm T) {v0 v1 : Value} {l0 l1 : List Nat} (B0 : Ie h v0 l0) (B1 : Ie h v1 l1) (Rr : h.Row r 0 [v0, v1]) {e : Env} (s9 : AB 9 e = pt tb) (s66 : AB 66 e = .slice (some ⟨r, 0, none⟩) 2 2) (s67 : AB 67 e = .int .i64 2) (s68 : AB 68 e = .int .i64 ((0 : Nat) : Int)) :
    ∃ e' h', Aj mlB (call AH (n + 4)) e h = .exit 0 e' h' ∧ h.Ext h' := by
  refine CF (I := fun i e' h' => h.Ext h' ∧ AB 9 e' = pt tb ∧ AB 66 e' = .slice (some ⟨r, 0, none⟩) 2 2 ∧ AB 67 e' = .int .i64 2 ∧ AB 68 e' = .int .i64 (i : Int) ∧ i ≤ 2)
    (Q := fun x => ∃ e' h', x = .exit 0 e' h' ∧ h.Ext h') 2 (by omega) (fun i e' h' ⟨x', t9, t66, t67, t68, hi⟩ => ?_) ⟨.refl W, s9, s66, s67, s68, by omega⟩
  by_cases hlt : i < 2
  · left
    have W' := x'.wf
    have c1 : iLt (i : Int) 2 = true := IH (b := 2) hlt
    have i1 : D4 1 (.slice (some ⟨r, 0, none⟩) 2 2) (.int .i64 (i : Int)) h' = .ok (.pointer (some ⟨r, i, none⟩)) h' := by
      have := Et (h := h') (n := 2) (c := 2) (es := 1) (b := r) (off := 0) (i := i) (k := .i64) hlt
      rwa [Nat.zero_add, Nat.mul_one] at this
    obtain ⟨v, l, B, ld⟩ : ∃ v l, Ie h v l ∧ load1 ⟨r, i, none⟩ h' = .ok v h' := by
      have R' := Rr.ext W x'
      rcases (show i = 0 ∨ i = 1 by omega) with rfl | rfl
      · exact ⟨v0, l0, B0, R'.load1 (off := 0) (by show 0 < 2; omega)⟩
      · exact ⟨v1, l1, B1, R'.load1 (off := 1) (by show 1 < 2; omega)⟩
    obtain ⟨a, b, c, s, p, q, k, h1, k1, x1, K2⟩ := VD (n := n) W' (R.ext W x') hT (B.ext W x')
    have f1 := fun (F : CallF) (e : Env) => DB (F := F) (e := e) (n := 5) (t := Bx) x1.wf
    have y1 := x1.push (.cells Bx 5 0)
    have R16 : (h1.push (.cells Bx 5 0)).Row h1.next 0 (Aq 0 0 0 0 BK) := Hp.Row.alloc x1.wf GC rfl
    have z1 : h1.Ext (h1.push (.cells Bx 5 0)) := (Hp.Ext.refl x1.wf).push _
    generalize h1.push (.cells Bx 5 0) = h2 at f1 y1 R16 z1
    obtain ⟨st1, ld1, x2, R16', _⟩ := IJ x1.wf z1 (Nat.le_refl _) R16 rfl (a := a) (b := b) (c := c) (s := s) (u := BK) rfl
    generalize h2.wr h1.next 0 (Aq a b c s BK) = h3 at st1 ld1 x2 R16'
    obtain ⟨h4, k2, y4⟩ := K2 h3 x2
    have f2 := fun (F : CallF) (e : Env) => DB (F := F) (e := e) (n := 5) (t := Bx) y4.wf
    have R20 : (h4.push (.cells Bx 5 0)).Row h4.next 0 (Aq 0 0 0 0 BK) := Hp.Row.alloc y4.wf GC rfl
    have z4 : h4.Ext (h4.push (.cells Bx 5 0)) := (Hp.Ext.refl y4.wf).push _
    generalize h4.push (.cells Bx 5 0) = h5 at f2 R20 z4
    obtain ⟨st2, ld2, x5, _, _⟩ := IJ y4.wf z4 (Nat.le_refl _) R20 rfl (a := a) (b := b) (c := c) (s := s) (u := BK) rfl
    generalize h5.wr h4.next 0 (Aq a b c s BK) = h6 at st2 ld2 x5
    have x6 := (x1.trans x2).trans (y4.trans x5)
    have ld16 := (BG (R16'.ext x2.wf (y4.trans x5))).2.2.2.2.2
    obtain ⟨h7, k13, y7⟩ := Th (n := n + 2) x6.wf (a := a) (b := b) (c := c) (s := s)
    have c2 : iNe p p = false := H6 rfl
    have c3 : iNe q q = false := H6 rfl
    have be : ∀ (F : CallF) (e : Env), AB 101 e = .bool k → AB 102 e = .bool k → oEq ty4.k true (AB 101) (AB 102) F e h7 = .ok (.bool false) h7 := fun F e e1 e2 => VC e1 e2
    have a3 := G1 (i := i) (h := h7) (by omega)
    have hrun : ∃ e2, mlB (call AH (n + 4)) e' h' = .norm e2 h7 ∧ AB 9 e2 = pt tb ∧ AB 66 e2 = .slice (some ⟨r, 0, none⟩) 2 2 ∧ AB 67 e2 = .int .i64 2 ∧ AB 68 e2 = .int .i64 ((i + 1 : Nat) : Int) := by
      unfold mlB
      simp only [sT, Nat.reduceLT, Nat.reduceEqDiff, if_true, if_false, reduceIte, gD, Ae, Ad, t68, t67, c1, CO, t66, i1, Au, A5, ld, Ay, Ah, Ax, t9, k1, Bw, CD, CE, C4, Nz, f1, BL, st1, k2, f2, st2, B4, B3, ld16, ld2, k13, Cl, Ck, Bool.not_true, c2, c3, be, Bt, a3]
      exact ⟨_, rfl, by simp only [AF, Nat.reduceLT, Nat.reduceEqDiff, if_true, if_false, reduceIte]; exact t9, by simp only [AF, Nat.reduceLT, Nat.reduceEqDiff, if_true, if_false, reduceIte]; exact t66, by simp only [AF, Nat.reduceLT, Nat.reduceEqDiff, if_true, if_false, reduceIte]; exact t67, by simp [AF]⟩
    obtain ⟨e2, q1, q2, q3, q4, q5⟩ := hrun
    exact ⟨hlt, e2, h7, q1, (x'.trans x6).trans y7, q2, q3, q4, q5, hlt⟩
  · right
    have hi2 : i = 2 := by omega
    subst hi2
    have c1 : iLt ((2 : Nat) : Int) 2 = false := FU (a := 2) (b := 2) (by omega)
    have hrun : ∃ e2, mlB (call AH (n + 4)) e' h' = .exit 0 e2 h' := by
      unfold mlB
      simp only [sT, Nat.reduceLT, Nat.reduceEqDiff, if_true, if_false, reduceIte, Ae, Ad, t68, t67, c1]
      exact ⟨_, rfl⟩
    obtain ⟨e2, q1⟩ := hrun
    rw [q1]
    exact ⟨rfl, e2, h', rfl, x'⟩
theorem XS : A6 HL.zero 2 = [BK, BK] := by kernel_rfl
theorem Ot {F : CallF} {e : Env} {h : Hp} (W : h.Wf) {g1 g2 : O} {u v : Value} {a b : Option Addr} {n1 c1 n2 c2 : Nat} (h1 : g1 e = .slice a n1 c1) (h2 : g2 e = .slice b n2 c2) :
    AX 2 (A6 HL.zero 2) [(0, 1, g1), (1, 1, g2)] F e h = .ok (.slice (some ⟨h.next, 0, none⟩) 2 2) (h.pushRow 0 [.slice a n1 c1, .slice b n2 c2]) := by
  have cs : ∀ (a : Option Addr) (n c : Nat), cellsOf (.slice a n c) = [.slice a n c] := fun _ _ _ => rfl
  rw [Cr, XS, BV (hk := by rw [h1]; rfl), h1, BV (hk := by rw [h2]; rfl), h2]
  simp only [cs, List.length_singleton, List.length_cons, List.length_nil, over, List.take, List.drop, List.append_eq, List.nil_append, List.cons_append, Nat.reduceAdd, Nat.reduceLeDiff, if_true, C7, reduceIte]
  rw [DA W]; rfl
theorem Wy {n : Nat} {h : Hp} (W : h.Wf) {tb r : Nat} {T : List Nat} (R : h.Row tb 0 (T.map wv)) (hT : Cm T) {a b c z : Int} {s : Nat} {u ub : Value} {l m : List Nat} (R4 : h.Row r 0 (Aq a b c s u)) (V : h.Vals u (l.map bv)) (hb : ∀ x ∈ l, x < 256) (hl : l.length ≤ 900000) (hs : s < 256) (Bb : Ie h ub m)
    {e : Env} (s1 : AB 1 e = ub) (s2 : AB 2 e = .int .i64 z) (s4 : AB 4 e = pt r) (s9 : AB 9 e = pt tb) : ∃ e' h', mR (call AH (n + 4)) e h = .ret e' h' ∧ h.Ext h' ∧ AB 8 e' = .bool true := by
  have ld := (BG R4).2.2.2.2.2
  obtain ⟨h1, x1, H1⟩ := Vr (n := n + 1) W R hT (a := a) (b := b) (c := c) (s := s) V hb hs hl
  have ld1 := (BG (R4.ext W x1)).2.2.2.2.2
  obtain ⟨h2, x2, H2⟩ := TR (n := n) x1.wf (R.ext W x1) hT (a := a) (b := b) (c := c) (s := s) (V.ext W x1) hb hs hl
  obtain ⟨v1, v2, L, cc, k1, k2, B1, B2⟩ := Vn hs H1 H2
  have x12 := x1.trans x2
  have B1' := B1.ext x1.wf x2
  have k8 : call AH (n + 4) 8 [v1, v2] h2 = .ok (.bool true) h2 := by
    have := X6 (n := n + 3) B1'.1 B2.1 B1.2.2.1 B2.2.2.1
    rw [decide_eq_true rfl] at this
    exact this
  have k9 := XB (n := n + 3) (h := h2) (z := z)
  have k10 := TU (n := n + 3) (h := h2) (z := min z 131072)
  rw [Qy] at k10
  have mn : ∀ (F : CallF) (e : Env), AB 59 e = .int .i64 z → II (AB 59) (kV (.int .i64 131072)) F e h2 = .ok (.int .i64 (min z 131072)) h2 := fun F e he => Sd he rfl
  have c1 : iNe cc cc = false := H6 rfl
  have c2 : iNe ((EY z : Nat) : Int) ((EY z : Nat) : Int) = false := H6 rfl
  obtain ⟨oa, oc, hub⟩ := Bb.1.shape
  obtain ⟨va, vc, hv1⟩ := B1.1.shape
  have bs : ∀ (F : CallF) (e : Env), AB 1 e = ub → AB 10 e = v1 → AX 2 (A6 HL.zero 2) [(0, 1, AB 1), (1, 1, AB 10)] F e h2 = .ok (.slice (some ⟨h2.next, 0, none⟩) 2 2) (h2.pushRow 0 [ub, v1]) := fun F e e1 e2 => by
    rw [hub] at e1 ⊢
    rw [hv1] at e2 ⊢
    exact Ot (u := ub) (v := v1) x2.wf e1 e2
  have x3 := x2.pushRow 0 [ub, v1]
  have y3 := (Hp.Ext.refl x2.wf).pushRow 0 [ub, v1]
  have R66 := Hp.Row.new x2.wf 0 [ub, v1]
  generalize h2.pushRow 0 [ub, v1] = h3 at bs x3 y3 R66
  have x13 := x1.trans x3
  have pre : ∃ e1, mR (call AH (n + 4)) e h = mlS (call AH (n + 4)) e1 h3 ∧ AB 9 e1 = pt tb ∧ AB 66 e1 = .slice (some ⟨h2.next, 0, none⟩) 2 2 ∧ AB 67 e1 = .int .i64 2 ∧ AB 68 e1 = .int .i64 ((0 : Nat) : Int) := by
    unfold mR
    simp only [sT, Nat.reduceLT, Nat.reduceEqDiff, if_true, if_false, reduceIte, gD, B4, B3, s4, ld, Ay, Ah, Ax, s9, k1, Bw, CD, CE, ld1, k2, k8, Cl, Ck, Bool.not_true, Ae, Ad, c1, s2, k9, mn, k10, c2, s1, bs, Az, MR]
    exact ⟨_, rfl, by simp only [AF, Nat.reduceLT, Nat.reduceEqDiff, if_true, if_false, reduceIte]; exact s9, by simp [AF], by simp only [AF, Nat.reduceLT, Nat.reduceEqDiff, if_true, if_false, reduceIte]; rfl, by simp only [AF, Nat.reduceLT, Nat.reduceEqDiff, if_true, if_false, reduceIte]; rfl⟩
  obtain ⟨e1, p1, p2, p3, p4, p5⟩ := pre
  obtain ⟨e2, h4, q1, y4⟩ := V0 (n := n) x13.wf (R.ext W x13) hT (Bb.ext W x13) (B1'.ext x2.wf y3) R66 p2 p3 p4 p5
  have aw : call AH (n + 4) 4 [] h4 = .ok (.bool true) h4 := Ip (bs := AH) (n := n + 3) (f := 4) Ln
  have hrun : ∃ e3, mlE (call AH (n + 4)) e2 h4 = .ret e3 h4 ∧ AB 8 e3 = .bool true := by
    unfold mlE
    simp only [sT, Nat.reduceLT, Nat.reduceEqDiff, if_true, if_false, reduceIte, Ay, Ah, Ax, aw]
    exact ⟨_, rfl, by simp [AF]⟩
  obtain ⟨e3, r1, r2⟩ := hrun
  refine ⟨e3, h4, ?_, x13.trans y4, r2⟩
  rw [p1, au]
  simp only [Bj, BI, q1, BN, Bd, r1]
theorem Tu {n : Nat} {h : Hp} (W : h.Wf) {a b c z : Int} {s : Nat} {u ub : Value} {l m : List Nat} {o : Bool} (V : h.Vals u (l.map bv)) (hb : ∀ x ∈ l, x < 256) (hs : s < 256) (Vb : h.Vals ub (m.map bv)) (hC : Ig ub) (hm : ∀ x ∈ m, x < 256) :
    ∃ h', call AH (n + 5) 3 [BS a b c s u, ub, .int .i64 z, .bool o] h = .ok (.bool true) h' ∧ h.Ext h' := by
  have x1 := (Hp.Ext.refl W).pushRow 0 (Aq a b c s u)
  have R4 := Hp.Row.new W 0 (Aq a b c s u)
  have bx : ∀ e : Env, AB 0 e = BS a b c s u → CG (AB 0) (call AH (n + 4)) e h = .ok (.pointer (some ⟨h.next, 0, none⟩)) (h.pushRow 0 (Aq a b c s u)) := fun e he => EC W he
  generalize h.pushRow 0 (Aq a b c s u) = h1 at x1 R4 bx
  obtain ⟨_, _, _, _, l4, _⟩ := BG R4
  have Vl := V.bl h1
  have Vm := Vb.bl h1
  have aw : call AH (n + 4) 4 [] h1 = .ok (.bool true) h1 := Ip (bs := AH) (n := n + 3) (f := 4) Ln
  by_cases hl : 300 < l.length
  · have c1 : iGt (l.length : Int) 300 = true := Fh (by omega)
    refine ⟨h1, ?_, x1⟩
    rw [Ri rfl, Rz]
    unfold d3h
    simp only [Aa, Ab, Nat.succ_eq_add_one, Nat.zero_add, Nat.reduceAdd, sT, Nat.reduceLT, Nat.reduceEqDiff, if_true, if_false, reduceIte, gD, bx, A2, BO, Au, A5, l4, Az, Vl, Ae, Ad, c1, Ay, Ah, Ax, aw, Ak, A1]
  · have c1 : iGt (l.length : Int) 300 = false := Fg (by omega)
    by_cases hm2 : 200 < m.length
    · have c2 : iGt (m.length : Int) 200 = true := Fh (by omega)
      refine ⟨h1, ?_, x1⟩
      rw [Ri rfl, Rz]
      unfold d3h
      simp only [Aa, Ab, Nat.succ_eq_add_one, Nat.zero_add, Nat.reduceAdd, sT, Nat.reduceLT, Nat.reduceEqDiff, if_true, if_false, reduceIte, gD, bx, A2, BO, Au, A5, l4, Az, Vl, Vm, Ae, Ad, c1, c2, Ay, Ah, Ax, aw, Ak, A1]
    · have c2 : iGt (m.length : Int) 200 = false := Fg (by omega)
      have k5 : call AH (n + 4) 5 [] h1 = .ok (.agg ⟨Jl⟩) h1 := P8 (n := n + 3) Ts
      obtain ⟨T, hTl, hT⟩ := XK
      rw [hTl] at k5
      have hz : Ld.zero.length = 256 := by kernel_rfl
      have f9 := fun (F : CallF) (e : Env) => DB (F := F) (e := e) (n := 256) (t := Jq) x1.wf
      have y2 := (Hp.Ext.refl x1.wf).push (.cells Jq 256 0)
      have R9 : (h1.push (.cells Jq 256 0)).Row h1.next 0 Ld.zero := Hp.Row.alloc x1.wf XV hz
      generalize h1.push (.cells Jq 256 0) = h2 at f9 y2 R9
      obtain ⟨st, y3, R9'⟩ := TP x1.wf y2 (Nat.le_refl _) R9 hz hT.1
      generalize h2.wr h1.next 0 (T.map wv) = h3 at st y3 R9'
      have mid : ∃ e3 h4 T', d3h (call AH (n + 4)) (Av e0 0 [BS a b c s u, ub, .int .i64 z, .bool o]) h = mR (call AH (n + 4)) e3 h4 ∧ h1.Ext h4 ∧ h4.Row h1.next 0 (T'.map wv) ∧ Cm T' ∧ AB 1 e3 = ub ∧ AB 2 e3 = .int .i64 z ∧ AB 4 e3 = pt h.next ∧ AB 9 e3 = pt h1.next := by
        cases o with
        | false =>
          have hrun : ∃ e3, d3h (call AH (n + 4)) (Av e0 0 [BS a b c s u, ub, .int .i64 z, .bool false]) h = mR (call AH (n + 4)) e3 h3 ∧ AB 1 e3 = ub ∧ AB 2 e3 = .int .i64 z ∧ AB 4 e3 = pt h.next ∧ AB 9 e3 = pt h1.next := by
            unfold d3h
            simp only [Aa, Ab, Nat.succ_eq_add_one, Nat.zero_add, Nat.reduceAdd, sT, Nat.reduceLT, Nat.reduceEqDiff, if_true, if_false, reduceIte, gD, bx, A2, BO, Au, A5, l4, Az, Vl, Vm, Ae, Ad, c1, c2, Ay, Ah, Ax, k5, f9, BL, st]
            exact ⟨_, rfl, by simp [AF], by simp [AF], by simp [AF], by simp [AF]⟩
          obtain ⟨e3, q1, q2, q3, q4, q5⟩ := hrun
          exact ⟨e3, h3, T, q1, y3, R9', hT, q2, q3, q4, q5⟩
        | true =>
          have b29 : ∀ (F : CallF) (e : Env), BA Ld.zero [] F e h3 = .ok (.agg ⟨(List.replicate 256 0).map wv⟩) h3 := fun F e => by
            rw [Ho, C7, bU]
          obtain ⟨st2, y4, R9z⟩ := TP x1.wf y3 (Nat.le_refl _) R9' (by rw [List.length_map]; exact hT.1) (T := List.replicate 256 0) fp.1
          generalize h3.wr h1.next 0 ((List.replicate 256 0).map wv) = h4 at st2 y4 R9z
          have hrun : ∃ e3, d3h (call AH (n + 4)) (Av e0 0 [BS a b c s u, ub, .int .i64 z, .bool true]) h = mR (call AH (n + 4)) e3 h4 ∧ AB 1 e3 = ub ∧ AB 2 e3 = .int .i64 z ∧ AB 4 e3 = pt h.next ∧ AB 9 e3 = pt h1.next := by
            unfold d3h
            generalize (List.replicate 256 0).map wv = zs at b29 st2
            simp only [Aa, Ab, Nat.succ_eq_add_one, Nat.zero_add, Nat.reduceAdd, sT, Nat.reduceLT, Nat.reduceEqDiff, if_true, if_false, reduceIte, gD, bx, A2, BO, Au, A5, l4, Az, Vl, Vm, Ae, Ad, c1, c2, Ay, Ah, Ax, k5, f9, BL, st, b29, st2]
            exact ⟨_, rfl, by simp [AF], by simp [AF], by simp [AF], by simp [AF]⟩
          obtain ⟨e3, q1, q2, q3, q4, q5⟩ := hrun
          exact ⟨e3, h4, _, q1, y4, R9z, fp, q2, q3, q4, q5⟩
      obtain ⟨e3, h4, T', q1, y4, RT, hT', q2, q3, q4, q5⟩ := mid
      have x4 := x1.trans y4
      obtain ⟨e4, h5, r1, y5, r2⟩ := Wy (n := n) x4.wf RT hT' (R4.ext x1.wf y4) (V.ext W x4) hb (by omega) hs ⟨Vb.ext W x4, hC, hm, by omega⟩ q2 q3 q4 q5
      refine ⟨h5, ?_, x4.trans y5⟩
      rw [Ri rfl, Rz, q1, r1]
      simp only [Ak, A1, r2]
end
end Go.Proofs.YtfeldadhbnmklaaGreat
namespace Go.Proofs.YtfeldadhbnmklaaGreat.slotsTells
noncomputable section
open Go Go.ChangeShapes Go.WideShapes Go.ChangeAt Go.RowKit
set_option linter.unusedVariables false
theorem own : ownKnob Tryz.prog.godebug = none := by kernel_rfl
theorem IP : laidOutB Tryz.prog = true := by kernel_rfl
theorem Ro : Tryz.prog.cellsOf 5 = 1 := by kernel_rfl
theorem XO {P : Program} {W : World} {base t : Nat} {v : Value} (ht : P.underlying t = some (.int .u8)) (h : Cell.okWide P W .any base t v) : ∃ n : Nat, v = .int .u8 (n : Int) ∧ n < 256 := by
  unfold Cell.okWide at h
  rw [ht] at h
  have h : Cell.ok P W .any base t v := by cases v <;> exact h
  unfold Cell.ok at h
  rw [ht] at h
  split at h <;> first | (exact h.elim; done) | skip
  all_goals (rename_i n e1 _; cases e1)
  have h1 : 0 ≤ n := h.2.1
  have h2 : n ≤ 255 := h.2.2
  obtain ⟨m, rfl⟩ := Int.eq_ofNat_of_zero_le h1
  exact ⟨m, by rw [h.1], by omega⟩
theorem SU {P : Program} {W : World} {base t : Nat} {k : IntKind} {v : Value} (ht : P.underlying t = some (.int k)) (h : Value.okWide P W .any base t v) : ∃ n, v = .int k n := by
  unfold Value.okWide at h
  rw [ht] at h
  exact G2 ht h
theorem RZ {P : Program} {W : World} {base t : Nat} {v : Value} (ht : P.underlying t = some .bool) (h : Value.okWide P W .any base t v) : ∃ b, v = .bool b := by
  unfold Value.okWide at h
  rw [ht] at h
  have h : Cell.okWide P W .any base t v := h
  unfold Cell.okWide at h
  rw [ht] at h
  have h : Cell.ok P W .any base t v := by cases v <;> exact h
  unfold Cell.ok at h
  rw [ht] at h
  cases v with
  | bool b => exact ⟨b, rfl⟩
  | _ => exact h.elim
theorem Lr {l : List Int} (h : ∀ z ∈ l, (Lit.int .u8 z).wf = true) : ∃ m : List Nat, Dq .u8 l = m.map bv ∧ ∀ x ∈ m, x < 256 := by
  refine ⟨l.map Int.toNat, ?_, fun x hx => ?_⟩
  · unfold Dq
    rw [List.map_map]
    refine List.map_congr_left fun z hz => ?_
    have := bounds_u8 (h z hz)
    show Value.int .u8 z = .int .u8 ((z.toNat : Nat) : Int)
    rw [Int.toNat_of_nonneg this.1]
  · obtain ⟨z, hz, rfl⟩ := List.mem_map.1 hx
    have := bounds_u8 (h z hz)
    omega
theorem Zy {φ : Phi} {u v : Value} (h : RelV φ u v) : Ig u := fun o n c e => by
  subst e
  cases h with
  | slice0 => exact Nat.le_refl _
  | slice hn _ => exact hn
set_option maxRecDepth 100000 in
theorem qt {H : Type} {enc : TypeId × Value → H} (x y z o : Value) (w : World) {base : Nat} {d e : DataW H} {p q : List MemPlace} (hx : Value.okWide Tryz.prog w .any base 25 x) (hy : Value.okWide Tryz.prog w .any base 23 y) (hz : Value.okWide Tryz.prog w .any base 3 z) (ho : Value.okWide Tryz.prog w .any base 4 o)
    (tx : DataW.Trod enc Tryz.prog w 0 (fun _ => true) true 25 x d p) (ty : DataW.Trod enc Tryz.prog w 0 (fun _ => true) true 23 y e q) (fx : ∀ b off, MemPlace.cell b off ∈ p → w.frozen? ⟨b, off, none⟩ = false) (fy : ∀ b off, MemPlace.cell b off ∈ q → w.frozen? ⟨b, off, none⟩ = false) :
    Calls Tryz.prog 3 #[x, y, z, o] w fun e w' => e = .returned (.bool true) ∧ Below w.heap.size w w' := by
  obtain ⟨l, rfl, hl, hc⟩ := UP Tryz.underlying25 (ts := [3, 3, 3, 22, 23]) (by kernel_rfl) (by kernel_rfl) hx
  match l, hl, hc with
  | [x0, x1, x2, x3, x4], _, hc =>
    obtain ⟨a, rfl⟩ := G2 Tryz.underlying3 (hc 0 3 x0 rfl rfl)
    obtain ⟨b, rfl⟩ := G2 Tryz.underlying3 (hc 1 3 x1 rfl rfl)
    obtain ⟨c, rfl⟩ := G2 Tryz.underlying3 (hc 2 3 x2 rfl rfl)
    obtain ⟨s, rfl, hs⟩ := XO Tryz.underlying22 (hc 3 22 x3 rfl rfl)
    have h4 := hc 4 23 x4 rfl rfl
    obtain ⟨fuel, hf⟩ := tx
    obtain ⟨xs, n, _, hxs, _, hn, hfs⟩ := DataW.trod_struct Tryz.underlying25 hf
    have hp : p = xs.flatMap (·.2) := congrArg Prod.snd hxs
    have h3 := hfs 4 _ rfl
    have h3 : DataW.trod enc Tryz.prog w 0 (fun _ => true) true n 23 [x4] = xs[4]? := h3
    have hn : xs.length = 5 := hn
    cases hx2 : xs[4]? with
    | none => rw [List.getElem?_eq_none_iff] at hx2; omega
    | some r =>
      rw [hx2] at h3
      obtain ⟨zs, hzs, I⟩ := PW Tryz.underlying23 Tryz.underlying5 Ro h4 h3 (fun b off hm => fx b off (by rw [hp]; exact List.mem_flatMap.2 ⟨r, List.mem_of_getElem? hx2, hm⟩))
      have hy' : Cell.okWide Tryz.prog w .any base 23 y := by
        unfold Value.okWide at hy
        rw [Tryz.underlying23] at hy
        exact hy
      obtain ⟨fuel2, hf2⟩ := ty
      have hf2 : DataW.trod enc Tryz.prog w 0 (fun _ => true) true fuel2 23 [y] = some (e, q) := by
        rcases Ji Tryz.underlying23 hy' with rfl | ⟨a, n, c, rfl, _⟩ <;> exact hf2
      obtain ⟨bs, hbs, J⟩ := PW Tryz.underlying23 Tryz.underlying5 Ro hy' hf2 fy
      obtain ⟨zi, rfl⟩ := SU Tryz.underlying3 hz
      obtain ⟨ob, rfl⟩ := RZ Tryz.underlying4 ho
      obtain ⟨l, hl, hlb⟩ := Lr hzs
      obtain ⟨m, hm, hmb⟩ := Lr hbs
      obtain ⟨u, q0, Z0, i1, i2, i3⟩ := I.rel 0
      obtain ⟨v, q1, Z1, j1, j2, j3⟩ := J.rel 1
      have W0 : (inH [Dq .u8 Z0, Dq .u8 Z1]).Wf := ST (by show 2 ≤ 256; omega)
      have V := i3 _ (PU (Ls := [Dq .u8 Z0, Dq .u8 Z1]) (by show 2 ≤ 256; omega) (i := 0) rfl)
      have B := j3 _ (PU (Ls := [Dq .u8 Z0, Dq .u8 Z1]) (by show 2 ≤ 256; omega) (i := 1) rfl)
      rw [hl] at V
      rw [hm] at B
      have ru := i2 (KN [q0, q1]) rfl
      have rv := j2 (KN [q0, q1]) rfl
      obtain ⟨h', hr, hx'⟩ := Tu (n := 59) W0 (a := a) (b := b) (c := c) (z := zi) (o := ob) V hlb hs B (Zy rv) hmb
      exact W6 Rn hr hx' rfl (.cons (.agg (.cons (.int _ _) (.cons (.int _ _) (.cons (.int _ _) (.cons (.int _ _) (.cons ru .nil)))))) (.cons rv (.cons (.int _ _) (.cons (.bool _) .nil)))) (XN i1 j1 (fun φ => JA φ _ _) (fun φ => JA φ _ _))
set_option maxRecDepth 100000 in
theorem aq (os : Os) (started : os.Started) (H : Type) (enc : TypeId × Value → H) :
    ReturnsInHanded {} Tryz.checked os 3 .any (Rows.slotsTellsSpec.pre6 enc Tryz.prog Tryz.f3 Rows.slotsTellsRow.domain false) (Rows.slotsTellsSpec.post enc Tryz.prog Tryz.f3 false true false false) := by
  refine returnsInHanded_of_change (C := Tryz.checked) own started (by kernel_rfl) Tryz.func3
    (ChangeSpec.witness6 (enc := enc) (C := Tryz.checked) false ⟨#[], #[.agg #[.int .i64 0, .int .i64 0, .int .i64 0, .int .u8 0, .slice none 0 0], .slice none 0 0, .int .i64 0, .bool false], []⟩ 8 (by kernel_rfl) (by kernel_rfl) (by kernel_rfl) (by kernel_rfl)) ?_
  intro W base args ds gs before hval0 hW hcnd _
  have hval : ∀ (j : Nat) t v, Tryz.f3.params[j]? = some t → args[j]? = some v → Value.okWide Tryz.prog W .any base t v := hval0
  have hW' := hW
  obtain ⟨p, q, hA0, hV, rfl, hfz, hnd⟩ := hW
  have hA : DataW.TrodAll enc Tryz.prog W 0 (fun _ => true) true Tryz.f3.params.toList args.toList ds p := hA0
  rw [Tryz.params3] at hA hval
  obtain ⟨v0, vs0, d0, ds0, p0, q0, hargs, rfl, rfl, h0, r0⟩ := trodAll_cons hA
  obtain ⟨v1, vs1, d1, ds1, p1, q1, rfl, rfl, rfl, h1, r1⟩ := trodAll_cons r0
  obtain ⟨v2, vs2, d2, ds2, p2, q2, rfl, rfl, rfl, h2, r2⟩ := trodAll_cons r1
  obtain ⟨v3, vs3, d3, ds3, p3, q3, rfl, rfl, rfl, h3, r3⟩ := trodAll_cons r2
  obtain ⟨rfl, rfl, rfl⟩ := trodAll_nil r3
  obtain rfl : args = #[v0, v1, v2, v3] := by cases args; simp_all
  obtain ⟨rfl, rfl⟩ := trodVars_none hV
  clear hA0 hval0
  simp only [List.append_nil] at hW' hfz
  have hlt : ∀ x ∈ p0 ++ (p1 ++ (p2 ++ p3)), x.block < W.heap.size := fun x hx => hW'.lt x hx
  have i0 : ∀ x ∈ p0, x ∈ p0 ++ (p1 ++ (p2 ++ p3)) := fun x hx => List.mem_append_left _ hx
  have i1 : ∀ x ∈ p1, x ∈ p0 ++ (p1 ++ (p2 ++ p3)) := fun x hx => List.mem_append_right _ (List.mem_append_left _ hx)
  have i2 : ∀ x ∈ p2, x ∈ p0 ++ (p1 ++ (p2 ++ p3)) := fun x hx => List.mem_append_right _ (List.mem_append_right _ (List.mem_append_left _ hx))
  have i3 : ∀ x ∈ p3, x ∈ p0 ++ (p1 ++ (p2 ++ p3)) := fun x hx => List.mem_append_right _ (List.mem_append_right _ (List.mem_append_right _ hx))
  refine (qt v0 v1 v2 v3 W (hval 0 25 v0 rfl rfl) (hval 1 23 v1 rfl rfl) (hval 2 3 v2 rfl rfl) (hval 3 4 v3 rfl rfl) h0 h1 (fun b off hm => hfz b off (i0 _ hm)) (fun b off hm => hfz b off (i1 _ hm))).mono fun e W' ⟨he, hb⟩ => ?_
  subst he
  refine ⟨_, rfl, Jw (pa := p0 ++ (p1 ++ (p2 ++ p3))) (pv := []) hW' (fun _ _ _ => (trodAll_cons_mk (shut_bool Tryz.underlying4 _) trodAll_mk0)) (fun sp hsp => ?_) (fun _ _ => rfl) (by simp) hb (ok_one (by kernel_rfl) rfl (okWide_bool_mk Tryz.underlying4 _))⟩
  have s0 := WideElems.Trod_stays IP (by kernel_rfl) (of_decide_eq_true (by kernel_rfl)) h0 (fun x hx => hb.same (hlt x (i0 x hx))) (fun x hx => hsp x (i0 x hx))
  have s1 := WideElems.Trod_stays IP (by kernel_rfl) (of_decide_eq_true (by kernel_rfl)) h1 (fun x hx => hb.same (hlt x (i1 x hx))) (fun x hx => hsp x (i1 x hx))
  have s2 := WideElems.Trod_stays IP (by kernel_rfl) (of_decide_eq_true (by kernel_rfl)) h2 (fun x hx => hb.same (hlt x (i2 x hx))) (fun x hx => hsp x (i2 x hx))
  have s3 := WideElems.Trod_stays IP (by kernel_rfl) (of_decide_eq_true (by kernel_rfl)) h3 (fun x hx => hb.same (hlt x (i3 x hx))) (fun x hx => hsp x (i3 x hx))
  have := trodAll_cons_mk s0 (trodAll_cons_mk s1 (trodAll_cons_mk s2 (trodAll_cons_mk s3 (trodAll_mk0 (enc := enc) (P := Tryz.prog) (w := W') (base := 0) (spare := sp) (held := true)))))
  rw [List.append_nil] at this
  exact this
theorem over : Rows.slotsTellsRow.holds Tryz.pinned (OpenSpec.ofChange Rows.slotsTellsSpec) :=
  OpenClaim.holds_of_wide 3 Tryz.f3 rfl rfl rfl rfl rfl rfl rfl ⟨rfl, rfl, rfl, rfl, rfl⟩ rfl rfl rfl rfl rfl (by kernel_rfl) Tryz.func3 (by kernel_rfl)
    (of_decide_eq_true (by kernel_rfl)) (by unfold Func.isWrapper; first | (rw [if_pos (by decide +kernel)]; kernel_rfl) | (rw [if_neg (by decide +kernel)]; exact ⟨rfl, rfl⟩))
    (fun os started H enc _ => aq os started H enc)
theorem proved : Rows.SlotsTellsSaid :=
  over
#print axioms proved
end
end Go.Proofs.YtfeldadhbnmklaaGreat.slotsTells
