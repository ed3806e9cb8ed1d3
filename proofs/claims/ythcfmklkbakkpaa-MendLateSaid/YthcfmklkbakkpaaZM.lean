/-
  mend.found: what an index has.
  mend.found: what an index has, whole.
  mend.read: a shard that comes.
  mend.read: a shard that comes.
  mend.told: what an answer makes of a mending: the choice, case by case. Printed by program (mdp.py).
-/
import Derived.Test.YthcfmklkbakkpaaZL
set_option linter.unusedVariables false
set_option linter.unusedSimpArgs false
namespace Go.Proofs.Ythcfmklkbakkpaa
noncomputable section
open Go Go.RowKit Go.ChangeShapes
set_option maxRecDepth 100000
structure IN where
  st : Int
  ix : Int
  ver : Int
  sta : Int
def in0 : IN := ⟨0, 0, 0, 0⟩
def Kv (x : IN) : List Value := [.int .i64 x.st, .int .i64 x.ix, .int .i64 x.ver, .int .u8 x.sta]
def co (x : IN) : Value := .agg ⟨Kv x⟩
def Hp.Inf (h : Hp) (u : Value) (l : List IN) : Prop := ((u = A6 ∨ ∃ r, u = .chan (some r)) ∧ l = []) ∨ ∃ b off c el L, u = .slice (some ⟨b, off, none⟩) l.length c ∧ h.Row b el L ∧ off + l.length * 4 ≤ L.length ∧ ∀ i, i < l.length → (L.drop (off + i * 4)).take 4 = Kv (l.getD i in0)
section
variable {h h' : Hp} {u : Value} {l : List IN}
theorem Hp.Inf.ext (o : h.Inf u l) (W : h.Wf) (x : h.Ext h') : h'.Inf u l := by
  rcases o with h1 | ⟨b, off, c, el, L, h1, h2, h3, h4⟩
  · exact .inl h1
  · exact .inr ⟨b, off, c, el, L, h1, h2.ext W x, h3, h4⟩
theorem Hp.Inf.same (o : h.Inf u l) (hb : h'.bl = h.bl) : h'.Inf u l := by
  rcases o with h1 | ⟨b, off, c, el, L, h1, h2, h3, h4⟩
  · exact .inl h1
  · exact .inr ⟨b, off, c, el, L, h1, h2.same hb, h3, h4⟩
theorem Hp.Inf.len (o : h.Inf u l) {g : Hp} : lenSR u g = .ok (.int .i64 (l.length : Int)) g := by
  rcases o with ⟨rfl | ⟨r, rfl⟩, rfl⟩ | ⟨b, off, c, el, L, rfl, _⟩ <;> first | exact B1 | rfl
theorem Hp.Inf.one (o : h.Inf u l) : Bn u = true := by
  rcases o with ⟨rfl | ⟨r, rfl⟩, _⟩ | ⟨b, off, c, el, L, rfl, _⟩ <;> rfl
theorem Hp.Inf.at (o : h.Inf u l) {i : Nat} (hi : i < l.length) : ∃ a, Cv 4 u (.int .i64 (i : Int)) h = .ok (.pointer (some a)) h ∧ loadN 4 a h = .ok (co (l.getD i in0)) h := by
  rcases o with ⟨_, rfl⟩ | ⟨b, off, c, el, L, rfl, h2, h3, h4⟩
  · cases hi
  · refine ⟨⟨b, off + i * 4, none⟩, B6 hi, ?_⟩
    rw [h2.loadN (by omega), h4 i hi]; rfl
def Hp.By (h : Hp) (u : Value) (l : List Nat) : Prop := ((∃ r, u = .chan (some r)) ∧ l = []) ∨ h.Vals u (l.map bv)
theorem Hp.By.ext {l : List Nat} (o : h.By u l) (W : h.Wf) (x : h.Ext h') : h'.By u l := by
  rcases o with h1 | h1
  · exact .inl h1
  · exact .inr (h1.ext W x)
theorem Hp.By.same {l : List Nat} (o : h.By u l) (hb : h'.bl = h.bl) : h'.By u l := by
  rcases o with h1 | h1
  · exact .inl h1
  · exact .inr (h1.same hb)
theorem Hp.By.len {l : List Nat} (o : h.By u l) {g : Hp} : lenSR u g = .ok (.int .i64 (l.length : Int)) g := by
  rcases o with ⟨⟨r, rfl⟩, rfl⟩ | h1
  · rfl
  · obtain ⟨a, c, hu⟩ := h1.shape
    rw [hu, List.length_map]; exact B1
theorem Hp.By.one {l : List Nat} (o : h.By u l) : Bn u = true := by
  rcases o with ⟨⟨r, rfl⟩, rfl⟩ | h1
  · rfl
  · obtain ⟨a, c, hu⟩ := h1.shape
    rw [hu]; rfl
end
theorem JK {h : Hp} {r : Nat} {x : IN} (R : h.Row r 0 (Kv x)) : load1 ⟨r, 0, none⟩ h = .ok (.int .i64 x.st) h ∧ load1 ⟨r, 1, none⟩ h = .ok (.int .i64 x.ix) h ∧ load1 ⟨r, 2, none⟩ h = .ok (.int .i64 x.ver) h ∧ load1 ⟨r, 3, none⟩ h = .ok (.int .u8 x.sta) h :=
  ⟨R.load1 (off := 0) (by show 0 < 4; omega), R.load1 (off := 1) (by show 1 < 4; omega), R.load1 (off := 2) (by show 2 < 4; omega), R.load1 (off := 3) (by show 3 < 4; omega)⟩
theorem Uw : B5 .mt 0 [.int .i64 0, .int .i64 0, .int .i64 0, .int .u8 0] = some Uv := by kernel_rfl
theorem NC : FA.zero = [.int .i64 0, .bool false, .slice none 0 0] := by kernel_rfl
theorem R0 {F : CallF} {e : Env} {h : Hp} : A8 FA.zero [(0, 1, (kV (.int .i64 3)))] F e h = .ok (CP ⟨3, false, []⟩ A6) h := by
  rw [En, NC, Bo, Bz, Bv, if_pos (show [Value.int .i64 3].length = 1 from rfl), if_pos (by show 0 + 1 ≤ 3; omega), Cr]; rfl
theorem PW {F : CallF} {e : Env} {h : Hp} (W : h.Wf) {g : O} {z : Int} (hv : g e = .int .i64 z) : Ar 1 (BI ty3.zero 1) [(0, 1, g)] F e h = .ok (.slice (some ⟨h.next, 0, none⟩) 1 1) (h.pushRow 0 [.int .i64 z]) := by
  have hz : BI ty3.zero 1 = [.int .i64 0] := by kernel_rfl
  rw [hz, DM, Bo (hk := by rw [hv]; rfl), hv, Bv, if_pos (show [Value.int .i64 z].length = 1 from rfl), if_pos (show 0 + 1 ≤ [Value.int .i64 0].length from Nat.le_refl _), Cr, D3 W]; rfl
structure FnK (ver kd : Int) (com : Bool) : Prop where
  zero : ver = 0 → kd = 2 ∧ com = false
  some : ¬ ver = 0 → (kd = 3 ∧ com = false) ∨ kd = 1
def Hp.App (h : Hp) (k : Nat) (u : Value) (zs : List Int) : Prop := (u = A6 ∧ zs = []) ∨ ∃ b, u = .slice (some ⟨b, 0, none⟩) zs.length zs.length ∧ h.Row b 4 (ints .i64 zs) ∧ 0 < zs.length ∧ k ≤ b
theorem Hp.App.keep {h h' : Hp} {k : Nat} {u : Value} {zs : List Int} (o : h.App k u zs) (hk : ∀ b el L, k ≤ b → el = 4 → h.Row b el L → h'.Row b el L) : h'.App k u zs := by
  rcases o with h1 | ⟨b, h1, h2, h3, h4⟩
  · exact .inl h1
  · exact .inr ⟨b, h1, hk _ _ _ h4 rfl h2, h3, h4⟩
theorem Hp.App.one {h : Hp} {k : Nat} {u : Value} {zs : List Int} (o : h.App k u zs) : cellsOf u = [u] ∧ Bn u = true := by
  rcases o with ⟨rfl, _⟩ | ⟨b, rfl, _⟩ <;> exact ⟨rfl, rfl⟩
theorem Rj {h0 h : Hp} (x0 : h0.Ext h) {k : Nat} {u : Value} {zs : List Int} {z : Int} (o : h.App k u zs) (hk : h0.next ≤ k) (h256 : 256 ≤ k) (hk2 : k ≤ h.next) (hl : zs.length ≤ 5500000000000) :
    ∃ h' u', FK 1 8 3 u (.slice (some ⟨h.next, 0, none⟩) 1 1) (h.pushRow 0 [.int .i64 z]) = .ok u' h' ∧ h0.Ext h' ∧ h'.App k u' (zs ++ [z]) ∧ (∀ b el L, el ≠ 4 → h.Row b el L → h'.Row b el L) ∧ (∀ b el L, b < k → h.Row b el L → h'.Row b el L) ∧ h'.mark = h.mark ∧ h.next ≤ h'.next := by
  have W := x0.wf
  have R := Hp.Row.new W 0 [.int .i64 z]
  have x1 := x0.pushRow 0 [.int .i64 z]
  have y1 := (Hp.Ext.refl W).pushRow 0 [.int .i64 z]
  have n1 : (h.pushRow 0 [.int .i64 z]).next = h.next + 1 := rfl
  have m1 : (h.pushRow 0 [.int .i64 z]).mark = h.mark := rfl
  generalize h.pushRow 0 [.int .i64 z] = g at R x1 y1 n1 m1
  have hs : ∀ k, BL g 1 (.slice (some ⟨h.next, 0, none⟩) 1 1) 1 k = k [.int .i64 z] := fun k => R.srcE (es := 1) (off := 0) (n := 1) (by show 0 + 1 * 1 ≤ 1; omega)
  rcases o with ⟨rfl, rfl⟩ | ⟨b, hu, r, hz, hb⟩
  · obtain ⟨h5, a1, a2, a3, a4, a5, a6⟩ := J6 (eb := 8) (en := 3) x1 hs rfl rfl rfl (by omega)
    exact ⟨h5, _, a1, a2, .inr ⟨g.next, rfl, a3, by simp, by omega⟩, fun b el L _ r => (r.ext W y1).ext x1.wf a6, fun b el L _ r => (r.ext W y1).ext x1.wf a6, a5.1.trans m1, by omega⟩
  · have r' := r.ext W y1
    obtain ⟨h5, a1, a2, a3, a4, a5, a6⟩ := IL (eb := 8) (en := 3) x1 hs rfl rfl (by omega) rfl r' (by rw [BW, Nat.mul_one]) (by omega) (by omega) (by omega)
    have hi : ints .i64 zs ++ [.int .i64 z] = ints .i64 (zs ++ [z]) := by
      unfold ints; rw [List.map_append]; rfl
    rw [hi] at a3
    refine ⟨h5, _, by rw [hu]; exact a1, a2, .inr ⟨g.next, by rw [List.length_append]; rfl, a3, by simp, by omega⟩, fun b' el L he rr => a6 _ _ _ (EO (rr.ext W y1) r' he) (rr.ext W y1), fun b' el L he rr => a6 _ _ _ (by omega) (rr.ext W y1), a5.1.trans m1, by omega⟩
def fnB : C := (AE (AC 18) (AS iLt .i64 (AB 17) (AB 16))
(AO (AB 18)
(As (Ab 1 (AE (AC 19) (A2 4 (AB 15) (AB 17))
(AE (AC 20) (AL 4 (AB 19))
(AE (AC 9) (Au 4 Uv)
(cDo (AM 4 (AB 9) (AB 20))
(Ab 2 (AE (AC 22) (AD 0 (AB 9))
(AE (AC 23) (AH (AB 22))
(AE (AC 24) (AD 0 (AB 3))
(AE (AC 25) (AH (AB 24))
(AE (AC 26) (AS iNe .i64 (AB 23) (AB 25))
(cG (AB 26) false (AC 28) (AD 1 (AB 9))
(cG (AB 26) false (AC 29) (AH (AB 28))
(cG (AB 26) false (AC 30) (AF (AB 1))
(cG (AB 26) false (AC 31) (AS iNe .i64 (AB 29) (AB 30))
(AE (AC 32) (AW (AB 26) (kV (.bool true)) (AB 31))
(AE (AC 21) (AF (AB 32))
(AO (AB 21)
AQ
(AE (AC 34) (AD 2 (AB 9))
(AE (AC 35) (AH (AB 34))
(AE (AC 36) (AD 1 (AB 3))
(AE (AC 37) (AH (AB 36))
(AE (AC 38) (AS iGt .i64 (AB 35) (AB 37))
(cG (AB 38) true (AC 40) (AD 2 (AB 9))
(cG (AB 38) true (AC 41) (AH (AB 40))
(cG (AB 38) true (AC 42) (AS iLe .i64 (AB 41) (kV (.int .i64 1099511627776)))
(AE (AC 43) (AW (AB 38) (AB 42) (kV (.bool false)))
(AE (AC 33) (AF (AB 43))
(AO (AB 33)
(AE (AC 44) (AD 2 (AB 7))
(AE (AC 45) (AH (AB 44))
(AE (AC 46) (AD 2 (AB 9))
(AE (AC 47) (AH (AB 46))
(AE (AC 48) (Ar 1 (BI ty3.zero 1) [(0, 1, (AB 47))])
(AE (AC 49) (Bb 1 8 3 (AB 45) (AB 48))
(AE (AC 50) (AD 2 (AB 7))
(cDo (AM 1 (AB 50) (AB 49))
AQ))))))))
(AE (AC 52) (AD 2 (AB 9))
(AE (AC 53) (AH (AB 52))
(AE (AC 54) (AD 1 (AB 3))
(AE (AC 55) (AH (AB 54))
(AE (AC 56) (AS iEq .i64 (AB 53) (AB 55))
(cG (AB 56) true (AC 58) (AD 1 (AB 3))
(cG (AB 56) true (AC 59) (AH (AB 58))
(cG (AB 56) true (AC 60) (AS iGt .i64 (AB 59) (kV (.int .i64 0)))
(AE (AC 61) (AW (AB 56) (AB 60) (kV (.bool false)))
(AE (AC 51) (AF (AB 61))
(AO (AB 51)
(BH (AE (AC 62) (AD 1 (AB 7))
(AE (AC 63) (AH (AB 62))
(cG (AB 63) false (AC 65) (AD 3 (AB 9))
(cG (AB 63) false (AC 66) (AH (AB 65))
(cG (AB 63) false (AC 67) (AS iEq .u8 (AB 66) (kV (.int .u8 2)))
(AE (AC 68) (AW (AB 63) (kV (.bool true)) (AB 67))
(AE (AC 69) (AD 0 (AB 7))
(Bi (AB 69) [(AB 65)]
(cDo (FI (AB 69) (AM 1 (AB 69) (kV (.int .i64 1))))
(AE (AC 70) (AD 1 (AB 7))
(cDo (Aj .free (AM 1 (AB 70) (AB 68)))
AQ))))))))))))
AQ))))))))))))))))))))))))))))))))))))))))
(AE (AC 71) (A9 .i64 (At .i64) (AB 17) (kV (.int .i64 1)))
(AE (AC 17) (AF (AB 71))
AQ)))
(A3 0)))
def fnE : C := (AE (AC 72) (AD 2 (AB 7))
(AE (AC 73) (AH (AB 72))
(AE (AC 74) (AV 50 [(AB 73)])
(AE (AC 75) (AD 2 (AB 7))
(AE (AC 76) (AH (AB 75))
(AE (AC 77) (AV 51 [(AB 76)])
(AE (AC 78) (AD 2 (AB 7))
(cDo (AM 1 (AB 78) (AB 77))
(AE (AC 79) (AD 2 (AB 7))
(AE (AC 80) (AH (AB 79))
(AE (AC 81) (AD 2 (AB 7))
(AE (AC 82) (AH (AB 81))
(AE (AC 83) (Am (AB 82))
(AE (AC 84) (Mr (AB 83) (kV (.int .i64 50)))
(AE (AC 85) (Ct 3 1 (AB 80) none (some (AB 84)) none)
(AE (AC 86) (AD 2 (AB 7))
(cDo (AM 1 (AB 86) (AB 85))
(AE (AC 87) (AL 3 (AB 7))
(cDo (AM 3 (AB 6) (AB 87))
Ak)))))))))))))))))))
def ME : C := (AE (AC 3) (Bd (AB 0))
(AE (AC 6) (Au 3 F1)
(AE (AC 10) (A8 FA.zero [(0, 1, (kV (.int .i64 3)))])
(AE (AC 7) (Au 3 F1)
(cDo (AM 3 (AB 7) (AB 10))
(AE (AC 11) (AD 1 (AB 3))
(AE (AC 12) (AH (AB 11))
(AE (AC 13) (AS iEq .i64 (AB 12) (kV (.int .i64 0)))
(As (AO (AB 13)
(AE (AC 14) (AD 0 (AB 7))
(cDo (AM 1 (AB 14) (kV (.int .i64 2)))
AQ))
AQ)
(AE (AC 15) (AF (AB 2))
(AE (AC 16) (Am (AB 15))
(AE (AC 17) (AF (kV (.int .i64 0)))
(As (Ab 0 (Ay fnB))
fnE)))))))))))))
def d37 : C := ME
theorem XB {n : Nat} {args : List Value} {h : Hp} (hl : Nat.ble (Bk args) 320 = true) : call AK (Nat.succ n) 37 args h = Bt [.cN (AB 6) 3] (d37 (call AK n) (Av e0 0 args) h) := by
  have hb : AK.get 37 = some b37 := by kernel_rfl
  rw [BN hb]
  have hd : b37 = ⟨[.cN (AB 6) 3], d37⟩ := by kernel_rfl
  rw [hd, BE hl]
theorem XX : d37 = ME := rfl
structure FnI (hA h' : Hp) (m : MD) (b7 : Nat) (kd : Int) (com : Bool) (u : Value) (zs : List Int) (i : Nat) : Prop where
  x : hA.Ext h'
  R7 : h'.Row b7 0 [.int .i64 kd, .bool com, u]
  U : h'.App (b7 + 1) u zs
  zl : zs.length ≤ i
  mem : ∀ z ∈ zs, m.ver < z ∧ z ≤ 1099511627776
  K : FnK m.ver kd com
theorem Sd {F : CallF} {hA h0 : Hp} (WA : hA.Wf) {m : MD} {um uw us ui : Value} {il : List IN} {idx : Int} {b3 b6 b7 : Nat} (R3 : hA.Row b3 0 (mendL m um uw us)) (J : hA.Inf ui il) (hil : il.length < 5500000000000) (h7 : hA.next = b7) {kd0 : Int} {com0 : Bool} {u0 : Value} (I0 : FnI hA h0 m b7 kd0 com0 u0 [] 0) {e : Env} (s1 : AB 1 e = .int .i64 idx) (s3 : AB 3 e = pt b3) (s6 : AB 6 e = pt b6) (s7 : AB 7 e = pt b7) (s15 : AB 15 e = ui) (s16 : AB 16 e = .int .i64 (il.length : Int)) (s17 : AB 17 e = .int .i64 ((0 : Nat) : Int)) :
    ∃ e' h' kd com u zs, Ay fnB F e h0 = .exit 0 e' h' ∧ FnI hA h' m b7 kd com u zs il.length ∧ AB 6 e' = pt b6 ∧ AB 7 e' = pt b7 := by
  have b3lt := R3.lt WA
  refine B8 (I := fun i e' h' => ∃ kd com u zs, FnI hA h' m b7 kd com u zs i ∧ i ≤ il.length ∧ AB 1 e' = .int .i64 idx ∧ AB 3 e' = pt b3 ∧ AB 6 e' = pt b6 ∧ AB 7 e' = pt b7 ∧ AB 15 e' = ui ∧ AB 16 e' = .int .i64 (il.length : Int) ∧ AB 17 e' = .int .i64 (i : Int))
    (Q := fun x => ∃ e' h' kd com u zs, x = .exit 0 e' h' ∧ FnI hA h' m b7 kd com u zs il.length ∧ AB 6 e' = pt b6 ∧ AB 7 e' = pt b7) il.length (by omega) (fun i e' h' ⟨kd, com, u, zs, I, hi, t1, t3, t6, t7, t15, t16, t17⟩ => ?_) ⟨kd0, com0, u0, [], I0, Nat.zero_le _, s1, s3, s6, s7, s15, s16, s17⟩
  have x := I.x
  have W := x.wf
  have big := WA.big
  have hx := x.next
  by_cases hlt : i < il.length
  · left
    have c1 := GC hlt
    obtain ⟨a, a1, a2⟩ := (J.ext WA x).at hlt
    generalize hq : il.getD i in0 = q at a2
    obtain ⟨h1, al, Z, x1, n1⟩ := Bq W (n := 4) Uw rfl
    obtain ⟨h2, st, Z2, x2, n2, o2⟩ := Aw x1 Z (Nat.le_refl _) (by omega) (co q) (n := 4) (off := 0) rfl (Nat.le_refl _) rfl
    rw [A5 (by rfl)] at Z2
    obtain ⟨q0, q1, q2, q3⟩ := JK Z2
    have y2 : hA.Ext h2 := x.trans x2
    have R3b := R3.ext WA y2
    obtain ⟨l0, l1, _⟩ := An R3b
    have R7b := I.R7.ext W x2
    have b7lt := I.R7.lt W
    have z2 := x2.next
    have e0 : load1 ⟨b7, 0, none⟩ h2 = .ok (.int .i64 kd) h2 := R7b.load1 (off := 0) (by simp)
    have e1 : load1 ⟨b7, 1, none⟩ h2 = .ok (.bool com) h2 := R7b.load1 (off := 1) (by simp)
    have e2 : load1 ⟨b7, 2, none⟩ h2 = .ok u h2 := R7b.load1 (off := 2) (by simp)
    have U2 : h2.App (b7 + 1) u zs := I.U.keep fun b el L _ _ r => r.ext W x2
    by_cases g1 : q.st = m.st ∧ q.ix = idx
    · obtain ⟨g1a, g1b⟩ := g1
      have f1 : iNe q.st m.st = false := Dv g1a
      have f2 : iNe q.ix idx = false := Dv g1b
      by_cases g2 : m.ver < q.ver ∧ q.ver ≤ 1099511627776
      · have f3 : iGt q.ver m.ver = true := Ga g2.1
        have f4 : iLe q.ver 1099511627776 = true := VE g2.2
        have bs : ∀ (F : CallF) (e : Env), AB 47 e = .int .i64 q.ver → Ar 1 (BI ty3.zero 1) [(0, 1, AB 47)] F e h2 = .ok (.slice (some ⟨h2.next, 0, none⟩) 1 1) (h2.pushRow 0 [.int .i64 q.ver]) := fun F e he => PW y2.wf he
        obtain ⟨h5, u5, p1, p2, p3, p4, p5, p6, p7⟩ := Rj y2 (z := q.ver) U2 (by omega) (by omega) (by omega) (by have := I.zl; omega)
        obtain ⟨uc, uo⟩ := p3.one
        have R7c := p4 _ _ _ (by omega) R7b
        obtain ⟨h6, st6, Z6, y6, n6, o6⟩ := Aw p2 R7c (by omega) (by omega) u5 (n := 1) (off := 2) (by rw [uc]; rfl) (by show 2 + 1 ≤ 3; omega) (by rw [uc]; show (bif Bn u5 then true else false) = true; rw [uo]; rfl)
        rw [uc] at Z6
        have Z6 : h6.Row b7 0 [.int .i64 kd, .bool com, u5] := Z6
        have ad := CY (h := h6) (i := i) (by omega)
        have hrun : ∃ e2, fnB F e' h' = .norm e2 h6 ∧ AB 1 e2 = .int .i64 idx ∧ AB 3 e2 = pt b3 ∧ AB 6 e2 = pt b6 ∧ AB 7 e2 = pt b7 ∧ AB 15 e2 = ui ∧ AB 16 e2 = .int .i64 (il.length : Int) ∧ AB 17 e2 = .int .i64 ((i + 1 : Nat) : Int) := by
          unfold fnB
          simp only [sT, Nat.reduceLT, Nat.reduceEqDiff, if_true, if_false, reduceIte, gD, AZ, AY, t1, t3, t7, t15, t16, t17, c1, BG, a1, Aa, AU, a2, al, Ad, st, AJ, AN, Nat.zero_add, AP, AX, q0, q1, q2, l0, l1, f1, f2, f3, f4, e2, bs, CC, p1, st6, Bl, ad]
          exact ⟨_, rfl, by simp only [AG, Nat.reduceLT, Nat.reduceEqDiff, if_true, if_false, reduceIte]; exact t1, by simp only [AG, Nat.reduceLT, Nat.reduceEqDiff, if_true, if_false, reduceIte]; exact t3, by simp only [AG, Nat.reduceLT, Nat.reduceEqDiff, if_true, if_false, reduceIte]; exact t6, by simp only [AG, Nat.reduceLT, Nat.reduceEqDiff, if_true, if_false, reduceIte]; exact t7, by simp only [AG, Nat.reduceLT, Nat.reduceEqDiff, if_true, if_false, reduceIte]; exact t15, by simp only [AG, Nat.reduceLT, Nat.reduceEqDiff, if_true, if_false, reduceIte]; exact t16, by simp [AG]⟩
        obtain ⟨e2', w0, w1, w3, w6, w7, w15, w16, w17⟩ := hrun
        refine ⟨hlt, e2', h6, w0, kd, com, u5, zs ++ [q.ver], { x := y6, R7 := Z6, U := p3.keep fun b el L hb he r => o6 _ _ _ (by omega) r, zl := by rw [List.length_append]; have := I.zl; show _ + 1 ≤ _; omega, mem := fun z hz => ?_, K := I.K }, hlt, w1, w3, w6, w7, w15, w16, w17⟩
        rcases List.mem_append.1 hz with h | h
        · exact I.mem z h
        · rw [List.mem_singleton] at h; rw [h]; exact g2
      ·
        have f34 : (iGt q.ver m.ver = true ∧ iLe q.ver 1099511627776 = false) ∨ iGt q.ver m.ver = false := by
          by_cases h : m.ver < q.ver
          · exact .inl ⟨Ga h, Na fun h2 => g2 ⟨h, h2⟩⟩
          · exact .inr (DD h)
        by_cases g3 : q.ver = m.ver ∧ 0 < m.ver
        · have f5 : iEq q.ver m.ver = true := Cu g3.1
          have f6 : iGt m.ver 0 = true := Ga g3.2
          have f3 : iGt q.ver m.ver = false := DD (by omega)
          have ym := y2.marked
          have R7m : h2.marked.Row b7 0 [.int .i64 kd, .bool com, u] := R7b.same rfl
          have e1m : load1 ⟨b7, 1, none⟩ h2.marked = .ok (.bool com) h2.marked := R7m.load1 (off := 1) (by simp)
          have q3m : load1 ⟨h'.next, 3, none⟩ h2.marked = .ok (.int .u8 q.sta) h2.marked := (JK (show h2.marked.Row h'.next 0 (Kv q) from Z2.same rfl)).2.2.2
          obtain ⟨h3, st3, Z3, y3, n3, mk3, o3⟩ := Jl ym R7m (by omega) (by omega) (.int .i64 1) (n := 1) (off := 0) rfl (by show 0 + 1 ≤ 3; omega) rfl
          have Z3 : h3.Row b7 0 [.int .i64 1, .bool com, u] := Z3
          have U3 : h3.App (b7 + 1) u zs := U2.keep fun b el L hb _ r => o3 _ _ _ (by omega) (r.same rfl)
          obtain ⟨com', hcom⟩ : ∃ c : Bool, c = (com || decide (q.sta = 2)) := ⟨_, rfl⟩
          obtain ⟨h4, st4, Z4, y4, n4, mk4, o4⟩ := Df y3 Z3 (by omega) (by omega) (.bool com') (n := 1) (off := 1) rfl (by show 1 + 1 ≤ 3; omega) rfl
          have Z4 : h4.Row b7 0 [.int .i64 1, .bool com', u] := Z4
          have U4 : h4.App (b7 + 1) u zs := U3.keep fun b el L hb _ r => o4 _ _ _ (by omega) r
          have ad := CY (h := h4) (i := i) (by omega)
          have hrun : ∃ e2, fnB F e' h' = .norm e2 h4 ∧ AB 1 e2 = .int .i64 idx ∧ AB 3 e2 = pt b3 ∧ AB 6 e2 = pt b6 ∧ AB 7 e2 = pt b7 ∧ AB 15 e2 = ui ∧ AB 16 e2 = .int .i64 (il.length : Int) ∧ AB 17 e2 = .int .i64 ((i + 1 : Nat) : Int) := by
            cases hc : com
            · rw [hc] at e1m
              have hc' : com' = decide (q.sta = 2) := by rw [hcom, hc, Bool.false_or]
              have ck : ∀ (k : C) (F : CallF) (e : Env), AB 69 e = pt b7 → AB 65 e = .pointer (some ⟨h'.next, 3, none⟩) → Bi (AB 69) [AB 65] k F e h2.marked = k F e h2.marked := fun k F e e1 e2 => bE e1 e2 (by omega)
              unfold fnB
              simp only [sT, Nat.reduceLT, Nat.reduceEqDiff, if_true, if_false, reduceIte, gD, AZ, AY, t1, t3, t7, t15, t16, t17, c1, BG, a1, Aa, AU, a2, al, Ad, st, AJ, AN, Nat.zero_add, AP, AX, q0, q1, q2, l0, l1, f1, f2, f3, f5, f6, Bc, e1m, q3m, NZ, ck, st3, ← hc', st4, Bl, ad]
              exact ⟨_, rfl, by simp only [AG, Nat.reduceLT, Nat.reduceEqDiff, if_true, if_false, reduceIte]; exact t1, by simp only [AG, Nat.reduceLT, Nat.reduceEqDiff, if_true, if_false, reduceIte]; exact t3, by simp only [AG, Nat.reduceLT, Nat.reduceEqDiff, if_true, if_false, reduceIte]; exact t6, by simp only [AG, Nat.reduceLT, Nat.reduceEqDiff, if_true, if_false, reduceIte]; exact t7, by simp only [AG, Nat.reduceLT, Nat.reduceEqDiff, if_true, if_false, reduceIte]; exact t15, by simp only [AG, Nat.reduceLT, Nat.reduceEqDiff, if_true, if_false, reduceIte]; exact t16, by simp [AG]⟩
            · rw [hc] at e1m
              have hc' : com' = true := by rw [hcom, hc, Bool.true_or]
              rw [hc'] at st4
              have ck : ∀ (k : C) (F : CallF) (e : Env), AB 69 e = pt b7 → AB 65 e = noRes → Bi (AB 69) [AB 65] k F e h2.marked = k F e h2.marked := fun k F e e1 e2 => U8 e1 e2
              unfold fnB
              simp only [sT, Nat.reduceLT, Nat.reduceEqDiff, if_true, if_false, reduceIte, gD, AZ, AY, t1, t3, t7, t15, t16, t17, c1, BG, a1, Aa, AU, a2, al, Ad, st, AJ, AN, Nat.zero_add, AP, AX, q0, q1, q2, l0, l1, f1, f2, f3, f5, f6, Bc, e1m, ck, st3, st4, Bl, ad]
              exact ⟨_, rfl, by simp only [AG, Nat.reduceLT, Nat.reduceEqDiff, if_true, if_false, reduceIte]; exact t1, by simp only [AG, Nat.reduceLT, Nat.reduceEqDiff, if_true, if_false, reduceIte]; exact t3, by simp only [AG, Nat.reduceLT, Nat.reduceEqDiff, if_true, if_false, reduceIte]; exact t6, by simp only [AG, Nat.reduceLT, Nat.reduceEqDiff, if_true, if_false, reduceIte]; exact t7, by simp only [AG, Nat.reduceLT, Nat.reduceEqDiff, if_true, if_false, reduceIte]; exact t15, by simp only [AG, Nat.reduceLT, Nat.reduceEqDiff, if_true, if_false, reduceIte]; exact t16, by simp [AG]⟩
          obtain ⟨e2', w0, w1, w3, w6, w7, w15, w16, w17⟩ := hrun
          exact ⟨hlt, e2', h4, w0, 1, com', u, zs, { x := y4, R7 := Z4, U := U4, zl := by have := I.zl; omega, mem := I.mem, K := ⟨fun h => by omega, fun _ => .inr rfl⟩ }, hlt, w1, w3, w6, w7, w15, w16, w17⟩
        · have f56 : (iEq q.ver m.ver = true ∧ iGt m.ver 0 = false) ∨ iEq q.ver m.ver = false := by
            by_cases h : q.ver = m.ver
            · exact .inl ⟨Cu h, DD fun h2 => g3 ⟨h, h2⟩⟩
            · exact .inr (Cj h)
          have ad := CY (h := h2) (i := i) (by omega)
          have hrun : ∃ e2, fnB F e' h' = .norm e2 h2 ∧ AB 1 e2 = .int .i64 idx ∧ AB 3 e2 = pt b3 ∧ AB 6 e2 = pt b6 ∧ AB 7 e2 = pt b7 ∧ AB 15 e2 = ui ∧ AB 16 e2 = .int .i64 (il.length : Int) ∧ AB 17 e2 = .int .i64 ((i + 1 : Nat) : Int) := by
            unfold fnB
            rcases f34 with ⟨f3, f4⟩ | f3 <;> rcases f56 with ⟨f5, f6⟩ | f5
            · simp only [sT, Nat.reduceLT, Nat.reduceEqDiff, if_true, if_false, reduceIte, gD, AZ, AY, t1, t3, t7, t15, t16, t17, c1, BG, a1, Aa, AU, a2, al, Ad, st, AJ, AN, Nat.zero_add, AP, AX, q0, q1, q2, l0, l1, f1, f2, f3, f4, f5, f6, Bl, ad]
              exact ⟨_, rfl, by simp only [AG, Nat.reduceLT, Nat.reduceEqDiff, if_true, if_false, reduceIte]; exact t1, by simp only [AG, Nat.reduceLT, Nat.reduceEqDiff, if_true, if_false, reduceIte]; exact t3, by simp only [AG, Nat.reduceLT, Nat.reduceEqDiff, if_true, if_false, reduceIte]; exact t6, by simp only [AG, Nat.reduceLT, Nat.reduceEqDiff, if_true, if_false, reduceIte]; exact t7, by simp only [AG, Nat.reduceLT, Nat.reduceEqDiff, if_true, if_false, reduceIte]; exact t15, by simp only [AG, Nat.reduceLT, Nat.reduceEqDiff, if_true, if_false, reduceIte]; exact t16, by simp [AG]⟩
            · simp only [sT, Nat.reduceLT, Nat.reduceEqDiff, if_true, if_false, reduceIte, gD, AZ, AY, t1, t3, t7, t15, t16, t17, c1, BG, a1, Aa, AU, a2, al, Ad, st, AJ, AN, Nat.zero_add, AP, AX, q0, q1, q2, l0, l1, f1, f2, f3, f4, f5, Bl, ad]
              exact ⟨_, rfl, by simp only [AG, Nat.reduceLT, Nat.reduceEqDiff, if_true, if_false, reduceIte]; exact t1, by simp only [AG, Nat.reduceLT, Nat.reduceEqDiff, if_true, if_false, reduceIte]; exact t3, by simp only [AG, Nat.reduceLT, Nat.reduceEqDiff, if_true, if_false, reduceIte]; exact t6, by simp only [AG, Nat.reduceLT, Nat.reduceEqDiff, if_true, if_false, reduceIte]; exact t7, by simp only [AG, Nat.reduceLT, Nat.reduceEqDiff, if_true, if_false, reduceIte]; exact t15, by simp only [AG, Nat.reduceLT, Nat.reduceEqDiff, if_true, if_false, reduceIte]; exact t16, by simp [AG]⟩
            · simp only [sT, Nat.reduceLT, Nat.reduceEqDiff, if_true, if_false, reduceIte, gD, AZ, AY, t1, t3, t7, t15, t16, t17, c1, BG, a1, Aa, AU, a2, al, Ad, st, AJ, AN, Nat.zero_add, AP, AX, q0, q1, q2, l0, l1, f1, f2, f3, f5, f6, Bl, ad]
              exact ⟨_, rfl, by simp only [AG, Nat.reduceLT, Nat.reduceEqDiff, if_true, if_false, reduceIte]; exact t1, by simp only [AG, Nat.reduceLT, Nat.reduceEqDiff, if_true, if_false, reduceIte]; exact t3, by simp only [AG, Nat.reduceLT, Nat.reduceEqDiff, if_true, if_false, reduceIte]; exact t6, by simp only [AG, Nat.reduceLT, Nat.reduceEqDiff, if_true, if_false, reduceIte]; exact t7, by simp only [AG, Nat.reduceLT, Nat.reduceEqDiff, if_true, if_false, reduceIte]; exact t15, by simp only [AG, Nat.reduceLT, Nat.reduceEqDiff, if_true, if_false, reduceIte]; exact t16, by simp [AG]⟩
            · simp only [sT, Nat.reduceLT, Nat.reduceEqDiff, if_true, if_false, reduceIte, gD, AZ, AY, t1, t3, t7, t15, t16, t17, c1, BG, a1, Aa, AU, a2, al, Ad, st, AJ, AN, Nat.zero_add, AP, AX, q0, q1, q2, l0, l1, f1, f2, f3, f5, Bl, ad]
              exact ⟨_, rfl, by simp only [AG, Nat.reduceLT, Nat.reduceEqDiff, if_true, if_false, reduceIte]; exact t1, by simp only [AG, Nat.reduceLT, Nat.reduceEqDiff, if_true, if_false, reduceIte]; exact t3, by simp only [AG, Nat.reduceLT, Nat.reduceEqDiff, if_true, if_false, reduceIte]; exact t6, by simp only [AG, Nat.reduceLT, Nat.reduceEqDiff, if_true, if_false, reduceIte]; exact t7, by simp only [AG, Nat.reduceLT, Nat.reduceEqDiff, if_true, if_false, reduceIte]; exact t15, by simp only [AG, Nat.reduceLT, Nat.reduceEqDiff, if_true, if_false, reduceIte]; exact t16, by simp [AG]⟩
          obtain ⟨e2', w0, w1, w3, w6, w7, w15, w16, w17⟩ := hrun
          exact ⟨hlt, e2', h2, w0, kd, com, u, zs, { x := y2, R7 := R7b, U := U2, zl := by have := I.zl; omega, mem := I.mem, K := I.K }, hlt, w1, w3, w6, w7, w15, w16, w17⟩
    ·
      have f12 : iNe q.st m.st = true ∨ (iNe q.st m.st = false ∧ iNe q.ix idx = true) := by
        by_cases h : q.st = m.st
        · exact .inr ⟨Dv h, F4 fun h2 => g1 ⟨h, h2⟩⟩
        · exact .inl (F4 h)
      have ad := CY (h := h2) (i := i) (by omega)
      have hrun : ∃ e2, fnB F e' h' = .norm e2 h2 ∧ AB 1 e2 = .int .i64 idx ∧ AB 3 e2 = pt b3 ∧ AB 6 e2 = pt b6 ∧ AB 7 e2 = pt b7 ∧ AB 15 e2 = ui ∧ AB 16 e2 = .int .i64 (il.length : Int) ∧ AB 17 e2 = .int .i64 ((i + 1 : Nat) : Int) := by
        unfold fnB
        rcases f12 with f1 | ⟨f1, f2⟩
        · simp only [sT, Nat.reduceLT, Nat.reduceEqDiff, if_true, if_false, reduceIte, gD, AZ, AY, t1, t3, t7, t15, t16, t17, c1, BG, a1, Aa, AU, a2, al, Ad, st, AJ, AN, Nat.zero_add, AP, AX, q0, q1, q2, l0, l1, f1, Bl, ad]
          exact ⟨_, rfl, by simp only [AG, Nat.reduceLT, Nat.reduceEqDiff, if_true, if_false, reduceIte]; exact t1, by simp only [AG, Nat.reduceLT, Nat.reduceEqDiff, if_true, if_false, reduceIte]; exact t3, by simp only [AG, Nat.reduceLT, Nat.reduceEqDiff, if_true, if_false, reduceIte]; exact t6, by simp only [AG, Nat.reduceLT, Nat.reduceEqDiff, if_true, if_false, reduceIte]; exact t7, by simp only [AG, Nat.reduceLT, Nat.reduceEqDiff, if_true, if_false, reduceIte]; exact t15, by simp only [AG, Nat.reduceLT, Nat.reduceEqDiff, if_true, if_false, reduceIte]; exact t16, by simp [AG]⟩
        · simp only [sT, Nat.reduceLT, Nat.reduceEqDiff, if_true, if_false, reduceIte, gD, AZ, AY, t1, t3, t7, t15, t16, t17, c1, BG, a1, Aa, AU, a2, al, Ad, st, AJ, AN, Nat.zero_add, AP, AX, q0, q1, q2, l0, l1, f1, f2, Bl, ad]
          exact ⟨_, rfl, by simp only [AG, Nat.reduceLT, Nat.reduceEqDiff, if_true, if_false, reduceIte]; exact t1, by simp only [AG, Nat.reduceLT, Nat.reduceEqDiff, if_true, if_false, reduceIte]; exact t3, by simp only [AG, Nat.reduceLT, Nat.reduceEqDiff, if_true, if_false, reduceIte]; exact t6, by simp only [AG, Nat.reduceLT, Nat.reduceEqDiff, if_true, if_false, reduceIte]; exact t7, by simp only [AG, Nat.reduceLT, Nat.reduceEqDiff, if_true, if_false, reduceIte]; exact t15, by simp only [AG, Nat.reduceLT, Nat.reduceEqDiff, if_true, if_false, reduceIte]; exact t16, by simp [AG]⟩
      obtain ⟨e2', w0, w1, w3, w6, w7, w15, w16, w17⟩ := hrun
      exact ⟨hlt, e2', h2, w0, kd, com, u, zs, { x := y2, R7 := R7b, U := U2, zl := by have := I.zl; omega, mem := I.mem, K := I.K }, hlt, w1, w3, w6, w7, w15, w16, w17⟩
  · right
    have c1 := EP (a := i) (b := il.length) (by omega)
    obtain rfl : i = il.length := by omega
    have hrun : ∃ e2, fnB F e' h' = .exit 0 e2 h' ∧ AB 6 e2 = pt b6 ∧ AB 7 e2 = pt b7 := by
      unfold fnB
      simp only [sT, Nat.reduceLT, Nat.reduceEqDiff, if_true, if_false, reduceIte, AZ, AY, t16, t17, c1]
      exact ⟨_, rfl, by simp only [AG, Nat.reduceLT, Nat.reduceEqDiff, if_true, if_false, reduceIte]; exact t6, by simp only [AG, Nat.reduceLT, Nat.reduceEqDiff, if_true, if_false, reduceIte]; exact t7⟩
    obtain ⟨e2', w0, w6, w7⟩ := hrun
    rw [w0]
    exact ⟨rfl, e2', h', kd, com, u, zs, rfl, I, w6, w7⟩
end
end Go.Proofs.Ythcfmklkbakkpaa
set_option linter.unusedVariables false
set_option linter.unusedSimpArgs false
namespace Go.Proofs.Ythcfmklkbakkpaa
noncomputable section
open Go Go.RowKit Go.ChangeShapes
set_option maxRecDepth 100000
def cy (a b : Value) (h : Hp) : R := GD true a b h
theorem Nx {F : CallF} {e : Env} {h : Hp} {x y : O} : Mr x y F e h = cy (x e) (y e) h := rfl
theorem VF {h : Hp} {k : Nat} : cy (.int .i64 (k : Int)) (.int .i64 50) h = .ok (.int .i64 ((min k 50 : Nat) : Int)) h := by
  show (bif (bif true then iLt 50 (k : Int) else iLt (k : Int) 50) then R.ok (.int .i64 50) h else .ok (.int .i64 (k : Int)) h) = _
  by_cases h1 : 50 < k
  · have : iLt 50 (k : Int) = true := Ku (by omega)
    rw [cond_true, this, Nat.min_eq_right (by omega)]; rfl
  · have : iLt 50 (k : Int) = false := Ek (by omega)
    rw [cond_true, this, Nat.min_eq_left (by omega)]; rfl
theorem XO {F : CallF} {e : Env} {h : Hp} {x y : O} {el : Nat} (hx : x e = A6) (hy : y e = .int .i64 ((0 : Nat) : Int)) : Ct el 1 x none (some y) none F e h = .ok A6 h := by
  show (match x e with | .slice a n c => EW e n c none (some y) none (fun l hh m => F8 el 1 a false l hh m h) | _ => .no) = _
  rw [hx]
  show DS e (some y) 0 0 (fun hh => DS e none 0 hh fun l => F8 el 1 none false l hh 0 h) = _
  show (match C9 (y e) with | .ok n => (bif Nat.ble n 0 then (DS e none 0 n fun l => F8 el 1 none false l n 0 h) else .no) | .no => .no) = _
  rw [hy, Fo]; rfl
theorem N0 : ∀ {l : List Int} {lo : Int}, l.Pairwise (fun a b => a < b) → (∀ x ∈ l, lo < x ∧ x ≤ 1099511627776) → riseP lo l
  | [], _, _, _ => trivial
  | v :: l, lo, hp, hm => by
    obtain ⟨h1, h2⟩ := List.pairwise_cons.1 hp
    obtain ⟨h3, h4⟩ := hm v List.mem_cons_self
    exact ⟨h3, h4, N0 h2 fun x hx => ⟨h1 x hx, (hm x (List.mem_cons_of_mem _ hx)).2⟩⟩
theorem PC {zs ys : List Int} {k : Nat} (hu : KK zs ys k) (hk : k ≤ ys.length) {j : Nat} (hj : j ≤ k) : (ys.take j).Pairwise (fun a b => a < b) ∧ ∀ x ∈ ys.take j, x ∈ zs := by
  have hl : (ys.take j).length = j := by rw [List.length_take]; omega
  have hg : ∀ i, (hi : i < (ys.take j).length) → (ys.take j)[i] = ys.getD i 0 := fun i hi => by
    rw [List.getElem_take, List.getD_eq_getElem?_getD, List.getElem?_eq_getElem (by omega)]; rfl
  refine ⟨List.pairwise_iff_getElem.2 fun a b ha hb hab => ?_, fun x hx => ?_⟩
  · rw [hg a ha, hg b hb]; exact hu.1 a b hab (by omega)
  · obtain ⟨i, hi, rfl⟩ := List.mem_iff_getElem.1 hx
    rw [hg i hi]; exact hu.2 i (by omega)
theorem Xg {n : Nat} {hA h : Hp} (WA : hA.Wf) {m : MD} {b6 b7 N : Nat} {kd : Int} {com : Bool} {u : Value} {zs : List Int} (I : FnI hA h m b7 kd com u zs N) (hN : N < 5000000000000) (h7 : hA.next = b7) (h6 : b6 < b7) (R6 : hA.Row b6 0 [.int .i64 0, .bool false, A6]) (h0 : Hp) (x0 : h0.Ext hA) (h06 : h0.next ≤ b6) (w256 : 256 ≤ b6) {e : Env} (s6 : AB 6 e = pt b6) (s7 : AB 7 e = pt b7) :
    ∃ e' h' k u', fnE (call AK (n + 1)) e h = .ret e' h' ∧ h0.Ext h' ∧ AB 6 e' = pt b6 ∧ h'.Row b6 0 (markL k u') ∧ h'.VS (fun b => b7 < b) u' (ints .i64 k.ext) ∧ RightMk m k ∧ (k.kd = 1 ∨ k.kd = 2 ∨ k.kd = 3) := by
  have x := I.x
  have W := x.wf
  have big := WA.big
  have R7 := I.R7
  have l2 : load1 ⟨b7, 2, none⟩ h = .ok u h := R7.load1 (off := 2) (by simp)
  have mkOf : ∀ L : List Int, L.Pairwise (fun a b => a < b) → (∀ y ∈ L, y ∈ zs) → L.length ≤ 50 → RightMk m ⟨kd, com, L⟩ := fun L hp hm hl => by
    have hK := I.K
    have hk : kd = 1 ∨ kd = 2 ∨ kd = 3 := by
      by_cases hv : m.ver = 0
      · exact .inr (.inl (hK.zero hv).1)
      · rcases hK.some hv with ⟨h, _⟩ | h
        · exact .inr (.inr h)
        · exact .inl h
    refine { rise := N0 hp fun y hy => I.mem y (hm y hy), lo := by show 0 ≤ kd; omega, hi := by show kd ≤ 4; omega, few := hl, com := fun hc => ?_, none := fun h => by have h : kd = 0 := h; omega, ver := fun hv => ⟨.inr (hK.zero hv).1, (hK.zero hv).2⟩ }
    have hc : com = true := hc
    show kd = 1 ∨ kd = 2
    by_cases hv : m.ver = 0
    · rw [(hK.zero hv).2] at hc; cases hc
    · rcases hK.some hv with ⟨_, h⟩ | h
      · rw [h] at hc; cases hc
      · exact .inl h
  have kdOf : kd = 1 ∨ kd = 2 ∨ kd = 3 := by
    by_cases hv : m.ver = 0
    · exact .inr (.inl (I.K.zero hv).1)
    · rcases I.K.some hv with ⟨h, _⟩ | h
      · exact .inr (.inr h)
      · exact .inl h
  have R6h := R6.ext WA x
  have last : ∀ (g : Hp) (L : List Int) (u' : Value), hA.Ext g → g.Row b7 0 (markL ⟨kd, com, L⟩ u') → Bn u' = true → ∃ g', storeR 3 (pt b6) (CP ⟨kd, com, L⟩ u') g = .ok noRes g' ∧ h0.Ext g' ∧ g'.Row b6 0 (markL ⟨kd, com, L⟩ u') ∧ ∀ b el L', b ≠ b6 → g.Row b el L' → g'.Row b el L' := fun g L u' xg Rg hu => by
    obtain ⟨g', st, Z, y, _, o⟩ := Aw (x0.trans xg) (R6.ext WA xg) h06 w256 (CP ⟨kd, com, L⟩ u') (n := 3) (off := 0) rfl (Nat.le_refl _) (HB hu)
    rw [A5 (by rfl)] at Z
    exact ⟨g', st, y, Z, o⟩
  rcases I.U with ⟨hu, hz⟩ | ⟨b, hu, r, hz, hb⟩
  · subst hu
    have k1 := RJ (n := n) (h := h)
    have k2 : call AK (n + 1) 51 [A6] h = .ok A6 h := by
      have c1 : iLt ((0 : Nat) : Int) 2 = true := rfl
      have ln : lenSR A6 h = .ok (.int .i64 ((0 : Nat) : Int)) h := B1
      rw [L7 rfl, MH]
      unfold OH
      simp only [Ac, Af, Nat.succ_eq_add_one, Nat.zero_add, Nat.reduceAdd, sT, Nat.reduceLT, Nat.reduceEqDiff, if_true, if_false, reduceIte, Ai, ln, AZ, AY, c1, Ao, Ax]
    obtain ⟨h1, st1, Z1, y1, n1, o1⟩ := Aw x R7 (by omega) (by omega) A6 (n := 1) (off := 2) rfl (by show 2 + 1 ≤ 3; omega) rfl
    have Z1 : h1.Row b7 0 (markL ⟨kd, com, []⟩ A6) := Z1
    have l3 : load1 ⟨b7, 2, none⟩ h1 = .ok A6 h1 := (CD Z1).2.2.1
    have ln : lenSR A6 h1 = .ok (.int .i64 ((0 : Nat) : Int)) h1 := B1
    have mn := VF (h := h1) (k := 0)
    have ct : ∀ (F : CallF) (e : Env), AB 80 e = A6 → AB 84 e = .int .i64 ((min 0 50 : Nat) : Int) → Ct 3 1 (AB 80) none (some (AB 84)) none F e h1 = .ok A6 h1 := fun F e e1 e2 => XO e1 e2
    obtain ⟨h2, st2, Z2, y2, n2, o2⟩ := Aw y1 Z1 (by omega) (by omega) A6 (n := 1) (off := 2) rfl (by show 2 + 1 ≤ 3; omega) rfl
    have Z2 : h2.Row b7 0 (markL ⟨kd, com, []⟩ A6) := Z2
    have l4 := (CD Z2).2.2.2
    obtain ⟨h3, st3, y3, Z3, o3⟩ := last h2 [] A6 y2 Z2 rfl
    have hrun : ∃ e2, fnE (call AK (n + 1)) e h = .ret e2 h3 ∧ AB 6 e2 = pt b6 := by
      unfold fnE
      simp only [sT, Nat.reduceLT, Nat.reduceEqDiff, if_true, if_false, reduceIte, s6, s7, AJ, AN, Nat.zero_add, AP, AX, l2, Ap, Ae, Al, k1, k2, Ad, st1, l3, Ai, ln, Nx, mn, ct, st2, Aa, AU, l4, st3]
      exact ⟨_, rfl, by simp only [AG, Nat.reduceLT, Nat.reduceEqDiff, if_true, if_false, reduceIte]; exact s6⟩
    obtain ⟨e2, q1, q2⟩ := hrun
    exact ⟨e2, h3, ⟨kd, com, []⟩, A6, q1, y3, q2, Z3, .inl ⟨rfl, rfl⟩, mkOf [] .nil (fun y hy => by cases hy) (by simp), kdOf⟩
  · subst hu
    have zl := I.zl
    obtain ⟨h1, ys, k1, y1, R1, hy1, hs1, hm1, nx1, o1⟩ := UL (n := n) x r (by omega) (by omega) hz (by omega)
    have Z1 := o1 _ _ _ (by omega) R7
    have l2b : load1 ⟨b7, 2, none⟩ h1 = .ok (.slice (some ⟨b, 0, none⟩) zs.length zs.length) h1 := Z1.load1 (off := 2) (by simp)
    obtain ⟨h2, ys2, k, k2, y2, R2, hy2, up, kp, kl, o2, nx2⟩ := L9 (n := n) y1 hs1 R1 (by omega) (by omega) (by omega) (by omega)
    rw [hy1] at k2 hy2 kl
    have Z2 := o2 _ _ _ (by omega) Z1
    obtain ⟨h3, st3, Z3, y3, n3, o3⟩ := Aw y2 Z2 (by omega) (by omega) (.slice (some ⟨b, 0, none⟩) k zs.length) (n := 1) (off := 2) rfl (by show 2 + 1 ≤ 3; omega) rfl
    have Z3 : h3.Row b7 0 [.int .i64 kd, .bool com, .slice (some ⟨b, 0, none⟩) k zs.length] := Z3
    have l3 : load1 ⟨b7, 2, none⟩ h3 = .ok (.slice (some ⟨b, 0, none⟩) k zs.length) h3 := Z3.load1 (off := 2) (by simp)
    have ln : lenSR (.slice (some ⟨b, 0, none⟩) k zs.length) h3 = .ok (.int .i64 (k : Int)) h3 := B1
    have mn := VF (h := h3) (k := k)
    have ct : ∀ (F : CallF) (e : Env), AB 80 e = .slice (some ⟨b, 0, none⟩) k zs.length → AB 84 e = .int .i64 ((min k 50 : Nat) : Int) → Ct 3 1 (AB 80) none (some (AB 84)) none F e h3 = .ok (.slice (some ⟨b, 0, none⟩) (min k 50) zs.length) h3 := fun F e e1 e2 => GQ e1 e2 (by omega)
    obtain ⟨h4, st4, Z4, y4, n4, o4⟩ := Aw y3 Z3 (by omega) (by omega) (.slice (some ⟨b, 0, none⟩) (min k 50) zs.length) (n := 1) (off := 2) rfl (by show 2 + 1 ≤ 3; omega) rfl
    have Z4 : h4.Row b7 0 (markL ⟨kd, com, ys2.take (min k 50)⟩ (.slice (some ⟨b, 0, none⟩) (min k 50) zs.length)) := Z4
    have l4 := (CD Z4).2.2.2
    obtain ⟨h5, st5, y5, Z5, o5⟩ := last h4 (ys2.take (min k 50)) (.slice (some ⟨b, 0, none⟩) (min k 50) zs.length) y4 Z4 rfl
    have hrun : ∃ e2, fnE (call AK (n + 1)) e h = .ret e2 h5 ∧ AB 6 e2 = pt b6 := by
      unfold fnE
      simp only [sT, Nat.reduceLT, Nat.reduceEqDiff, if_true, if_false, reduceIte, s6, s7, AJ, AN, Nat.zero_add, AP, AX, l2, Ap, Ae, Al, k1, l2b, k2, Ad, st3, l3, Ai, ln, Nx, mn, ct, st4, Aa, AU, l4, st5]
      exact ⟨_, rfl, by simp only [AG, Nat.reduceLT, Nat.reduceEqDiff, if_true, if_false, reduceIte]; exact s6⟩
    obtain ⟨e2, q1, q2⟩ := hrun
    obtain ⟨pp, pm⟩ := PC up (by omega) (j := min k 50) (Nat.min_le_left _ _)
    have htl : (ys2.take (min k 50)).length = min k 50 := by rw [List.length_take]; omega
    have Rb : h5.Row b 4 (ints .i64 ys2) := o5 _ _ _ (by omega) (o4 _ _ _ (by omega) (o3 _ _ _ (by omega) R2))
    refine ⟨e2, h5, ⟨kd, com, ys2.take (min k 50)⟩, _, q1, y5, q2, Z5, .inr ⟨b, 0, zs.length, 4, ints .i64 ys2, ?_, ?_, Rb, ?_, ?_, by show b7 < b; omega⟩, mkOf _ pp (fun y hy => hm1 y (pm y hy)) (by omega), kdOf⟩
    · show _ = Value.slice _ (ints .i64 (ys2.take (min k 50))).length _
      rw [BW, htl]
    · show (ints .i64 (ys2.take (min k 50))).length ≤ _
      rw [BW, htl]; omega
    · show 0 + (ints .i64 (ys2.take (min k 50))).length ≤ _
      rw [BW, BW, htl]; omega
    · show ((ints .i64 ys2).drop 0).take (ints .i64 (ys2.take (min k 50))).length = ints .i64 (ys2.take (min k 50))
      rw [BW, htl, List.drop_zero]
      exact (List.map_take).symm
theorem Pp {n : Nat} {h : Hp} (W : h.Wf) {m : MD} {um uw us ui : Value} {il : List IN} {idx : Int} (J : h.Inf ui il) (hil : il.length < 5000000000000) :
    ∃ h' k u, call AK (n + 2) 37 [mendV m um uw us, .int .i64 idx, ui] h = .ok (CP k u) h' ∧ h.Ext h' ∧ h'.VS (fun b => h.next ≤ b) u (ints .i64 k.ext) ∧ RightMk m k ∧ (k.kd = 1 ∨ k.kd = 2 ∨ k.kd = 3) := by
  have big := W.big
  obtain ⟨h1, bx, R3, x1, n1⟩ := Bw W (mendV m um uw us)
  have R3 : h1.Row h.next 0 (mendL m um uw us) := R3
  obtain ⟨h2, al6, R6, x2, n2⟩ := Bq x1.wf (n := 3) Fy rfl
  have y2 := x1.trans x2
  have R3b := R3.ext x1.wf x2
  obtain ⟨h3, al7, R7, x3, n3⟩ := Bq x2.wf (n := 3) Fy rfl
  obtain ⟨h4, st7, R7b, x4, n4, o4⟩ := Aw x3 R7 (Nat.le_refl _) (by omega) (CP ⟨3, false, []⟩ A6) (n := 3) (off := 0) rfl (Nat.le_refl _) rfl
  rw [A5 (by rfl)] at R7b
  have b56 := fun (F : CallF) (e : Env) => R0 (F := F) (e := e) (h := h2)
  obtain ⟨_, l1, _⟩ := An (R3b.ext x2.wf x4)
  have ln := ((J.ext W y2).ext x2.wf x4).len (g := h4)
  have pre : ∃ e1 h5 kd com, FnI h2 h5 m h2.next kd com A6 [] 0 ∧ ME (call AK (n + 1)) (Av e0 0 [mendV m um uw us, .int .i64 idx, ui]) h = Fa (Cb 0 (Ay fnB (call AK (n + 1)) e1 h5)) fnE (call AK (n + 1)) ∧ AB 1 e1 = .int .i64 idx ∧ AB 3 e1 = pt h.next ∧ AB 6 e1 = pt h1.next ∧ AB 7 e1 = pt h2.next ∧ AB 15 e1 = ui ∧ AB 16 e1 = .int .i64 (il.length : Int) ∧ AB 17 e1 = .int .i64 ((0 : Nat) : Int) := by
    by_cases hv : m.ver = 0
    · have f1 : iEq m.ver 0 = true := Cu hv
      obtain ⟨h5, st5, Z5, y5, n5, o5⟩ := Aw x4 R7b (Nat.le_refl _) (by omega) (.int .i64 2) (n := 1) (off := 0) rfl (by show 0 + 1 ≤ 3; omega) rfl
      have ln5 := ((J.ext W y2).ext x2.wf y5).len (g := h5)
      have run : ∃ e1, ME (call AK (n + 1)) (Av e0 0 [mendV m um uw us, .int .i64 idx, ui]) h = Fa (Cb 0 (Ay fnB (call AK (n + 1)) e1 h5)) fnE (call AK (n + 1)) ∧ AB 1 e1 = .int .i64 idx ∧ AB 3 e1 = pt h.next ∧ AB 6 e1 = pt h1.next ∧ AB 7 e1 = pt h2.next ∧ AB 15 e1 = ui ∧ AB 16 e1 = .int .i64 (il.length : Int) ∧ AB 17 e1 = .int .i64 ((0 : Nat) : Int) := by
        unfold ME
        simp only [Ac, Af, Nat.succ_eq_add_one, Nat.zero_add, Nat.reduceAdd, Br, Ck, Bh, Be, BQ, Dk, Bs, Cm, B3, BB, BM, Bz, AG, Nat.reduceLT, Nat.reduceEqDiff, if_true, if_false, reduceIte, bx, al6, b56, al7, Ad, st7, AJ, AN, AP, AX, l1, AZ, AY, f1, st5, Ai, ln5]
        exact ⟨_, rfl, by simp [AG], by simp [AG], by simp [AG], by simp [AG], by simp [AG], by simp [AG], by simp only [AG, Nat.reduceLT, Nat.reduceEqDiff, if_true, if_false, reduceIte]; rfl⟩
      obtain ⟨e1, p⟩ := run
      exact ⟨e1, h5, 2, false, { x := y5, R7 := Z5, U := .inl ⟨rfl, rfl⟩, zl := Nat.le_refl _, mem := (fun z hz => by cases hz), K := ⟨fun _ => ⟨rfl, rfl⟩, fun h => absurd hv h⟩ }, p⟩
    · have f1 : iEq m.ver 0 = false := Cj hv
      have run : ∃ e1, ME (call AK (n + 1)) (Av e0 0 [mendV m um uw us, .int .i64 idx, ui]) h = Fa (Cb 0 (Ay fnB (call AK (n + 1)) e1 h4)) fnE (call AK (n + 1)) ∧ AB 1 e1 = .int .i64 idx ∧ AB 3 e1 = pt h.next ∧ AB 6 e1 = pt h1.next ∧ AB 7 e1 = pt h2.next ∧ AB 15 e1 = ui ∧ AB 16 e1 = .int .i64 (il.length : Int) ∧ AB 17 e1 = .int .i64 ((0 : Nat) : Int) := by
        unfold ME
        simp only [Ac, Af, Nat.succ_eq_add_one, Nat.zero_add, Nat.reduceAdd, Br, Ck, Bh, Be, BQ, Dk, Bs, Cm, Ba, BB, BM, Bz, AG, Nat.reduceLT, Nat.reduceEqDiff, if_true, if_false, reduceIte, bx, al6, b56, al7, Ad, st7, AJ, AN, AP, AX, l1, AZ, AY, f1, Ai, ln]
        exact ⟨_, rfl, by simp [AG], by simp [AG], by simp [AG], by simp [AG], by simp [AG], by simp [AG], by simp only [AG, Nat.reduceLT, Nat.reduceEqDiff, if_true, if_false, reduceIte]; rfl⟩
      obtain ⟨e1, p⟩ := run
      exact ⟨e1, h4, 3, false, { x := x4, R7 := R7b, U := .inl ⟨rfl, rfl⟩, zl := Nat.le_refl _, mem := (fun z hz => by cases hz), K := ⟨fun h => absurd h hv, fun _ => .inl ⟨rfl, rfl⟩⟩ }, p⟩
  obtain ⟨e1, h5, kd0, com0, I0, p, s1, s3, s6, s7, s15, s16, s17⟩ := pre
  obtain ⟨e2, h6, kd, com, u, zs, q, I, t6, t7⟩ := Sd (F := call AK (n + 1)) x2.wf R3b (J.ext W y2) (by omega) rfl I0 s1 s3 s6 s7 s15 s16 s17
  obtain ⟨e3, h7, k, u', w1, w2, w3, w4, w5, w6, w7⟩ := Xg (n := n) x2.wf I hil rfl (by omega) R6 h y2 (by omega) (by omega) t6 t7
  refine ⟨h7, k, u', ?_, w2, w5.mono fun b hb => ?_, w6, w7⟩
  · rw [XB rfl, XX, p, q]
    simp only [BJ, BB, w1]
    rw [Ao, Da (v := CP k u') (h' := h7) (by rw [w3, AU]; exact (CD w4).2.2.2)]
  · have hb : h2.next < b := hb
    show h.next ≤ b
    omega
end
end Go.Proofs.Ythcfmklkbakkpaa
set_option linter.unusedVariables false
set_option linter.unusedSimpArgs false
namespace Go.Proofs.Ythcfmklkbakkpaa
noncomputable section
open Go Go.RowKit Go.ChangeShapes
set_option maxRecDepth 100000
def Gm (m : MD) (i : Nat) (k : MM) : MD := { m with marks := m.marks.set i k }
theorem Km : ∀ {ms : List MM} {us : List Value} {i : Nat} {z : Int}, us.length = ms.length → i < ms.length → (flatM ms us).set (i * 3) (.int .i64 z) = flatM (ms.set i { ms.getD i mm0 with kd := z }) us
  | [], _, _, _, _, hi => absurd hi (Nat.not_lt_zero _)
  | m :: ms, [], _, _, h, _ => by cases h
  | m :: ms, u :: us, 0, z, h, hi => rfl
  | m :: ms, u :: us, i + 1, z, h, hi => by
    simp only [List.length_cons] at h hi
    have e : (i + 1) * 3 = (i * 3) + 3 := by omega
    rw [e]
    show Value.int .i64 m.kd :: Value.bool m.com :: u :: (flatM ms us).set (i * 3) (.int .i64 z) = _
    rw [Km (ms := ms) (us := us) (i := i) (z := z) (by omega) (by omega)]; rfl
theorem I8 : ∀ {ms : List MM} {us : List Value} {i : Nat} {c : Bool}, us.length = ms.length → i < ms.length → (flatM ms us).set (i * 3 + 1) (.bool c) = flatM (ms.set i { ms.getD i mm0 with com := c }) us
  | [], _, _, _, _, hi => absurd hi (Nat.not_lt_zero _)
  | m :: ms, [], _, _, h, _ => by cases h
  | m :: ms, u :: us, 0, z, h, hi => rfl
  | m :: ms, u :: us, i + 1, z, h, hi => by
    simp only [List.length_cons] at h hi
    have e : (i + 1) * 3 + 1 = (i * 3 + 1) + 3 := by omega
    rw [e]
    show Value.int .i64 m.kd :: Value.bool m.com :: u :: (flatM ms us).set (i * 3 + 1) (.bool z) = _
    rw [I8 (ms := ms) (us := us) (i := i) (c := z) (by omega) (by omega)]; rfl
theorem Mu {a b c : Value} {l vs : List Value} {off : Nat} : over (a :: b :: c :: l) (off + 3) vs = a :: b :: c :: over l off vs := by
  unfold over
  have e : off + 3 + vs.length = (off + vs.length) + 3 := by omega
  rw [e]; rfl
theorem Fk : ∀ {ms : List MM} {us : List Value} {i : Nat} {k : MM} {u : Value}, us.length = ms.length → i < ms.length → over (flatM ms us) (i * 3) (markL k u) = flatM (ms.set i k) (us.set i u)
  | [], _, _, _, _, _, hi => absurd hi (Nat.not_lt_zero _)
  | m :: ms, [], _, _, _, h, _ => by cases h
  | m :: ms, v :: us, 0, k, u, h, hi => rfl
  | m :: ms, v :: us, i + 1, k, u, h, hi => by
    simp only [List.length_cons] at h hi
    have e : (i + 1) * 3 = (i * 3) + 3 := by omega
    rw [e]
    show over (Value.int .i64 m.kd :: Value.bool m.com :: v :: flatM ms us) (i * 3 + 3) (markL k u) = _
    rw [Mu, Fk (ms := ms) (us := us) (i := i) (k := k) (u := u) (by omega) (by omega)]; rfl
theorem Cz {l : List MM} {i j : Nat} {w : MM} (hi : i < l.length) : (l.set i w).getD j mm0 = if i = j then w else l.getD j mm0 := by
  rw [List.getD_eq_getElem?_getD, List.getElem?_set]
  by_cases h : i = j
  · subst h
    rw [if_pos rfl, if_pos hi, if_pos rfl]; rfl
  · rw [if_neg h, if_neg h, List.getD_eq_getElem?_getD]
section
variable {h : Hp} {k K T : Nat} {m : MD} {um uw us : Value}
theorem Hp.Ow.row (O : h.Ow k K T m um uw us) : ∃ B xs, k ≤ B ∧ B < K ∧ h.Row B 57 (flatM m.marks xs) ∧ xs.length = m.marks.length ∧ (∀ i, i < m.marks.length → h.VS (fun b => K ≤ b ∧ b < T) (xs.getD i noRes) (ints .i64 (m.marks.getD i mm0).ext)) ∧
    (∀ (g : Hp) (i : Nat), i < m.marks.length → Cv 3 um (.int .i64 (i : Int)) g = .ok (.pointer (some ⟨B, i * 3, none⟩)) g) ∧
    (∀ (h' : Hp) (T' : Nat) (ms : List MM) (ys : List Value), T ≤ T' → h'.Row B 57 (flatM ms ys) → ms.length = m.marks.length → ys.length = m.marks.length → (∀ i, i < m.marks.length → h'.VS (fun b => K ≤ b ∧ b < T') (ys.getD i noRes) (ints .i64 (ms.getD i mm0).ext)) → (∀ b el L, b ≠ B → h.Row b el L → h'.Row b el L) → h'.Ow k K T' { m with marks := ms } um uw us) ∧
    (∀ (h' : Hp) (S' : Nat → Prop) (ms : List MM) (ys : List Value), h'.Row B 57 (flatM ms ys) → ms.length = m.marks.length → ys.length = m.marks.length → (∀ i, i < m.marks.length → h'.VS S' (ys.getD i noRes) (ints .i64 (ms.getD i mm0).ext)) → (∀ b, k ≤ b ∧ b < K → S' b) → (∀ b, K ≤ b ∧ b < T → S' b) → (∀ b el L, b ≠ B → h.Row b el L → h'.Row b el L) → h'.Md S' { m with marks := ms } um uw us) := by
  obtain ⟨⟨b, xs, h1, h2, h3, h4, h5, h6⟩, w, ⟨ws, k1, k2, k3⟩⟩ := O
  refine ⟨b, xs, h4, h5, h2, h3, h6, fun g i hi => ?_, fun h' T' ms ys hT r1 r2 r3 r4 fr => ⟨⟨b, ys, by rw [h1, ← r2], r1, by rw [r3]; exact r2.symm, h4, h5, fun i hi => r4 i (by rw [← r2]; exact hi)⟩, ?_, ⟨ws, ?_, k2, fun i hi => ((k3 i hi).keep fun b' el L hb r => fr _ _ _ (by omega) r).mono fun b hb => by omega⟩⟩, fun h' S' ms ys r1 r2 r3 r4 s1 s2 fr => ⟨⟨b, 57, ys, by rw [h1, ← r2], r1, by rw [r3]; exact r2.symm, s1 _ ⟨h4, h5⟩, fun i hi => r4 i (by rw [← r2]; exact hi)⟩, ?_, ⟨ws, ?_, k2, fun i hi => ((k3 i hi).keep fun b' el L hb r => fr _ _ _ (by omega) r).mono fun b hb => s2 b hb⟩⟩⟩
  · have := B6 (h := g) (n := m.marks.length) (c := m.marks.length) (es := 3) (b := b) (off := 0) (k := .i64) hi
    rw [h1]
    rwa [Nat.zero_add] at this
  ·
    rcases w with w | ⟨b', el, w1, w2, w3, w4, w5⟩
    · exact .inl w
    · refine .inr ⟨b', el, w1, fr _ _ _ (EO w2 h2 ?_) w2, w3, w4, w5⟩
      rcases w3 with w3 | ⟨w3, _⟩ <;> omega
  · rcases k1 with w | ⟨b', el, w1, w2, w3, w4, w5⟩
    · exact .inl w
    · refine .inr ⟨b', el, w1, fr _ _ _ (EO w2 h2 ?_) w2, w3, w4, w5⟩
      rcases w3 with w3 | ⟨w3, _⟩ <;> omega
  · rcases w with w | ⟨b', el, w1, w2, w3, w4, w5⟩
    · exact .inl w
    · refine (Hp.Cl.vs (S := fun b => k ≤ b ∧ b < K) (en := 3) (.inr ⟨b', el, w1, fr _ _ _ (EO w2 h2 ?_) w2, w3, w4, w5⟩)).mono s1
      rcases w3 with w3 | ⟨w3, _⟩ <;> omega
  · rcases k1 with w | ⟨b', el, w1, w2, w3, w4, w5⟩
    · exact .inl w
    · refine (Hp.Cl.vs (S := fun b => k ≤ b ∧ b < K) (en := 36) (.inr ⟨b', el, w1, fr _ _ _ (EO w2 h2 ?_) w2, w3, w4, w5⟩)).mono s1
      rcases w3 with w3 | ⟨w3, _⟩ <;> omega
theorem Hp.Ow.mdS (O : h.Ow k K T m um uw us) {S' : Nat → Prop} (s1 : ∀ b, k ≤ b ∧ b < K → S' b) (s2 : ∀ b, K ≤ b ∧ b < T → S' b) : h.Md S' m um uw us := by
  obtain ⟨⟨b, xs, h1, h2, h3, h4, h5, h6⟩, w, ⟨ws, k1, k2, k3⟩⟩ := O
  exact ⟨⟨b, 57, xs, h1, h2, h3, s1 _ ⟨h4, h5⟩, fun i hi => (h6 i hi).mono s2⟩, w.vs.mono s1, ⟨ws, k1.vs.mono s1, k2, fun i hi => (k3 i hi).mono s2⟩⟩
theorem Hp.Ow.keep {h' : Hp} (O : h.Ow k K T m um uw us) (hk : ∀ b el L, k ≤ b → h.Row b el L → h'.Row b el L) (hK : k ≤ K) : h'.Ow k K T m um uw us := by
  obtain ⟨⟨b, xs, h1, h2, h3, h4, h5, h6⟩, w, ⟨ws, k1, k2, k3⟩⟩ := O
  exact ⟨⟨b, xs, h1, hk _ _ _ h4 h2, h3, h4, h5, fun i hi => (h6 i hi).keep fun b' el L hb r => hk _ _ _ (by omega) r⟩, w.keep fun b' el L hb r => hk _ _ _ hb.1 r, ⟨ws, k1.keep fun b' el L hb r => hk _ _ _ hb.1 r, k2, fun i hi => (k3 i hi).keep fun b' el L hb r => hk _ _ _ (by omega) r⟩⟩
theorem Hp.Ow.keep2 {h' : Hp} (O : h.Ow k K T m um uw us) (hk : ∀ b el L, (k ≤ b ∧ b < K ∨ K ≤ b ∧ b < T) → h.Row b el L → h'.Row b el L) (hK : k ≤ K) : h'.Ow k K T m um uw us := by
  obtain ⟨⟨b, xs, h1, h2, h3, h4, h5, h6⟩, w, ⟨ws, k1, k2, k3⟩⟩ := O
  exact ⟨⟨b, xs, h1, hk _ _ _ (.inl ⟨h4, h5⟩) h2, h3, h4, h5, fun i hi => (h6 i hi).keep fun b' el L hb r => hk _ _ _ (.inr hb) r⟩, w.keep fun b' el L hb r => hk _ _ _ (.inl hb) r, ⟨ws, k1.keep fun b' el L hb r => hk _ _ _ (.inl hb) r, k2, fun i hi => (k3 i hi).keep fun b' el L hb r => hk _ _ _ (.inr hb) r⟩⟩
theorem Hp.Ow.mdT (O : h.Ow k K T m um uw us) (hK : k ≤ K) {c : Nat} (hc : K ≤ c) (hT : T ≤ c) : h.Md (fun b => k ≤ b ∧ b ≠ c) m um uw us := by
  obtain ⟨⟨b, xs, h1, h2, h3, h4, h5, h6⟩, w, ⟨ws, k1, k2, k3⟩⟩ := O
  exact ⟨⟨b, 57, xs, h1, h2, h3, ⟨h4, by omega⟩, fun i hi => (h6 i hi).mono fun b hb => by omega⟩, w.vs.mono fun b hb => by omega, ⟨ws, k1.vs.mono fun b hb => by omega, k2, fun i hi => (k3 i hi).mono fun b hb => by omega⟩⟩
theorem Hp.Ow.ext {h' : Hp} (O : h.Ow k K T m um uw us) (W : h.Wf) (x : h.Ext h') (hK : k ≤ K) : h'.Ow k K T m um uw us := O.keep (fun _ _ _ _ r => r.ext W x) hK
theorem Hp.Ow.same {h' : Hp} (O : h.Ow k K T m um uw us) (hb : h'.bl = h.bl) (hK : k ≤ K) : h'.Ow k K T m um uw us := O.keep (fun _ _ _ _ r => r.same hb) hK
theorem Hp.Ow.ph (O : h.Ow k K T m um uw us) (p : Int) : h.Ow k K T { m with ph := p } um uw us := ⟨O.marks, O.which, O.shards⟩
end
theorem Hp.Cl.keepk {h h' : Hp} {S : Nat → Prop} {en : Nat} {v : Value} {xs : List Value} (o : h.Cl S en v xs) (hk : ∀ b el L, (el = en + 1 ∨ el = 0) → S b → h.Row b el L → h'.Row b el L) : h'.Cl S en v xs := by
  rcases o with h1 | ⟨b, el, h1, h2, h3, h4, h5⟩
  · exact .inl h1
  · exact .inr ⟨b, el, h1, hk _ _ _ (by rcases h3 with h3 | ⟨h3, _⟩ <;> omega) h4 h2, h3, h4, h5⟩
theorem KQ {g : Hp} {a lo hi : Nat} (h1 : a ≤ lo) (h2 : hi ≤ a) : HY (.ok a) g lo hi = true := by
  show (bif Nat.ble a lo then Nat.ble hi a else false) = true
  rw [Az.2 h1, Az.2 h2]; rfl
theorem Pe {h0 h : Hp} {S : Nat → Prop} {eb en : Nat} {v w : Value} {xs : List Value} {bw : Nat} (x0 : h0.Ext h) (o : h.Cl S en v xs) (hS : ∀ b, S b → h0.next ≤ b) (rw_ : h.Row bw 0 [w]) (hw : Bn w = true) (hl : xs.length ≤ 1000000) (he : eb ≤ 1000) :
    ∃ h' b', FK 1 eb en v (.slice (some ⟨bw, 0, none⟩) 1 1) h = .ok (.slice (some ⟨b', 0, none⟩) (xs.length + 1) (xs.length + 1)) h' ∧ h0.Ext h' ∧ h'.Row b' (en + 1) (xs ++ [w]) ∧ b' = h.next ∧ h'.next = h.next + 1 ∧ h'.mark = h.mark ∧ (∀ b el L, ¬ S b → h.Row b el L → h'.Row b el L) ∧ (∀ b el L, el ≠ en + 1 → h.Row b el L → h'.Row b el L) ∧
      (h.low = h.next → h.high = 0 → ∀ g : Hp, g.next = h.next → HY (blkOf v) g h'.low h'.high = true) := by
  have hs : ∀ k, BL h 1 (.slice (some ⟨bw, 0, none⟩) 1 1) 1 k = k [w] := fun k => rw_.srcE (es := 1) (off := 0) (n := 1) (by show 0 + 1 * 1 ≤ 1; omega)
  have ha : Bj [w] = true := by
    show (bif Bn w then true else false) = true
    rw [hw]; rfl
  have hm : (xs.length + 2) * (eb + 1) ≤ 70368744177664 := by
    have : (xs.length + 2) * (eb + 1) ≤ 1000002 * 1001 := Nat.mul_le_mul (by omega) (by omega)
    omega
  rcases o with ⟨rfl, rfl⟩ | ⟨b, el, rfl, r, hel, hb, h256⟩
  · obtain ⟨h5, a1, a2, a3, a4, ⟨a5, a7, a8⟩, a6⟩ := J6 (eb := eb) (en := en) x0 hs rfl rfl ha (by have := hm; simp only [List.length_nil] at this; omega)
    exact ⟨h5, h.next, a1, a2, a3, rfl, a4, a5, fun b el L _ r => r.ext x0.wf a6, fun b el L _ r => r.ext x0.wf a6, fun hlo hhi g hg => by
      show Nat.ble g.next h5.low = true
      rw [a7, hlo, hg]; exact Az.2 (Nat.le_refl _)⟩
  · have hlt := r.lt x0.wf
    rcases hel with rfl | ⟨rfl, rfl⟩
    · obtain ⟨h5, a1, a2, a3, a4, ⟨a5, a7, a8⟩, a6⟩ := IL (eb := eb) (en := en) (n := xs.length) x0 hs rfl rfl (by omega) ha r (Nat.mul_one _).symm (hS b hb) h256 hm
      refine ⟨h5, h.next, a1, a2, a3, rfl, a4, a5, fun b' el L hne r' => a6 _ _ _ (fun e => hne (e ▸ hb)) r', fun b' el L h2 r' => a6 _ _ _ (EO r' r h2) r', fun hlo hhi g hg => ?_⟩
      have e1 : h5.low = b := by rw [a7, hlo, B0]; omega
      have e2 : h5.high = b := by rw [a8, hhi, Cd]; omega
      rw [e1, e2]
      exact KQ (Nat.le_refl _) (Nat.le_refl _)
    · obtain ⟨h5, a1, a2, a3, a4, a6, a5, a7, a8⟩ := Ej (eb := eb) (en := en) (n := 1) x0 r hs rfl rfl (by omega) ha (by have := hm; simp only [List.length_nil] at this; omega)
      refine ⟨h5, h.next, a1, a2, a3, rfl, a4, a5, fun b' el L _ r' => r'.ext x0.wf a6, fun b' el L _ r' => r'.ext x0.wf a6, fun hlo hhi g hg => ?_⟩
      rw [a7, a8, hlo, hhi]
      show HY (.ok b) g h.next 0 = true
      exact KQ (by omega) (Nat.zero_le _)
theorem SH {n : Nat} {h : Hp} (W : h.Wf) {u : Value} {l : List Nat} (V : h.By u l) (hl : l.length ≤ 1000000) :
    ∃ h' v, call AK (n + 1) 36 [u] h = .ok v h' ∧ h.Ext h' ∧ h'.Cl (fun b => h.next ≤ b ∧ b < h'.next) 5 v (l.map bv) := by
  rcases V with ⟨⟨r, rfl⟩, rfl⟩ | V
  · have x1 := (Hp.Ext.refl W).pushRow 0 []
    have R := Hp.Row.new W 0 []
    have es := fun (e : Env) (t : List Value) => IC (F := call AK n) (e := e) (t := t) W
    have n1 : (h.pushRow 0 []).next = h.next + 1 := rfl
    generalize h.pushRow 0 [] = g at x1 R es n1
    have ne : ∀ e : Env, AB 0 e = .chan (some r) → oEq Ec.k false (AB 0) (kV (.slice none 0 0)) (call AK n) e h = .ok (.bool false) h := fun e he => by
      show (match eqV Ec.k (AB 0 e) (.slice none 0 0) with | some r => okB (false != r) h | none => .no) = _
      rw [RQ, he]
      exact FW
    have big := W.big
    have ap : FK 1 1 5 (.slice (some ⟨h.next, 0, none⟩) 0 0) (.chan (some r)) g = .ok (.slice (some ⟨h.next, 0, none⟩) 0 0) (g.wr h.next 0 []) := Ge x1.wf big R (fun k => rfl) rfl
    have R2 := R.wr_self x1.wf (off := 0) (vs := []) (Nat.le_refl _)
    refine ⟨_, .slice (some ⟨h.next, 0, none⟩) 0 0, ?_, R.wr_ext x1 (Nat.le_refl _) (off := 0) (vs := []) (Nat.le_refl _), .inr ⟨h.next, 0, rfl, R2, .inr ⟨rfl, rfl⟩, ⟨Nat.le_refl _, ?_⟩, big⟩⟩
    · rw [Jr rfl]
      unfold d36
      simp only [Ac, Af, Nat.succ_eq_add_one, Nat.zero_add, Nat.reduceAdd, sT, Nat.reduceLT, Nat.reduceEqDiff, if_true, if_false, reduceIte, ne, es, CC, ap, Ao, Ax]
    · have := R.wr_next (off := 0) (vs := []) (Nat.le_refl _)
      omega
  · exact Pc W V (Gt _) (by rw [List.length_map]; exact hl)
end
end Go.Proofs.Ythcfmklkbakkpaa
set_option linter.unusedVariables false
set_option linter.unusedSimpArgs false
namespace Go.Proofs.Ythcfmklkbakkpaa
noncomputable section
open Go Go.RowKit Go.ChangeShapes
set_option maxRecDepth 100000
def DV (m : MD) (i : Nat) (l : List Nat) : MD :=
  if fitsM m l = true then
    (if (m.which.length : Int) < m.need ∧ (i : Int) ∉ m.which then { m with marks := m.marks.set i { m.marks.getD i mm0 with kd := 2 }, which := m.which ++ [(i : Int)], shards := m.shards ++ [l] }
    else { m with marks := m.marks.set i { m.marks.getD i mm0 with kd := 2 } })
  else { m with ph := 3 }
theorem Rn {h h' : Hp} {F : CallF} {e : Env} {x y : O} {eb en : Nat} {v u w : Value} (hx : x e = v) (hy : y e = u) (ha : FK 1 eb en v u h.quiet = .ok w h') (hk : HY (blkOf v) h h'.low h'.high = true) : FI x (Bb 1 eb en x y) F e h = .ok w (h.back h') := by
  show (match Bb 1 eb en x y F e h.quiet with | .ok v h' => bif HY (blkOf (x e)) h h'.low h'.high then DH h v h' else .no | .no => .no) = _
  rw [CC, hx, hy, ha]
  show (bif HY (blkOf v) h h'.low h'.high then DH h w h' else .no) = _
  rw [hk]
  show DH h w h' = _
  unfold DH
  simp only [A0]; rfl
theorem gu {h : Hp} {S : Nat → Prop} {en : Nat} {v : Value} {xs : List Value} (o : h.Cl S en v xs) {F : CallF} {e : Env} {g : Hp} {x y : O} {k : C} {a i : Nat} (hx : x e = .pointer (some ⟨a, i, none⟩)) (hy : y e = v) (h1 : ¬ S a) : Bi x [y] k F e g = k F e g := by
  unfold Bi
  rw [hx]
  show (bif CI a e [y] then k F e g else .no) = _
  have : CI a e [y] = true := by
    unfold CI
    rw [hy]
    rcases o with ⟨rfl, _⟩ | ⟨b, el, rfl, _, _, hb, _⟩
    · rfl
    · show (bif Nat.beq b a then false else CI a e []) = true
      have n1 : Nat.beq b a = false := by
        cases e : Nat.beq b a
        · rfl
        · exact absurd (A1.1 e ▸ hb) h1
      rw [n1]; rfl
  rw [this]; rfl
theorem Wr {F : CallF} {e : Env} {h : Hp} (W : h.Wf) {g : O} {w : Value} (hv : g e = w) (hk : known w = true) (hc : cellsOf w = [w]) : Ar 1 (BI Ec.zero 1) [(0, 1, g)] F e h = .ok (.slice (some ⟨h.next, 0, none⟩) 1 1) (h.pushRow 0 [w]) := by
  have hz : BI Ec.zero 1 = [A6] := by kernel_rfl
  rw [hz, DM, Bo (hk := by rw [hv]; exact hk), hv, hc, if_pos (show [w].length = 1 from rfl), if_pos (show 0 + 1 ≤ [A6].length from Nat.le_refl _), Cr, D3 W]; rfl
def rdR : C := (BH (AE (AC 28) (AD 5 (AB 3))
(AE (AC 29) (AH (AB 28))
(AE (AC 31) (Aj .strong (Ar 1 (BI ty3.zero 1) [(0, 1, (AB 1))]))
(Bi (AB 29) []
(AE (AC 32) (FI (AB 29) (Bb 1 8 3 (AB 29) (AB 31)))
(AE (AC 33) (AD 6 (AB 3))
(CR (AB 33) (Bi (AB 33) [(AB 29)]
(AE (AC 34) (AH (AB 33))
(AE (AC 36) (Aj .weak (AV 36 [(AB 2)]))
(AE (AC 37) (Aj .strong (Ar 1 (BI Ec.zero 1) [(0, 1, (AB 36))]))
(AE (AC 38) (Aj .free (Bb 1 24 36 (AB 34) (AB 37)))
(AE (AC 39) (AD 5 (AB 3))
(cDo (Aj .free (AM 1 (AB 39) (AB 32)))
(AE (AC 40) (AD 6 (AB 3))
(cDo (Aj .free (AM 1 (AB 40) (AB 38)))
AQ)))))))))))))))))
def rdE : C := (AE (AC 41) (AL 7 (AB 3))
(cDo (AM 7 (AB 6) (AB 41))
Ak))
def rdS : C := (As (AO (AB 27)
(BH (AE (AC 28) (AD 5 (AB 3))
(AE (AC 29) (AH (AB 28))
(AE (AC 31) (Aj .strong (Ar 1 (BI ty3.zero 1) [(0, 1, (AB 1))]))
(Bi (AB 29) []
(AE (AC 32) (FI (AB 29) (Bb 1 8 3 (AB 29) (AB 31)))
(AE (AC 33) (AD 6 (AB 3))
(CR (AB 33) (Bi (AB 33) [(AB 29)]
(AE (AC 34) (AH (AB 33))
(AE (AC 36) (Aj .weak (AV 36 [(AB 2)]))
(AE (AC 37) (Aj .strong (Ar 1 (BI Ec.zero 1) [(0, 1, (AB 36))]))
(AE (AC 38) (Aj .free (Bb 1 24 36 (AB 34) (AB 37)))
(AE (AC 39) (AD 5 (AB 3))
(cDo (Aj .free (AM 1 (AB 39) (AB 32)))
(AE (AC 40) (AD 6 (AB 3))
(cDo (Aj .free (AM 1 (AB 40) (AB 38)))
AQ)))))))))))))))))
AQ)
(AE (AC 41) (AL 7 (AB 3))
(cDo (AM 7 (AB 6) (AB 41))
Ak)))
def YV : C := (As (AO (AB 27)
rdR
AQ)
rdE)
theorem Q0 : rdS = YV := rfl
def MG : C := (AE (AC 3) (Bd (AB 0))
(AE (AC 6) (Au 7 DB)
(AE (AC 7) (AL 7 (AB 3))
(AE (AC 9) (AV 42 [(AB 7), (AB 2)])
(AE (AC 10) (BF (AB 9))
(AO (AB 10)
(AE (AC 11) (AD 3 (AB 3))
(cDo (AM 1 (AB 11) (kV (.int .i64 3)))
(AE (AC 12) (AL 7 (AB 3))
(cDo (AM 7 (AB 6) (AB 12))
Ak))))
(AE (AC 13) (AD 4 (AB 3))
(AE (AC 14) (AH (AB 13))
(AE (AC 16) (A2 3 (AB 14) (AB 1))
(AE (AC 17) (AD 0 (AB 16))
(cDo (AM 1 (AB 17) (kV (.int .i64 2)))
(AE (AC 18) (AL 7 (AB 3))
(AE (AC 19) (AV 32 [(AB 18)])
(AE (AC 20) (BF (AB 19))
(cG (AB 20) true (AC 22) (AD 5 (AB 3))
(cG (AB 20) true (AC 23) (AH (AB 22))
(cG (AB 20) true (AC 24) (AF (AB 1))
(cG (AB 20) true (AC 25) (AV 41 [(AB 23), (AB 24)])
(cG (AB 20) true (AC 26) (BF (AB 25))
(AE (AC 27) (AW (AB 20) (AB 26) (kV (.bool false)))
rdS))))))))))))))))))))
def d38 : C := MG
theorem L6 {n : Nat} {args : List Value} {h : Hp} (hl : Nat.ble (Bk args) 320 = true) : call AK (Nat.succ n) 38 args h = Bt [.cN (AB 6) 7] (d38 (call AK n) (Av e0 0 args) h) := by
  have hb : AK.get 38 = some b38 := by kernel_rfl
  rw [BN hb]
  have hd : b38 = ⟨[.cN (AB 6) 7], d38⟩ := by kernel_rfl
  rw [hd, BE hl]
theorem MF : d38 = MG := rfl
theorem YU {n : Nat} {h0 h : Hp} (x0 : h0.Ext h) (W0 : h0.Wf) {k K T : Nat} {m : MD} {um uw us ub : Value} {l : List Nat} {b3 i : Nat} (hk : h0.next ≤ k) (hkK : k ≤ K) (O : h.Ow k K T m um uw us) (R3 : h.Row b3 0 (mendL m um uw us)) (h3 : K ≤ b3) (hT : T ≤ b3) (V : h0.By ub l) (hl : l.length ≤ 1000000) (hw : m.which.length ≤ 1000) (hs : m.shards.length ≤ 1000) {e : Env} (s1 : AB 1 e = .int .i64 (i : Int)) (s2 : AB 2 e = ub) (s3 : AB 3 e = pt b3) {v6 : Value} (s6 : AB 6 e = v6) :
    ∃ e' h' uw' us', rdR (call AK (n + 1)) e h = .norm e' h' ∧ h0.Ext h' ∧ h'.Row b3 0 (mendL m um uw' us') ∧ h'.Md (fun b => k ≤ b ∧ (b < K ∨ b < T ∨ h.next ≤ b)) { m with which := m.which ++ [(i : Int)], shards := m.shards ++ [l] } um uw' us' ∧ AB 3 e' = pt b3 ∧ AB 6 e' = v6 ∧ ∀ b el L, ¬ (k ≤ b ∧ b < K) → b ≠ b3 → h.Row b el L → h'.Row b el L := by
  have big := W0.big
  have b3lt := R3.lt x0.wf
  obtain ⟨⟨B, xs, um_is, RB, xl, kB, BK, exts⟩, Cw, ⟨ws, Cs, wl, els⟩⟩ := O
  have xm := x0.marked
  have hgm : h.marked.mark = h.next := rfl
  have hgn : h.marked.next = h.next := rfl
  have R3a : h.marked.Row b3 0 (mendL m um uw us) := R3.same rfl
  have keep0 : ∀ b el L, h.Row b el L → h.marked.Row b el L := fun b el L r => r.same rfl
  generalize hg0 : h.marked = g0 at xm hgm hgn R3a keep0
  obtain ⟨_, _, _, _, _, l5, l6, _⟩ := An R3a
  have bs1 : ∃ g1, (∀ (F : CallF) (e : Env), AB 1 e = .int .i64 (i : Int) → Aj .strong (Ar 1 (BI ty3.zero 1) [(0, 1, AB 1)]) F e g0 = .ok (.slice (some ⟨g0.next, 0, none⟩) 1 1) g1) ∧ g0.Ext g1 ∧ g1.Row g0.next 0 [.int .i64 (i : Int)] ∧ g1.next = g0.next + 1 ∧ g1.mark = g0.mark :=
    ⟨g0.back (g0.quiet.pushRow 0 [.int .i64 (i : Int)]), fun F e he => Gj (PW xm.wf.quiet he) ((Hp.Ext.refl xm.wf.quiet).pushRow 0 _) (by rw [hgm, hgn]; exact Nat.le_refl _), Hp.Ext.back ((Hp.Ext.refl xm.wf.quiet).pushRow 0 _), (Hp.Row.new xm.wf.quiet 0 _).same rfl, rfl, rfl⟩
  obtain ⟨g1, q1, xg1, Rw1, n1, m1⟩ := bs1
  have y1 := xm.trans xg1
  have keep1 : ∀ b el L, h.Row b el L → g1.Row b el L := fun b el L r => (keep0 _ _ _ r).ext xm.wf xg1
  have Cw1 : g1.quiet.Cl (fun b => k ≤ b ∧ b < K) 3 uw (ints .i64 m.which) := Cw.keep fun b el L _ r => (keep1 _ _ _ r).same rfl
  obtain ⟨a2, b2, ap2, ax2, aR2, ab2, an2, am2, af2, ag2, ao2⟩ := Pe (eb := 8) y1.quiet Cw1 (fun b hb => by omega) (Rw1.same (h' := g1.quiet) rfl) rfl (by rw [BW]; omega) (by omega)
  have ab2 : b2 = g1.next := ab2
  have an2 : a2.next = g1.next + 1 := an2
  have at2 : ∀ (F : CallF) (e : Env), AB 29 e = uw → AB 31 e = .slice (some ⟨g0.next, 0, none⟩) 1 1 → FI (AB 29) (Bb 1 8 3 (AB 29) (AB 31)) F e g1 = .ok (.slice (some ⟨b2, 0, none⟩) ((ints .i64 m.which).length + 1) ((ints .i64 m.which).length + 1)) (g1.back a2) := fun F e e1 e2 => Rn e1 e2 ap2 (ao2 rfl rfl g1 rfl)
  have y2 : h0.Ext (g1.back a2) := y1.back2 ax2
  have keep2 : ∀ b el L, ¬ (k ≤ b ∧ b < K) → h.Row b el L → (g1.back a2).Row b el L := fun b el L hb r => (af2 _ _ _ hb ((keep1 _ _ _ r).same (h' := g1.quiet) rfl)).same rfl
  have keep2k : ∀ b el L, el ≠ 4 → h.Row b el L → (g1.back a2).Row b el L := fun b el L hb r => (ag2 _ _ _ hb ((keep1 _ _ _ r).same (h' := g1.quiet) rfl)).same rfl
  have W2 : (g1.back a2).Row b2 4 (ints .i64 m.which ++ [.int .i64 (i : Int)]) := aR2.same rfl
  have R3b : (g1.back a2).Row b3 0 (mendL m um uw us) := keep2 _ _ _ (by omega) R3
  have Cs2 : (g1.back a2).Cl (fun b => k ≤ b ∧ b < K) 36 us ws := Cs.keepk fun b el L he _ r => keep2k _ _ _ (by omega) r
  have RB2 : (g1.back a2).Row B 57 (flatM m.marks xs) := keep2k _ _ _ (by omega) RB
  have mk2 : (g1.back a2).mark = h.next := by show g1.mark = _; rw [m1, hgm]
  have nx2 : (g1.back a2).next = g1.next + 1 := an2
  generalize hg2 : g1.back a2 = g2 at at2 y2 keep2 keep2k W2 R3b Cs2 RB2 mk2 nx2
  obtain ⟨_, _, _, _, _, _, l6', _⟩ := An R3b
  have old : b3 < g2.mark := by omega
  have ck : ∀ (kk : C) (F : CallF) (e : Env), AB 33 e = .pointer (some ⟨b3, 6, none⟩) → AB 29 e = uw → Bi (AB 33) [AB 29] kk F e g2 = kk F e g2 := fun kk F e e1 e2 => gu Cw e1 e2 (by omega)
  obtain ⟨h4, w, k4, x4, C4⟩ := SH (n := n) y2.quiet.wf (V.ext W0 y2.quiet) hl
  obtain ⟨g3, q3, xg3, mk3, gb3, gn3⟩ := Dq .weak k4 x4 (by omega)
  have C4 : g3.Cl (fun b => g2.next ≤ b ∧ b < h4.next) 5 w (l.map bv) := C4.same gb3
  have y3 := y2.trans xg3
  have z4 := xg3.next
  obtain ⟨wc, wo, wk⟩ := C4.vs.one
  have bs4 : ∃ g4, (∀ (F : CallF) (e : Env), AB 36 e = w → Aj .strong (Ar 1 (BI Ec.zero 1) [(0, 1, AB 36)]) F e g3 = .ok (.slice (some ⟨g3.next, 0, none⟩) 1 1) g4) ∧ g3.Ext g4 ∧ g4.Row g3.next 0 [w] ∧ g4.next = g3.next + 1 ∧ g4.mark = g3.mark :=
    ⟨g3.back (g3.quiet.pushRow 0 [w]), fun F e he => Gj (Wr y3.wf.quiet he wk wc) ((Hp.Ext.refl y3.wf.quiet).pushRow 0 _) (by omega), Hp.Ext.back ((Hp.Ext.refl y3.wf.quiet).pushRow 0 _), (Hp.Row.new y3.wf.quiet 0 _).same rfl, rfl, rfl⟩
  obtain ⟨g4, q4, xg4, Rw4, n4, mk4⟩ := bs4
  have y4 := y3.trans xg4
  have keep4 : ∀ b el L, g2.Row b el L → g4.Row b el L := fun b el L r => (r.ext y2.wf xg3).ext y3.wf xg4
  have Cs4 : g4.quiet.Cl (fun b => k ≤ b ∧ b < K) 36 us ws := Cs2.keep fun b el L _ r => (keep4 _ _ _ r).same rfl
  obtain ⟨a5, b5, ap5, ax5, aR5, ab5, an5, am5, af5, ag5, ao5⟩ := Pe (eb := 24) y4.quiet Cs4 (fun b hb => by omega) (Rw4.same (h' := g4.quiet) rfl) wo (by omega) (by omega)
  have ab5 : b5 = g4.next := ab5
  have at5 : ∀ (F : CallF) (e : Env), AB 34 e = us → AB 37 e = .slice (some ⟨g3.next, 0, none⟩) 1 1 → Aj .free (Bb 1 24 36 (AB 34) (AB 37)) F e g4 = .ok (.slice (some ⟨b5, 0, none⟩) (ws.length + 1) (ws.length + 1)) (g4.back a5) := fun F e e1 e2 => GH (by rw [CC, e1, e2]; exact ap5)
  have y5 : h0.Ext (g4.back a5) := y4.back2 ax5
  have keep5 : ∀ b el L, ¬ (k ≤ b ∧ b < K) → g4.Row b el L → (g4.back a5).Row b el L := fun b el L hb r => (af5 _ _ _ hb (r.same (h' := g4.quiet) rfl)).same rfl
  have keep5k : ∀ b el L, el ≠ 37 → g4.Row b el L → (g4.back a5).Row b el L := fun b el L hb r => (ag5 _ _ _ hb (r.same (h' := g4.quiet) rfl)).same rfl
  have W5 : (g4.back a5).Row b5 37 (ws ++ [w]) := aR5.same rfl
  have R3c : (g4.back a5).Row b3 0 (mendL m um uw us) := keep5 _ _ _ (by omega) (keep4 _ _ _ R3b)
  generalize hg5 : g4.back a5 = g5 at at5 y5 keep5 keep5k W5 R3c
  have il : (ints .i64 m.which).length = m.which.length := BW
  obtain ⟨g6, t6, T6, y6, n6, mk6, o6⟩ := Df y5 R3c (by omega) (by omega) (.slice (some ⟨b2, 0, none⟩) ((ints .i64 m.which).length + 1) ((ints .i64 m.which).length + 1)) (n := 1) (off := 5) rfl (by show 5 + 1 ≤ 7; omega) rfl
  obtain ⟨g7, t7, T7, y7, n7, mk7, o7⟩ := Df y6 T6 (by omega) (by omega) (.slice (some ⟨b5, 0, none⟩) (ws.length + 1) (ws.length + 1)) (n := 1) (off := 6) rfl (by rw [ER (by show 5 + 1 ≤ 7; omega)]; show 6 + 1 ≤ 7; omega) rfl
  have T7 : g7.Row b3 0 (mendL m um (.slice (some ⟨b2, 0, none⟩) ((ints .i64 m.which).length + 1) ((ints .i64 m.which).length + 1)) (.slice (some ⟨b5, 0, none⟩) (ws.length + 1) (ws.length + 1))) := T7
  have keepA : ∀ b el L, ¬ (k ≤ b ∧ b < K) → b ≠ b3 → g2.Row b el L → g7.Row b el L := fun b el L hb h3 r => o7 _ _ _ h3 (o6 _ _ _ h3 (keep5 _ _ _ hb (keep4 _ _ _ r)))
  have hrun : ∃ e2, rdR (call AK (n + 1)) e h = .norm e2 g7 ∧ AB 3 e2 = pt b3 ∧ AB 6 e2 = v6 := by
    unfold rdR
    simp only [sT, Nat.reduceLT, Nat.reduceEqDiff, if_true, if_false, reduceIte, Bc, hg0, s1, s2, s3, AJ, AN, Nat.zero_add, AP, AX, l5, q1, Eg, at2, hg2, Fh, Dp old, ck, l6', q3, Ae, Al, q4, at5, hg5, t6, t7]
    exact ⟨_, rfl, by simp only [AG, Nat.reduceLT, Nat.reduceEqDiff, if_true, if_false, reduceIte]; exact s3, by simp only [AG, Nat.reduceLT, Nat.reduceEqDiff, if_true, if_false, reduceIte]; exact s6⟩
  obtain ⟨e2, p0, p1, p2⟩ := hrun
  refine ⟨e2, g7, _, _, p0, y7, T7, ⟨⟨B, 57, xs, um_is, ?_, xl, by omega, fun j hj => ?_⟩, ?_, ⟨ws ++ [w], ?_, ?_, fun j hj => ?_⟩⟩, p1, p2, fun b el L hb h3 r => keepA _ _ _ hb h3 (keep2 _ _ _ hb r)⟩
  · exact o7 _ _ _ (by omega) (o6 _ _ _ (by omega) (keep5k _ _ _ (by omega) (keep4 _ _ _ RB2)))
  · exact ((exts j hj).keep fun b el L hb r => keepA _ _ _ (by omega) (by omega) (keep2 _ _ _ (by omega) r)).mono fun b hb => by omega
  · have hi : ints .i64 m.which ++ [.int .i64 (i : Int)] = ints .i64 (m.which ++ [(i : Int)]) := by
      unfold ints; rw [List.map_append]; rfl
    rw [hi] at W2
    have hl : (ints .i64 (m.which ++ [(i : Int)])).length = (ints .i64 m.which).length + 1 := by rw [BW, BW, List.length_append]; rfl
    refine .inr ⟨b2, 0, _, 4, _, by rw [hl], by rw [hl]; exact Nat.le_refl _, keepA _ _ _ (by omega) (by omega) W2, by rw [hl]; omega, ?_, by omega⟩
    rw [List.drop_zero, List.take_length]
  · have hl : (ws ++ [w]).length = ws.length + 1 := by rw [List.length_append]; rfl
    exact .inr ⟨b5, 0, _, 37, _, by rw [hl], by rw [hl]; exact Nat.le_refl _, o7 _ _ _ (by omega) (o6 _ _ _ (by omega) W5), by rw [hl]; omega, by rw [List.drop_zero, List.take_length], by omega⟩
  · show _ = (m.shards ++ [l]).length
    rw [List.length_append, List.length_append, wl]; rfl
  · have hj : j < (m.shards ++ [l]).length := hj
    rw [List.length_append] at hj
    have hj : j < m.shards.length + 1 := hj
    show g7.VS _ _ (((m.shards ++ [l]).getD j []).map bv)
    by_cases hjl : j < m.shards.length
    · rw [List.getD_eq_getElem?_getD, List.getElem?_append_left (by omega), ← List.getD_eq_getElem?_getD]
      rw [List.getD_eq_getElem?_getD (l := m.shards ++ [l]), List.getElem?_append_left hjl, ← List.getD_eq_getElem?_getD]
      exact ((els j hjl).keep fun b el L hb r => keepA _ _ _ (by omega) (by omega) (keep2 _ _ _ (by omega) r)).mono fun b hb => by omega
    · obtain rfl : j = m.shards.length := by omega
      rw [List.getD_eq_getElem?_getD, List.getElem?_append_right (by omega), wl, Nat.sub_self]
      rw [List.getD_eq_getElem?_getD (l := m.shards ++ [l]), List.getElem?_append_right (Nat.le_refl _), Nat.sub_self]
      show g7.VS _ w (l.map bv)
      refine (C4.vs.keep fun b el L hb r => ?_).mono fun b hb => by omega
      exact o7 _ _ _ (by omega) (o6 _ _ _ (by omega) (keep5 _ _ _ (by omega) (r.ext y3.wf xg4)))
theorem UA {n : Nat} {h0 h : Hp} (x0 : h0.Ext h) (W0 : h0.Wf) {k K T : Nat} {m : MD} {um uw us ub : Value} {l : List Nat} {i : Nat} (hk : h0.next ≤ k) (hkK : k ≤ K) (hKn : K ≤ h.next) (hTn : T ≤ h.next) (O : h.Ow k K T m um uw us) (hi : i < m.marks.length) (V : h0.By ub l) (hn : m.marks.length ≤ 255) (hw : m.which.length ≤ 255) (hs : m.shards.length ≤ 255) :
    ∃ h' uw' us', call AK (n + 3) 38 [mendV m um uw us, .int .i64 (i : Int), ub] h = .ok (mendV (DV m i l) um uw' us') h' ∧ h0.Ext h' ∧ h'.Md (fun b => k ≤ b ∧ (b < K ∨ b < T ∨ h.next ≤ b)) (DV m i l) um uw' us' ∧ ∀ b el L, ¬ (k ≤ b ∧ b < K) → h.Row b el L → h'.Row b el L := by
  have big := W0.big
  have zn := x0.next
  obtain ⟨h1, bx, R3, x1, n1⟩ := Bw x0.wf (mendV m um uw us)
  have R3 : h1.Row h.next 0 (mendL m um uw us) := R3
  obtain ⟨h2, al, R6, x2, n2⟩ := Bq x1.wf (n := 7) D0 rfl
  have y2 := x1.trans x2
  have R3b := R3.ext x1.wf x2
  have O2 := O.ext x0.wf y2 hkK
  obtain ⟨h3, kf, x3⟩ := Ki (n := n + 1) x2.wf (O2.md hkK) fun g => (V.ext W0 (x0.trans y2)).len
  have y3 := y2.trans x3
  have R3c := R3b.ext x2.wf x3
  have R6c := R6.ext x2.wf x3
  have O3 := O2.ext x2.wf x3 hkK
  have z3 := x3.next
  obtain ⟨_, _, _, _, _, _, _, l7⟩ := An R3b
  obtain ⟨_, _, _, _, m4, _⟩ := An R3c
  have c0 : ∀ g : Hp, g.Md (fun b => k ≤ b) m um uw us → Bj (mendL m um uw us) = true := fun g M => M.all
  cases hf : fitsM m l
  · rw [hf] at kf
    have hr : DV m i l = { m with ph := 3 } := by unfold DV; rw [hf]; rfl
    rw [hr]
    obtain ⟨h4, st, Z4, y4, n4, o4⟩ := Aw (x0.trans y3) R3c zn (by omega) (.int .i64 3) (n := 1) (off := 3) rfl (by show 3 + 1 ≤ 7; omega) rfl
    have Z4 : h4.Row h.next 0 (mendL { m with ph := 3 } um uw us) := Z4
    obtain ⟨_, _, _, _, _, _, _, v7⟩ := An Z4
    have O4 : h4.Ow k K T { m with ph := 3 } um uw us := (O3.keep2 (h' := h4) (fun b el L hb r => o4 _ _ _ (by omega) r) hkK).ph 3
    obtain ⟨h5, st5, Z5, y5, n5, o5⟩ := Aw y4 (o4 _ _ _ (by omega) R6c) (by omega) (by omega) (mendV { m with ph := 3 } um uw us) (n := 7) (off := 0) rfl (Nat.le_refl _) (O4.md hkK).all
    rw [A5 (by rfl)] at Z5
    have v8 := (An (show h5.Row h1.next 0 (mendL { m with ph := 3 } um uw us) from Z5)).2.2.2.2.2.2.2
    refine ⟨h5, uw, us, ?_, y5, (O4.keep2 (h' := h5) (fun b el L hb r => o5 _ _ _ (by omega) r) hkK).mdS (fun b hb => by omega) (fun b hb => by omega), fun b el L hb r => ?_⟩
    · rw [L6 rfl, MF]
      unfold MG
      simp only [Ac, Af, Nat.succ_eq_add_one, Nat.zero_add, Nat.reduceAdd, sT, Nat.reduceLT, Nat.reduceEqDiff, if_true, if_false, reduceIte, bx, al, Aa, AU, l7, Ap, Ae, Al, kf, BP, BO, Bool.not_false, AJ, AN, Ad, st, v7, st5]
      rw [Ao, Da (v := mendV { m with ph := 3 } um uw us) (h' := h5) (by simp only [AG, Nat.reduceLT, Nat.reduceEqDiff, if_true, if_false, reduceIte]; exact v8)]
    · have := r.lt x0.wf
      exact o5 _ _ _ (by omega) (o4 _ _ _ (by omega) (r.ext x0.wf y3))
  · rw [hf] at kf
    obtain ⟨B, xs, kB, BK, RB, xl, exts, ix, clo, cloM⟩ := O3.row
    have hfl := DC xl
    obtain ⟨h4, st, Z4, y4, n4, o4⟩ := Aw (x0.trans y3) RB (by omega) (by omega) (.int .i64 2) (n := 1) (off := i * 3) rfl (by omega) rfl
    rw [Bv, DO (by omega), Km xl hi] at Z4
    have O4 : h4.Ow k K T { m with marks := m.marks.set i { m.marks.getD i mm0 with kd := 2 } } um uw us := clo h4 T _ xs (Nat.le_refl _) Z4 (by rw [List.length_set]) xl (fun j hj => by
      have : ((m.marks.set i { m.marks.getD i mm0 with kd := 2 }).getD j mm0).ext = (m.marks.getD j mm0).ext := by
        rw [Cz hi]
        by_cases hij : i = j
        · rw [if_pos hij, hij]
        · rw [if_neg hij]
      rw [this]
      exact (exts j hj).keep fun b el L hb r => o4 _ _ _ (by omega) r) (fun b el L hb r => o4 _ _ _ hb r)
    have R3d := o4 _ _ _ (show h.next ≠ B by omega) R3c
    have R6d := o4 _ _ _ (show h1.next ≠ B by omega) R6c
    obtain ⟨_, _, _, _, _, e5, _, e7⟩ := An R3d
    have hmv : mendV m um uw us = mendV { m with marks := m.marks.set i { m.marks.getD i mm0 with kd := 2 } } um uw us := rfl
    obtain ⟨h5, ke, x5⟩ := G4 (n := n + 1) y4.wf (O4.md hkK)
    rw [← hmv] at ke
    have ke : call AK (n + 2) 32 [mendV m um uw us] h4 = .ok (.bool (decide (m.need ≤ (m.which.length : Int)))) h5 := ke
    have y5 := y4.trans x5
    have O5 := O4.ext y4.wf x5 hkK
    have R3e := R3d.ext y4.wf x5
    have R6e := R6d.ext y4.wf x5
    have z5 := x5.next
    obtain ⟨_, _, _, _, _, f5, _, f7⟩ := An R3e
    have kc := HL (n := n) (x := (i : Int)) O5.which.vs.vals (show m.which.length < 900000 by omega)
    have rows5 : ∀ b el L, ¬ (k ≤ b ∧ b < K) → h.Row b el L → h5.Row b el L := fun b el L hb r => (o4 _ _ _ (by omega) (r.ext x0.wf y3)).ext y4.wf x5
    have fin : ∀ (g : Hp) (m' : MD) (uw' us' : Value) (e : Env), h0.Ext g → g.Row h.next 0 (mendL m' um uw' us') → g.Row h1.next 0 [.int .i64 0, .int .i64 0, .int .i64 0, .int .i64 0, A6, A6, A6] → g.Md (fun b => (k ≤ b ∧ (b < K ∨ b < T ∨ h.next ≤ b)) ∧ b ≠ h1.next) m' um uw' us' → AB 3 e = pt h.next → AB 6 e = pt h1.next →
        ∃ e' g', rdE (call AK (n + 2)) e g = .ret e' g' ∧ Bt [.cN (AB 6) 7] (.ret e' g') = .ok (mendV m' um uw' us') g' ∧ h0.Ext g' ∧ g'.Md (fun b => k ≤ b ∧ (b < K ∨ b < T ∨ h.next ≤ b)) m' um uw' us' ∧ ∀ b el L, b ≠ h1.next → g.Row b el L → g'.Row b el L := fun g m' uw' us' e xg Ra Rb Mg s3 s6 => by
      obtain ⟨g', st', Z', y', _, o'⟩ := Aw xg Rb (by omega) (by omega) (mendV m' um uw' us') (n := 7) (off := 0) rfl (Nat.le_refl _) Mg.all
      rw [A5 (by rfl)] at Z'
      have a7 := (An Ra).2.2.2.2.2.2.2
      have run : ∃ e2, rdE (call AK (n + 2)) e g = .ret e2 g' ∧ AB 6 e2 = pt h1.next := by
        unfold rdE
        simp only [sT, Nat.reduceLT, Nat.reduceEqDiff, if_true, if_false, reduceIte, s3, s6, Aa, AU, a7, Ad, st']
        exact ⟨_, rfl, by simp only [AG, Nat.reduceLT, Nat.reduceEqDiff, if_true, if_false, reduceIte]; exact s6⟩
      obtain ⟨e2, q1, q2⟩ := run
      refine ⟨e2, g', q1, ?_, y', (Mg.keep fun b el L hb r => o' _ _ _ hb.2 r).mono fun b hb => hb.1, o'⟩
      rw [Ao, Da (v := mendV m' um uw' us') (h' := g') (by rw [q2, AU]; exact (An (show g'.Row h1.next 0 (mendL m' um uw' us') from Z')).2.2.2.2.2.2.2)]
    have O5m : h5.Md (fun b => (k ≤ b ∧ (b < K ∨ b < T ∨ h.next ≤ b)) ∧ b ≠ h1.next) { m with marks := m.marks.set i { m.marks.getD i mm0 with kd := 2 } } um uw us := O5.mdS (fun b hb => by omega) (fun b hb => by omega)
    by_cases hc : (m.which.length : Int) < m.need ∧ (i : Int) ∉ m.which
    · have hr : DV m i l = { m with marks := m.marks.set i { m.marks.getD i mm0 with kd := 2 }, which := m.which ++ [(i : Int)], shards := m.shards ++ [l] } := by unfold DV; rw [hf, if_pos rfl, if_pos hc]
      rw [hr]
      rw [decide_eq_false (show ¬ m.need ≤ (m.which.length : Int) by omega)] at ke
      have kc : call AK (n + 2) 41 [uw, .int .i64 (i : Int)] h5 = .ok (.bool false) h5 := by rw [kc]; rw [decide_eq_false hc.2]
      have pre : ∃ e1, MG (call AK (n + 2)) (Av e0 0 [mendV m um uw us, .int .i64 (i : Int), ub]) h = Fa (rdR (call AK (n + 2)) e1 h5) rdE (call AK (n + 2)) ∧ AB 1 e1 = .int .i64 (i : Int) ∧ AB 2 e1 = ub ∧ AB 3 e1 = pt h.next ∧ AB 6 e1 = pt h1.next := by
        unfold MG
        rw [Q0]
        unfold YV
        simp only [Ac, Af, Nat.succ_eq_add_one, Nat.zero_add, Nat.reduceAdd, Br, Ck, Bh, Be, Bs, Cm, B3, Ba, BM, Bz, AG, Nat.reduceLT, Nat.reduceEqDiff, if_true, if_false, reduceIte, gD, bx, al, Aa, AU, l7, Ap, Ae, Al, kf, BP, BO, Bool.not_true, Bool.not_false, AJ, AN, Nat.add_zero, AP, AX, m4, BG, ix h3 i hi, Ad, st, e7, ke, f5, kc]
        exact ⟨_, rfl, by simp [AG], by simp [AG], by simp [AG], by simp [AG]⟩
      obtain ⟨e1, p, s1, s2, s3, s6⟩ := pre
      obtain ⟨e2, h6, uw', us', q1, y6, Z6, M6, s3', s6', fr6⟩ := YU (n := n + 1) y5 W0 hk hkK O5 R3e (by omega) (by omega) V (Kj hf |> fun h => by omega) (by show m.which.length ≤ 1000; omega) (by show m.shards.length ≤ 1000; omega) s1 s2 s3 s6
      have R6f := fr6 _ _ _ (by omega) (by omega) R6e
      have M6' : h6.Md (fun b => (k ≤ b ∧ (b < K ∨ b < T ∨ h.next ≤ b)) ∧ b ≠ h1.next) { m with marks := m.marks.set i { m.marks.getD i mm0 with kd := 2 }, which := m.which ++ [(i : Int)], shards := m.shards ++ [l] } um uw' us' := M6.mono fun b hb => by omega
      obtain ⟨e3, h7, w1, w2, w3, w4, w5⟩ := fin h6 { m with marks := m.marks.set i { m.marks.getD i mm0 with kd := 2 }, which := m.which ++ [(i : Int)], shards := m.shards ++ [l] } uw' us' e2 y6 Z6 R6f M6' s3' s6'
      refine ⟨h7, uw', us', ?_, w3, w4, fun b el L hb r => ?_⟩
      · rw [L6 rfl, MF, p, q1, BB, w1]; exact w2
      · have := r.lt x0.wf
        exact w5 _ _ _ (by omega) (fr6 _ _ _ hb (by omega) (rows5 _ _ _ hb r))
    · have hr : DV m i l = { m with marks := m.marks.set i { m.marks.getD i mm0 with kd := 2 } } := by unfold DV; rw [hf, if_pos rfl, if_neg hc]
      rw [hr]
      have pre : ∃ e1, MG (call AK (n + 2)) (Av e0 0 [mendV m um uw us, .int .i64 (i : Int), ub]) h = rdE (call AK (n + 2)) e1 h5 ∧ AB 3 e1 = pt h.next ∧ AB 6 e1 = pt h1.next := by
        unfold MG
        rw [Q0]
        unfold YV
        by_cases hc1 : m.need ≤ (m.which.length : Int)
        · rw [decide_eq_true hc1] at ke
          simp only [Ac, Af, Nat.succ_eq_add_one, Nat.zero_add, Nat.reduceAdd, Br, Ck, Bh, Be, Dk, BB, Bs, Cm, B3, Ba, BM, Bz, AG, Nat.reduceLT, Nat.reduceEqDiff, if_true, if_false, reduceIte, gD, bx, al, Aa, AU, l7, Ap, Ae, Al, kf, BP, BO, Bool.not_true, Bool.not_false, AJ, AN, Nat.add_zero, AP, AX, m4, BG, ix h3 i hi, Ad, st, e7, ke]
          exact ⟨_, rfl, by simp [AG], by simp [AG]⟩
        · rw [decide_eq_false hc1] at ke
          have hm : (i : Int) ∈ m.which := Classical.byContradiction fun hn => hc ⟨by omega, hn⟩
          have kc : call AK (n + 2) 41 [uw, .int .i64 (i : Int)] h5 = .ok (.bool true) h5 := by rw [kc]; rw [decide_eq_true hm]
          simp only [Ac, Af, Nat.succ_eq_add_one, Nat.zero_add, Nat.reduceAdd, Br, Ck, Bh, Be, Dk, BB, Bs, Cm, B3, Ba, BM, Bz, AG, Nat.reduceLT, Nat.reduceEqDiff, if_true, if_false, reduceIte, gD, bx, al, Aa, AU, l7, Ap, Ae, Al, kf, BP, BO, Bool.not_true, Bool.not_false, AJ, AN, Nat.add_zero, AP, AX, m4, BG, ix h3 i hi, Ad, st, e7, ke, f5, kc]
          exact ⟨_, rfl, by simp [AG], by simp [AG]⟩
      obtain ⟨e1, p, s3, s6⟩ := pre
      obtain ⟨e3, h7, w1, w2, w3, w4, w5⟩ := fin h5 { m with marks := m.marks.set i { m.marks.getD i mm0 with kd := 2 } } uw us e1 y5 R3e R6e O5m s3 s6
      refine ⟨h7, uw, us, ?_, w3, w4, fun b el L hb r => ?_⟩
      · rw [L6 rfl, MF, p, w1]; exact w2
      · have := r.lt x0.wf
        exact w5 _ _ _ (by omega) (rows5 _ _ _ hb r)
end
end Go.Proofs.Ythcfmklkbakkpaa
set_option linter.unusedVariables false
set_option linter.unusedSimpArgs false
namespace Go.Proofs.Ythcfmklkbakkpaa
noncomputable section
open Go Go.RowKit Go.ChangeShapes
set_option maxRecDepth 100000
theorem BX {F : CallF} {e : Env} {h : Hp} {x : O} : Bx x F e h = OU (x e) h := rfl
theorem BC {a : Addr} {h : Hp} : OU (.pointer (some a)) h = .ok (.pointer (some a)) h := rfl
theorem KU {F : CallF} {e : Env} {h : Hp} : A8 FA.zero [] F e h = .ok (CP mm0 A6) h := by
  rw [En, NC, Cr]; rfl
theorem B7 : iEq 1 1 = true ∧ iEq 1 2 = false ∧ iEq 1 3 = false ∧ iEq 1 4 = false ∧ iEq 1 6 = false ∧ iEq 2 1 = false ∧ iEq 2 2 = true ∧ iEq 2 3 = false ∧ iEq 2 4 = false ∧ iEq 2 6 = false ∧ iEq 3 1 = false ∧ iEq 3 2 = false ∧ iEq 3 3 = true ∧ iEq 3 4 = false ∧ iEq 3 6 = false ∧ iEq 4 1 = false ∧ iEq 4 2 = false ∧ iEq 4 3 = false ∧ iEq 4 4 = true ∧ iEq 4 6 = false ∧ iEq 6 1 = false ∧ iEq 6 2 = false ∧ iEq 6 3 = false ∧ iEq 6 4 = false ∧ iEq 6 6 = true := ⟨rfl, rfl, rfl, rfl, rfl, rfl, rfl, rfl, rfl, rfl, rfl, rfl, rfl, rfl, rfl, rfl, rfl, rfl, rfl, rfl, rfl, rfl, rfl, rfl, rfl⟩
def tdC : C := (AE (AC 22) (AD 3 (AB 5))
(AE (AC 23) (AH (AB 22))
(AE (AC 24) (AS iEq .i64 (AB 23) (kV (.int .i64 61)))
(cG (AB 24) true (AC 26) (AD 1 (AB 4))
(cG (AB 24) true (AC 27) (AH (AB 26))
(cG (AB 24) true (AC 28) (AS iEq .u8 (AB 27) (kV (.int .u8 3)))
(cG (AB 24) true (AC 29) (AF (AB 28))
(cG (AB 29) false (AC 30) (AD 1 (AB 4))
(cG (AB 29) false (AC 31) (AH (AB 30))
(cG (AB 29) false (AC 32) (AS iEq .u8 (AB 31) (kV (.int .u8 1)))
(cG (AB 24) true (AC 33) (AW (AB 29) (kV (.bool true)) (AB 32))
(cG (AB 24) true (AC 34) (AF (AB 33))
(cG (AB 34) false (AC 35) (AD 1 (AB 4))
(cG (AB 34) false (AC 36) (AH (AB 35))
(cG (AB 34) false (AC 37) (AS iEq .u8 (AB 36) (kV (.int .u8 2)))
(cG (AB 24) true (AC 38) (AW (AB 34) (kV (.bool true)) (AB 37))
(AE (AC 39) (AW (AB 24) (AB 38) (kV (.bool false)))
(AE (AC 21) (AF (AB 39))
(AO (AB 21)
(AE (AC 40) (AD 3 (AB 3))
(cDo (AM 1 (AB 40) (kV (.int .i64 3)))
AQ))
(AE (AC 42) (AD 1 (AB 4))
(AE (AC 43) (AH (AB 42))
(AE (AC 44) (AS iEq .u8 (AB 43) (kV (.int .u8 4)))
(cG (AB 44) true (AC 46) (AD 2 (AB 4))
(cG (AB 44) true (AC 47) (AH (AB 46))
(cG (AB 44) true (AC 48) (AS iEq .i64 (AB 47) (kV (.int .i64 0)))
(AE (AC 49) (AW (AB 44) (AB 48) (kV (.bool false)))
(cG (AB 49) true (AC 51) (AF (AB 8))
(AE (AC 52) (AW (AB 49) (AB 51) (kV (.bool false)))
(cG (AB 52) true (AC 54) (AF (AB 7))
(cG (AB 52) true (AC 55) (Bx (AB 54))
(cG (AB 52) true (AC 56) (AD 0 (AB 55))
(cG (AB 52) true (AC 57) (AH (AB 56))
(cG (AB 52) true (AC 58) (AS iEq .i64 (AB 57) (kV (.int .i64 0)))
(AE (AC 59) (AW (AB 52) (AB 58) (kV (.bool false)))
(AE (AC 41) (AF (AB 59))
(AO (AB 41)
(AE (AC 61) (AL 7 (AB 3))
(AE (AC 62) (AD 0 (AB 4))
(AE (AC 63) (AH (AB 62))
(AE (AC 64) (AD 4 (AB 5))
(AE (AC 65) (AH (AB 64))
(AE (AC 66) (AV 37 [(AB 61), (AB 63), (AB 65)])
(AE (AC 67) (Bx (AB 7))
(cDo (AM 3 (AB 67) (AB 66))
AQ))))))))
(AE (AC 69) (AD 1 (AB 4))
(AE (AC 70) (AH (AB 69))
(AE (AC 71) (AS iEq .u8 (AB 70) (kV (.int .u8 3)))
(cG (AB 71) true (AC 73) (AF (AB 8))
(AE (AC 74) (AW (AB 71) (AB 73) (kV (.bool false)))
(AE (AC 68) (AF (AB 74))
(AO (AB 68)
(BH (AE (AC 77) (Bx (AB 7))
(AE (AC 78) (AD 2 (AB 77))
(AE (AC 79) (AH (AB 78))
(AE (AC 81) (Bx (AB 7))
(AE (AC 82) (AD 2 (AB 81))
(AE (AC 83) (AH (AB 82))
(AE (AC 84) (Am (AB 83))
(AE (AC 85) (DF Int.sub .i64 (AB 84) (kV (.int .i64 1)))
(AE (AC 86) (Ct 3 1 (AB 79) none (some (AB 85)) none)
(AE (AC 87) (Bx (AB 7))
(AE (AC 88) (AD 2 (AB 87))
(cDo (Aj .free (AM 1 (AB 88) (AB 86)))
AQ)))))))))))))
(AE (AC 90) (AD 1 (AB 4))
(AE (AC 91) (AH (AB 90))
(AE (AC 92) (AS iEq .u8 (AB 91) (kV (.int .u8 6)))
(cG (AB 92) true (AC 94) (AF (AB 8))
(AE (AC 95) (AW (AB 92) (AB 94) (kV (.bool false)))
(cG (AB 95) true (AC 97) (AD 1 (AB 3))
(cG (AB 95) true (AC 98) (AH (AB 97))
(cG (AB 95) true (AC 99) (AS iEq .i64 (AB 98) (kV (.int .i64 0)))
(AE (AC 100) (AW (AB 95) (AB 99) (kV (.bool false)))
(AE (AC 89) (AF (AB 100))
(AO (AB 89)
(AE (AC 102) (Bx (AB 7))
(AE (AC 103) (AD 2 (AB 102))
(cDo (AM 1 (AB 103) (kV (.slice none 0 0)))
AQ)))
(AE (AC 105) (AD 1 (AB 4))
(AE (AC 106) (AH (AB 105))
(AE (AC 107) (AS iEq .u8 (AB 106) (kV (.int .u8 4)))
(cG (AB 107) true (AC 109) (AF (AB 8))
(AE (AC 110) (AW (AB 107) (AB 109) (kV (.bool false)))
(AE (AC 104) (AF (AB 110))
(AO (AB 104)
(AE (AC 111) (AL 7 (AB 3))
(AE (AC 112) (AD 0 (AB 4))
(AE (AC 113) (AH (AB 112))
(AE (AC 114) (AD 5 (AB 5))
(AE (AC 115) (AH (AB 114))
(AE (AC 116) (AV 38 [(AB 111), (AB 113), (AB 115)])
(cDo (AM 7 (AB 6) (AB 116))
Ak)))))))
(AE (AC 118) (AD 1 (AB 4))
(AE (AC 119) (AH (AB 118))
(AE (AC 120) (AS iEq .u8 (AB 119) (kV (.int .u8 4)))
(cG (AB 120) true (AC 122) (AF (AB 9))
(AE (AC 123) (AW (AB 120) (AB 122) (kV (.bool false)))
(cG (AB 123) true (AC 125) (AF (AB 7))
(cG (AB 123) true (AC 126) (Bx (AB 125))
(cG (AB 123) true (AC 127) (AD 0 (AB 126))
(cG (AB 123) true (AC 128) (AH (AB 127))
(cG (AB 123) true (AC 129) (AS iEq .i64 (AB 128) (kV (.int .i64 1)))
(AE (AC 130) (AW (AB 123) (AB 129) (kV (.bool false)))
(AE (AC 117) (AF (AB 130))
(As (AO (AB 117)
AQ
(AE (AC 131) (AD 1 (AB 4))
(AE (AC 132) (AH (AB 131))
(AE (AC 133) (AS iEq .u8 (AB 132) (kV (.int .u8 6)))
(cG (AB 133) true (AC 135) (AF (AB 8))
(AE (AC 136) (AW (AB 133) (AB 135) (kV (.bool false)))
(AE (AC 117) (AF (AB 136))
AQ)))))))
(AO (AB 117)
(AE (AC 139) (Bx (AB 7))
(AE (AC 140) (AD 0 (AB 139))
(cDo (AM 1 (AB 140) (kV (.int .i64 3)))
(AE (AC 141) (Bx (AB 7))
(AE (AC 142) (AD 1 (AB 141))
(cDo (AM 1 (AB 142) (kV (.bool false)))
AQ))))))
(AE (AC 144) (AD 1 (AB 4))
(AE (AC 145) (AH (AB 144))
(AE (AC 146) (AS iEq .u8 (AB 145) (kV (.int .u8 4)))
(cG (AB 146) true (AC 148) (AD 3 (AB 5))
(cG (AB 146) true (AC 149) (AH (AB 148))
(cG (AB 146) true (AC 150) (AS iEq .i64 (AB 149) (kV (.int .i64 12)))
(AE (AC 151) (AW (AB 146) (AB 150) (kV (.bool false)))
(cG (AB 151) true (AC 153) (AF (AB 7))
(cG (AB 151) true (AC 154) (Bx (AB 153))
(cG (AB 151) true (AC 155) (AD 0 (AB 154))
(cG (AB 151) true (AC 156) (AH (AB 155))
(cG (AB 151) true (AC 157) (AS iEq .i64 (AB 156) (kV (.int .i64 1)))
(AE (AC 158) (AW (AB 151) (AB 157) (kV (.bool false)))
(AE (AC 143) (AF (AB 158))
(As (AO (AB 143)
AQ
(AE (AC 159) (AD 1 (AB 4))
(AE (AC 160) (AH (AB 159))
(AE (AC 161) (AS iEq .u8 (AB 160) (kV (.int .u8 1)))
(cG (AB 161) true (AC 163) (AF (AB 9))
(AE (AC 164) (AW (AB 161) (AB 163) (kV (.bool false)))
(AE (AC 143) (AF (AB 164))
AQ)))))))
(AO (AB 143)
(AE (AC 167) (Bx (AB 7))
(AE (AC 168) (AD 0 (AB 167))
(cDo (AM 1 (AB 168) (kV (.int .i64 4)))
(AE (AC 169) (Bx (AB 7))
(AE (AC 170) (AD 1 (AB 169))
(cDo (AM 1 (AB 170) (kV (.bool false)))
AQ))))))
(AE (AC 172) (AD 1 (AB 4))
(AE (AC 173) (AH (AB 172))
(AE (AC 174) (AS iEq .u8 (AB 173) (kV (.int .u8 1)))
(cG (AB 174) true (AC 176) (AF (AB 8))
(AE (AC 177) (AW (AB 174) (AB 176) (kV (.bool false)))
(AE (AC 171) (AF (AB 177))
(AO (AB 171)
(AE (AC 180) (Bx (AB 7))
(AE (AC 181) (AD 0 (AB 180))
(cDo (AM 1 (AB 181) (kV (.int .i64 2)))
(AE (AC 182) (Bx (AB 7))
(AE (AC 183) (AD 1 (AB 182))
(cDo (AM 1 (AB 183) (kV (.bool false)))
AQ))))))
(AE (AC 185) (AD 1 (AB 4))
(AE (AC 186) (AH (AB 185))
(AE (AC 187) (AS iEq .u8 (AB 186) (kV (.int .u8 2)))
(cG (AB 187) true (AC 189) (AF (AB 8))
(AE (AC 190) (AW (AB 187) (AB 189) (kV (.bool false)))
(AE (AC 184) (AF (AB 190))
(AO (AB 184)
(AE (AC 192) (Bx (AB 7))
(AE (AC 193) (AD 1 (AB 192))
(cDo (AM 1 (AB 193) (kV (.bool true)))
AQ)))
(AE (AC 195) (AD 1 (AB 4))
(AE (AC 196) (AH (AB 195))
(AE (AC 197) (AS iEq .u8 (AB 196) (kV (.int .u8 2)))
(cG (AB 197) true (AC 199) (AF (AB 9))
(AE (AC 200) (AW (AB 197) (AB 199) (kV (.bool false)))
(AE (AC 194) (AF (AB 200))
(AO (AB 194)
(AE (AC 202) (A8 FA.zero [])
(AE (AC 203) (Bx (AB 7))
(cDo (AM 3 (AB 203) (AB 202))
AQ)))
AQ))))))))))))))))))))))))))))))))))))))))))))))))))))))))))))))))))))))))))))))))))))))))))))))))))))))))))))))))
def tdF : C := (AE (AC 204) (AL 7 (AB 3))
(cDo (AM 7 (AB 6) (AB 204))
Ak))
def SO : C := (AE (AC 3) (Bd (AB 0))
(AE (AC 4) (Bd (AB 1))
(AE (AC 5) (Bd (AB 2))
(AE (AC 6) (Au 7 DB)
(AE (AC 10) (AD 4 (AB 3))
(AE (AC 11) (AH (AB 10))
(AE (AC 12) (AD 0 (AB 4))
(AE (AC 13) (AH (AB 12))
(AE (AC 14) (A2 3 (AB 11) (AB 13))
(AE (AC 7) (AF (AB 14))
(BH (AE (AC 15) (AD 3 (AB 5))
(AE (AC 16) (AH (AB 15))
(AE (AC 17) (AS iEq .i64 (AB 16) (kV (.int .i64 0)))
(AE (AC 18) (AD 3 (AB 5))
(AE (AC 19) (AH (AB 18))
(AE (AC 20) (AS iEq .i64 (AB 19) (kV (.int .i64 60)))
(AE (AC 8) (AF (AB 17))
(AE (AC 9) (AF (AB 20))
(As (Ab 0 tdC)
tdF))))))))))))))))))))
def d16 : C := SO
theorem PZ {n : Nat} {args : List Value} {h : Hp} (hl : Nat.ble (Bk args) 320 = true) : call AK (Nat.succ n) 16 args h = Bt [.cN (AB 6) 7] (d16 (call AK n) (Av e0 0 args) h) := by
  have hb : AK.get 16 = some b16 := by kernel_rfl
  rw [BN hb]
  have hd : b16 = ⟨[.cN (AB 6) 7], d16⟩ := by kernel_rfl
  rw [hd, BE hl]
theorem Pj : d16 = SO := rfl
structure TdI (g : Hp) (m : MD) (um uw us : Value) (w : Int × Int × Int) (t : TE) (ui ub : Value) (b3 b4 b5 b6 B i : Nat) (kd : Int) (e : Env) : Prop where
  l31 : load1 ⟨b3, 1, none⟩ g = .ok (.int .i64 m.ver) g
  l37 : loadN 7 ⟨b3, 0, none⟩ g = .ok (mendV m um uw us) g
  l40 : load1 ⟨b4, 0, none⟩ g = .ok (.int .i64 w.1) g
  l41 : load1 ⟨b4, 1, none⟩ g = .ok (.int .u8 w.2.1) g
  l42 : load1 ⟨b4, 2, none⟩ g = .ok (.int .i64 w.2.2) g
  l53 : load1 ⟨b5, 3, none⟩ g = .ok (.int .i64 t.err) g
  l54 : load1 ⟨b5, 4, none⟩ g = .ok ui g
  l55 : load1 ⟨b5, 5, none⟩ g = .ok ub g
  lk : load1 ⟨B, i * 3, none⟩ g = .ok (.int .i64 kd) g
  s3 : AB 3 e = pt b3
  s4 : AB 4 e = pt b4
  s5 : AB 5 e = pt b5
  s6 : AB 6 e = pt b6
  s7 : AB 7 e = .pointer (some ⟨B, i * 3, none⟩)
end
end Go.Proofs.Ythcfmklkbakkpaa
