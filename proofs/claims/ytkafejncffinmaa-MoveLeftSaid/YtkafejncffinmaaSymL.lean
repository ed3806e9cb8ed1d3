/-
  Loops, appends, bytes, for runs whose values are open.
-/
import Derived.Test.YtkafejncffinmaaSymH
set_option linter.unusedVariables false
set_option linter.unusedSimpArgs false
namespace Go.Proofs.Ytkafejncffinmaa
open Go

section
variable {F : CallF} {e : Env} {h h' : Hp} {x y : O}

/-! ### loops -/
def ended : X → Bool
  | .norm _ _ => false
  | .no => false
  | _ => true
theorem iter_run {body : C} {I : Nat → Env → Hp → Prop} {Q : X → Prop} (N : Nat)
    (step : ∀ i e h, I i e h → (i < N ∧ ∃ e' h', body F e h = .norm e' h' ∧ I (i + 1) e' h') ∨ (ended (body F e h) = true ∧ Q (body F e h))) :
    ∀ n i e h, N - i < n → I i e h → Q (iter body n F e h)
  | 0, i, e, h, hn, _ => absurd hn (Nat.not_lt_zero _)
  | n + 1, i, e, h, hn, hi => by
    unfold iter
    rcases step i e h hi with ⟨h1, e', h', h2, h3⟩ | ⟨h1, h2⟩
    · rw [h2]
      exact iter_run N step n (i + 1) e' h' (by omega) h3
    · cases hb : body F e h with
      | norm e' h' => rw [hb] at h1; cases h1
      | no => rw [hb] at h1; cases h1
      | exit i e' h' => rw [hb] at h2; exact h2
      | ret e' h' => rw [hb] at h2; exact h2
theorem loop_run {body : C} (I : Nat → Env → Hp → Prop) (Q : X → Prop) (N : Nat) (hN : N < 1000000)
    (step : ∀ i e h, I i e h → (i < N ∧ ∃ e' h', body F e h = .norm e' h' ∧ I (i + 1) e' h') ∨ (ended (body F e h) = true ∧ Q (body F e h))) (h0 : I 0 e h) : Q (cLoop body F e h) :=
  iter_run N step rounds 0 e h (by show N - 0 < 1000000; omega) h0

/-! ### integers -/
theorem wrap_nat {n : Nat} (h : n ≤ 9223372036854775807) : IntKind.i64.wrap (n : Int) = n := wrap_i64 h
theorem wrap_int {n : Int} (h0 : 0 ≤ n) (h : n ≤ 9223372036854775807) : IntKind.i64.wrap n = n := by
  obtain ⟨m, rfl⟩ := Int.eq_ofNat_of_zero_le h0
  exact wrap_i64 (by omega)
theorem wrap_u64 {n : Nat} (h : n ≤ 18446744073709551615) : IntKind.u64.wrap (n : Int) = n := wrap_small .u64 n h
theorem wrap_u8 (n : Nat) : IntKind.u8.wrap (n : Int) = ((n % 256 : Nat) : Int) := by
  have : IntKind.u8.wrap (n : Int) = (n : Int) % 256 := rfl
  rw [this]; omega

/-! ### bytes -/
def bv (n : Nat) : Value := .int .u8 (n : Int)
theorem bytesOf_bv : ∀ l : List Nat, bytesOf (l.map bv) = some (l.map UInt8.ofNat)
  | [] => rfl
  | n :: l => by
    show (match bytesOf (l.map bv) with | some bs => forceN n fun n => some (UInt8.ofNat n :: bs) | none => none) = _
    rw [bytesOf_bv l]
    exact forceN_is _ _
theorem allOne_bv : ∀ l : List Nat, allOne (l.map bv) = true
  | [] => rfl
  | n :: l => allOne_bv l
/-- a slice of bytes: what it holds -/
def Hp.Bytes (h : Hp) (v : Value) (l : List Nat) : Prop := (v = .slice none 0 0 ∧ l = []) ∨ ∃ b off c el L, v = .slice (some ⟨b, off, none⟩) l.length c ∧ h.Row b el L ∧ off + l.length ≤ L.length ∧ (L.drop off).take l.length = l.map bv
theorem Hp.Bytes.ext {v : Value} {l : List Nat} (b : h.Bytes v l) (W : h.Wf) (x : h.Ext h') : h'.Bytes v l := by
  rcases b with ⟨h1, h2⟩ | ⟨b, off, c, el, L, h1, h2, h3, h4⟩
  · exact .inl ⟨h1, h2⟩
  · exact .inr ⟨b, off, c, el, L, h1, h2.ext W x, h3, h4⟩
theorem Hp.Bytes.src {v : Value} {l : List Nat} (b : h.Bytes v l) {n : Nat} (hn : n = l.length) (k : List Value → R) : srcCells h 1 v n k = k (l.map bv) := by
  subst hn
  rcases b with ⟨h1, h2⟩ | ⟨b, off, c, el, L, h1, h2, h3, h4⟩
  · rw [h1, h2]; rfl
  · rw [h1, h2.src h3, h4]
theorem Hp.Bytes.shape {v : Value} {l : List Nat} (b : h.Bytes v l) : ∃ a c, v = .slice a l.length c := by
  rcases b with ⟨h1, h2⟩ | ⟨b, off, c, el, L, h1, h2, h3, h4⟩
  · exact ⟨none, 0, by rw [h1, h2]; rfl⟩
  · exact ⟨_, _, h1⟩
noncomputable def strR (v : Value) (h : Hp) : R := match v with
  | .slice a n c => srcCells h 1 (.slice a n c) n fun cs => match bytesOf cs with
    | some bs => .ok (.string ⟨⟨bs⟩⟩) h
    | none => .no
  | _ => .no
theorem oToStr_is : oToStr x F e h = strR (x e) h := rfl
theorem Hp.Bytes.str {v : Value} {l : List Nat} (b : h.Bytes v l) : strR v h = .ok (.string ⟨⟨l.map UInt8.ofNat⟩⟩) h := by
  obtain ⟨a, c, rfl⟩ := b.shape
  show srcCells h 1 (.slice a l.length c) l.length (fun cs => match bytesOf cs with
    | some bs => .ok (.string ⟨⟨bs⟩⟩) h
    | none => .no) = _
  rw [b.src rfl, bytesOf_bv]
noncomputable def eqSR (f : List UInt8 → List UInt8 → Bool) (a b : Value) (h : Hp) : R := strF f a b h
theorem oStr_is {f : List UInt8 → List UInt8 → Bool} : oStr f x y F e h = eqSR f (x e) (y e) h := rfl
theorem eqSR_is {f : List UInt8 → List UInt8 → Bool} {a b : List UInt8} : eqSR f (.string ⟨⟨a⟩⟩) (.string ⟨⟨b⟩⟩) h = .ok (.bool (f a b)) h := okB_is
theorem Hp.Bytes.len {v : Value} {l : List Nat} (b : h.Bytes v l) : lenSR v h = .ok (.int .i64 (l.length : Int)) h := by
  obtain ⟨a, c, rfl⟩ := b.shape; rfl
/-- one of its bytes -/
theorem Hp.Bytes.at {v : Value} {l : List Nat} (b : h.Bytes v l) {i : Nat} (hi : i < l.length) : ∃ a, idxSR 1 v (.int .i64 (i : Int)) h = .ok (.pointer (some a)) h ∧ loadR (.pointer (some a)) h = .ok (bv (l.getD i 0)) h := by
  rcases b with ⟨h1, h2⟩ | ⟨b, off, c, el, L, h1, h2, h3, h4⟩
  · rw [h2] at hi; cases hi
  · refine ⟨⟨b, off + i * 1, none⟩, by rw [h1]; exact idxSR_is hi, ?_⟩
    rw [loadR_is, h2.load1 (by omega)]
    have := congrArg (fun m => m[i]?) h4
    simp only [List.getElem?_take, List.getElem?_drop, if_pos hi, List.getElem?_map] at this
    rw [List.getD_eq_getElem?_getD, Nat.mul_one, this, List.getD_eq_getElem?_getD, List.getElem?_eq_getElem hi]; rfl

/-! ### appends of cells, one to an element -/
theorem src_len {v : Value} {l : List Nat} (b : h.Bytes v l) : lenV v = .ok l.length := by
  obtain ⟨a, c, rfl⟩ := b.shape; rfl
/-- a whole row that is not shared grows -/
theorem append_grow {eb en b c : Nat} {l : List Value} {v : Value} {m : List Nat} (W : h.Wf) (r : h.Row b 0 l) (hx : h.Bytes v m) (hc : c < l.length + m.length) (hm : (l.length + m.length + 1) * (eb + 1) ≤ 1099511627776) :
    ∃ h', appendF 1 eb en (.slice (some ⟨b, 0, none⟩) l.length c) v h = .ok (.slice (some ⟨h.next, 0, none⟩) (l.length + m.length) (l.length + m.length)) h' ∧ h.Ext h' ∧ h'.Row h.next (en + 1) (l ++ m.map bv) ∧ h'.next = h.next + 1 := by
  obtain ⟨cc, hcc, hl⟩ := r.rowOf
  obtain ⟨t, h2, h3⟩ := setAll_is (m.map bv) cc l l.length hl (.inr rfl)
  have h3 : t.Is (l ++ m.map bv) := by
    have e : l.drop (l.length + (m.map bv).length) = [] := List.drop_of_length_le (by omega)
    rw [e] at h3
    simpa using h3
  have hlen : (l ++ m.map bv).length = l.length + m.length := by simp
  refine ⟨h.push (.cells t (l.length + m.length) (en + 1)), ?_, (Hp.Ext.refl W).push _, ⟨t, by rw [W.push_get, if_pos rfl, hlen], h3⟩, rfl⟩
  unfold appendF
  simp only [src_len hx, hx.src rfl, forceN_is, Nat.add_eq]
  have e1 : Nat.ble (l.length + m.length) c = false := by
    cases e : Nat.ble (l.length + m.length) c
    · rfl
    · have := nat_ble.1 e; omega
  have e2 : Nat.ble (Nat.mul (Nat.succ (l.length + m.length)) (Nat.succ eb)) most = true := nat_ble.2 hm
  rw [e1]
  simp only [e2, cond_true, allOne_bv]
  unfold growA
  have e3 : Nat.beq l.length (Nat.mul l.length 1) = true := nat_beq.2 (Nat.mul_one _).symm
  simp only [hcc, e3, h2]
  unfold growT
  simp only [hcc, lenL_is, List.length_map, Nat.add_eq]
  unfold newRowT
  rw [forceN_is, newBlk_is W]; rfl
/-- nothing is appended, and there is room -/
theorem append_none {eb en b n c el : Nat} {l : List Value} {v : Value} (W : h.Wf) (h256 : 256 ≤ b) (r : h.Row b el l) (hx : h.Bytes v []) (hc : n ≤ c) (hn : n ≤ l.length) :
    appendF 1 eb en (.slice (some ⟨b, 0, none⟩) n c) v h = .ok (.slice (some ⟨b, 0, none⟩) n c) (h.wr b n []) := by
  unfold appendF
  simp only [src_len hx, hx.src rfl, forceN_is, Nat.add_eq]
  have e1 : Nat.ble n c = true := nat_ble.2 hc
  have e0 : n + ([] : List Nat).length = n := rfl
  simp only [e0, e1, List.map_nil]
  have e2 : addOff ⟨b, 0, none⟩ (Nat.mul n 1) = ⟨b, n, none⟩ := by
    rw [show Nat.mul n 1 = n from Nat.mul_one n]
    cases n with
    | zero => rfl
    | succ n => show (⟨b, Nat.add 0 (Nat.succ n), none⟩ : Addr) = _; rw [Nat.add_eq, Nat.zero_add]
  rw [e2, r.store W h256 (by simpa using hn) rfl]
/-- a whole row of its kind grows, and is given up -/
theorem append_grow1 {h0 : Hp} {eb en b : Nat} {l : List Value} {v : Value} {m : List Nat} (W : h.Wf) (h256 : 256 ≤ b) (r : h.Row b (en + 1) l) (x0 : h0.Ext h) (hb : h0.next ≤ b) (hx : h.Bytes v m) (hc : 0 < m.length) (hm : (l.length + m.length + 1) * (eb + 1) ≤ 1099511627776) :
    ∃ h', appendF 1 eb en (.slice (some ⟨b, 0, none⟩) l.length l.length) v h = .ok (.slice (some ⟨h.next, 0, none⟩) (l.length + m.length) (l.length + m.length)) h' ∧ h0.Ext h' ∧ h'.Row h.next (en + 1) (l ++ m.map bv) ∧ h'.next = h.next + 1 ∧
      ∀ b' el' l', b' ≠ b → h.Row b' el' l' → h'.Row b' el' l' := by
  obtain ⟨cc, hcc, hl⟩ := r.rowOf
  obtain ⟨t, h2, h3⟩ := setAll_is (m.map bv) cc l l.length hl (.inr rfl)
  have h3 : t.Is (l ++ m.map bv) := by
    have e : l.drop (l.length + (m.map bv).length) = [] := List.drop_of_length_le (by omega)
    rw [e] at h3
    simpa using h3
  have hlen : (l ++ m.map bv).length = l.length + m.length := by simp
  have hlt := r.lt W
  have W1 : (h.put b .dead).Wf := W.put hlt _
  have x1 : h0.Ext (h.put b .dead) := x0.put hb hlt _
  refine ⟨(h.put b .dead).push (.cells t (l.length + m.length) (en + 1)), ?_, x1.push _, ⟨t, by
    have := W1.push_get (.cells t (l.length + m.length) (en + 1)) h.next
    rw [this, if_pos (show h.next = (h.put b .dead).next from rfl), hlen], h3⟩, rfl, fun b' el' l' hne ⟨c', hc', hl'⟩ => ⟨c', by
    have hb' : b' < h.next := Hp.Row.lt W ⟨c', hc', hl'⟩
    rw [W1.push_get, if_neg (by show b' ≠ h.next; omega), W.put_get hlt, if_neg hne, hc'], hl'⟩⟩
  unfold appendF
  simp only [src_len hx, hx.src rfl, forceN_is, Nat.add_eq]
  have e1 : Nat.ble (l.length + m.length) l.length = false := by
    cases e : Nat.ble (l.length + m.length) l.length
    · rfl
    · have := nat_ble.1 e; omega
  have e2 : Nat.ble (Nat.mul (Nat.succ (l.length + m.length)) (Nat.succ eb)) most = true := nat_ble.2 hm
  rw [e1]
  simp only [e2, cond_true, allOne_bv]
  unfold growA
  have e3 : Nat.beq l.length (Nat.mul l.length 1) = true := nat_beq.2 (Nat.mul_one _).symm
  simp only [hcc, e3, h2]
  unfold growT
  have e4 : atEnd 0 l.length 1 l.length = true := by
    unfold atEnd
    cases l.length with
    | zero => rfl
    | succ n => exact nat_beq.2 (by show 0 + (n + 1) * 1 = n + 1; omega)
  simp only [hcc, lenL_is, List.length_map, Nat.add_eq, Nat.beq_refl, cond_true, e4]
  rw [putBlk_is W h256 hlt]
  unfold newRowT
  rw [forceN_is, newBlk_is W1]; rfl
noncomputable def appR (es eb en : Nat) (s v : Value) (h : Hp) : R := appendF es eb en s v h
theorem oAppend_is {es eb en : Nat} : oAppend es eb en x y F e h = appR es eb en (x e) (y e) h := rfl
theorem fillL_nil {cs : List Value} {k : List Value → R} : fillL cs e k [] = k cs := forceL_is _ _
theorem fillL_cons {cs : List Value} {k : List Value → R} {off size : Nat} {rest : List (Nat × Nat × O)} (hk : known (x e) = true := by rfl) : fillL cs e k ((off, size, x) :: rest) = (if (cellsOf (x e)).length = size then (if off + size ≤ cs.length then fillL (over cs off (cellsOf (x e))) e k rest else .no) else .no) := by
  have e0 : fillL cs e k ((off, size, x) :: rest) = (bif known (x e) then (bif Nat.beq (lenL (cellsOf (x e))) size then (bif Nat.ble (Nat.add off size) (lenL cs) then fillL (lay cs off (cellsOf (x e))) e k rest else .no) else .no) else .no) := forceV_is _ _
  have e1 : fillL cs e k ((off, size, x) :: rest) = (bif Nat.beq (lenL (cellsOf (x e))) size then (bif Nat.ble (Nat.add off size) (lenL cs) then fillL (lay cs off (cellsOf (x e))) e k rest else .no) else .no) := by rw [e0, hk]; rfl
  rw [e1, lenL_is, lenL_is, lay_is]
  by_cases h1 : (cellsOf (x e)).length = size
  · rw [if_pos h1, nat_beq.2 h1]
    by_cases h2 : off + size ≤ cs.length
    · rw [if_pos h2, show Nat.ble (Nat.add off size) cs.length = true from nat_ble.2 h2]; rfl
    · rw [if_neg h2]
      have : Nat.ble (Nat.add off size) cs.length = false := by
        cases e : Nat.ble (Nat.add off size) cs.length
        · rfl
        · exact absurd (nat_ble.1 e) h2
      rw [this]; rfl
  · rw [if_neg h1]
    have : Nat.beq (cellsOf (x e)).length size = false := by
      cases e : Nat.beq (cellsOf (x e)).length size
      · rfl
      · exact absurd (nat_beq.1 e) h1
    rw [this]; rfl
theorem cells_int {k : IntKind} {n : Int} : cellsOf (.int k n) = [.int k n] := rfl
theorem cells_agg {l : List Value} : cellsOf (.agg ⟨l⟩) = l := rfl
theorem cells_bv {n : Nat} : cellsOf (bv n) = [bv n] := rfl
theorem over_0 {l vs : List Value} (hl : l.length = vs.length) : over l 0 vs = vs := by
  unfold over
  rw [List.take_zero, List.nil_append, List.drop_of_length_le (by omega), List.append_nil]
theorem oBuild_is {zero : List Value} {ps : List (Nat × Nat × O)} : oBuild zero ps F e h = fillL zero e (fun cs => .ok (.agg ⟨cs⟩) h) ps := rfl
theorem oBuildSlice_is {n : Nat} {zero : List Value} {ps : List (Nat × Nat × O)} : oBuildSlice n zero ps F e h = fillL zero e (fun cs => newRow h 0 cs (slcNew n n)) ps := rfl

/-! ### regions whose order is open -/
def Hp.marked (h : Hp) : Hp := { next := h.next, low := h.low, high := h.high, mark := h.next, bl := h.bl }
def Hp.quiet (h : Hp) : Hp := { next := h.next, low := h.next, high := 0, mark := h.mark, bl := h.bl }
noncomputable def Hp.back (h h' : Hp) : Hp := { next := h'.next, low := minN h.low h'.low, high := maxN h.high h'.high, mark := h.mark, bl := h'.bl }
theorem marked_is {k : C} : cMark k F e h = k F e h.marked := rfl
theorem Hp.Wf.marked (W : h.Wf) : h.marked.Wf := ⟨W.big, W.has, W.fresh⟩
theorem Hp.Wf.quiet (W : h.Wf) : h.quiet.Wf := ⟨W.big, W.has, W.fresh⟩
theorem Hp.Ext.marked {h0 : Hp} (x : h0.Ext h) : h0.Ext h.marked := ⟨x.next, x.get, x.low, x.wf.marked⟩
theorem Hp.Row.same {b el : Nat} {l : List Value} (r : h.Row b el l) (hb : h'.bl = h.bl) : h'.Row b el l := by
  obtain ⟨c, hc, hl⟩ := r
  exact ⟨c, by rw [hb]; exact hc, hl⟩
theorem Hp.Ext.back (x : h.quiet.Ext h') : h.Ext (h.back h') where
  next := x.next
  get := x.get
  low := by
    show _ ≤ minN h.low h'.low
    rw [minN_is]
    have h1 : min h.next h.next ≤ h'.low := x.low
    omega
  wf := ⟨x.wf.big, x.wf.has, x.wf.fresh⟩
theorem quiet_is {f : OpF} {m : Qm} {v : Value} (hf : f F e h.quiet = .ok v h') (x : h.quiet.Ext h') (hm : h.mark ≤ h.next) : oQuiet m f F e h = .ok v (h.back h') := by
  have h1 : min h.next h.next ≤ h'.low := x.low
  have hq : qOk m h h'.low = true := by
    cases m with
    | strong => exact nat_ble.2 (by omega)
    | weak => exact nat_ble.2 (by omega)
    | free => rfl
  show (match f F e h.quiet with | .ok v h' => bif qOk m h h'.low then backF h v h' else .no | .no => .no) = _
  rw [hf]
  simp only [hq, cond_true]
  unfold backF
  simp only [forceN_is]; rfl
theorem quiet_free {f : OpF} {v : Value} (hf : f F e h.quiet = .ok v h') : oQuiet .free f F e h = .ok v (h.back h') := by
  show (match f F e h.quiet with | .ok v h' => bif qOk .free h h'.low then backF h v h' else .no | .no => .no) = _
  rw [hf]
  show backF h v h' = _
  unfold backF
  simp only [forceN_is]; rfl
noncomputable def oldX (v : Value) (k : C) (F : CallF) (e : Env) (h : Hp) : X := match blkOf v with
  | .ok b => bif Nat.blt b h.mark then k F e h else .no
  | .no => k F e h
theorem cOld_is {k : C} : cOld x k F e h = oldX (x e) k F e h := rfl
theorem oldX_ptr {b off : Nat} {k : C} (hb : b < h.mark) : oldX (.pointer (some ⟨b, off, none⟩)) k F e h = k F e h := by
  show (bif Nat.blt b h.mark then k F e h else .no) = _
  rw [nat_blt.2 hb]; rfl
theorem cChk_nil {k : C} : cChk x [] k F e h = k F e h := by
  unfold cChk
  cases blkOf (x e) <;> rfl
theorem Hp.Ext.quiet {h0 : Hp} (x : h0.Ext h) : h0.Ext h.quiet := ⟨x.next, x.get, by show _ ≤ h.next; have := x.next; omega, x.wf.quiet⟩
theorem Hp.Ext.back2 {h0 : Hp} (x : h0.Ext h) (y : h0.Ext h') : h0.Ext (h.back h') where
  next := y.next
  get := y.get
  low := by
    show _ ≤ minN h.low h'.low
    rw [minN_is]
    have := x.low
    have := y.low
    omega
  wf := ⟨y.wf.big, y.wf.has, y.wf.fresh⟩
end
end Go.Proofs.Ytkafejncffinmaa
