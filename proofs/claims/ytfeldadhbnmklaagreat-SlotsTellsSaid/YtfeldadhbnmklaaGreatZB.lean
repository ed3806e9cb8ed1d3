/-
  The operations, one by one: what the machine says is what the model does.
  Operations on numbers, truths, strings.
  Operations on bits and strings.
  Operations on memory: addresses, loads, stores, new rows, parts of structs and arrays.
  Slices: cut, made, built, measured, copied.
  Rows made of zeros and of parts.
  Structs and slices that are built, made, converted, copied.
  Cells copied, strings and bytes, what is least and most.
  append.
  append: as the model says it.
  Bytes and strings; lengths; what is cleared.
  Plain data held against plain data: equality of structs and arrays, keys of maps.
  Two values held against each other: what is no number and no string.
  One operation: what the machine says is what the model does.
  Calls; lengths; what is cleared.
-/
import Derived.Test.YtfeldadhbnmklaaGreatZA
import Derived.Laws.Entries
import GoSem.Dispatch
import Derived.WideShapes
import Derived.Sort.Walk0
import Derived.Laws.BytesString
import Derived.DeepKeys3
namespace Go.Proofs.YtfeldadhbnmklaaGreat
noncomputable section
open Go
def A8 (ty : TTy) (φ : Phi) (E : Nat → Prop) (h : Hp) (w : World) (v : Value) (h' : Hp) (r : Result Value) : Prop :=
  ∃ v' w' φ', r = .ok v' w' ∧ RelV φ' v v' ∧ RelW ty φ' E h' w' ∧ Evo φ h w φ' h' w'
section
variable {P : Program} {ty : TTy} {φ : Phi} {E : Nat → Prop} {h h' : Hp} {w : World} {F : CallF} {e : Env} {v : Value}
theorem A8.same (H : RelW ty φ E h w) {v v' : Value} (hv : RelV φ v v') : A8 ty φ E h w v h (.ok v' w) := ⟨v', w, φ, rfl, hv, H, .refl _ _ _⟩
theorem TyOk.size {t : Nat} {ti : TI} (T : TyOk P t ti) (w : World) : (sizeOf t).run P w = .ok ti.size w := by
  obtain ⟨i, hi, hs, _⟩ := T.info
  rw [run_sizeOf w hi]; simp [Program.cellsOf, hi, hs]
theorem TyOk.cells {t : Nat} {ti : TI} (T : TyOk P t ti) : P.cellsOf t = ti.size := by
  obtain ⟨i, hi, hs, _⟩ := T.info
  simp [Program.cellsOf, hi, hs]
theorem TyOk.desc {t : Nat} {ti : TI} (T : TyOk P t ti) : ∃ d, (∀ w, (underlying t).run P w = .ok d w) ∧ KOk P ti.k d := by
  obtain ⟨d, hd, hk⟩ := T.und
  exact ⟨d, run_underlying hd, hk⟩
theorem TyOk.zeroOk {t : Nat} {ti : TI} (T : TyOk P t ti) (hz : ti.zero.length = ti.size) :
    ∃ z, zeroV ti = some z ∧ (∀ w, (zeroValue t).run P w = .ok z w) ∧ z.cells.toList = ti.zero ∧ ti.zero.all plainV = true := by
  obtain ⟨i, hi, hs, _, hzz⟩ := T.info
  rcases hzz with ⟨h0, h1⟩ | ⟨z, hz1, hz2, hz3, _⟩
  · rw [h0] at hz; simp at hz; omega
  · refine ⟨z, hz1, fun w => ?_, ?_, hz3⟩
    · simp [zeroValue, run_typeInfo (w := w) hi, hz2]
    · unfold zeroV at hz1
      split at hz1
      · cases hz1; rfl
      · split at hz1
        · rename_i u hu
          cases hz1
          rw [hu] at hz3
          simp only [List.all_cons, List.all_nil, Bool.and_true] at hz3
          rw [hu]
          cases z <;> first | rfl | (simp [plainV] at hz3)
        · cases hz1
theorem TyOk.agg {t : Nat} {ti : TI} (T : TyOk P t ti) (w : World) : (isAgg t).run P w = .ok ti.k.agg w := by
  obtain ⟨d, hd, hk⟩ := T.desc
  unfold isAgg
  simp only [Sem.run_bind, hd, Result.andThen_ok]
  generalize ti.k = kk at hk
  cases hk <;> first | rfl | skip
  rename_i ho
  cases d <;> first | rfl | cases ho
theorem Hd {v v' : Value} (h : RelV φ v v') (hk : known v = true) : RelL φ (cellsOf v) v'.cells.toList := by
  cases h with
  | unk => cases hk
  | slcE => cases hk
  | agg h => exact h
  | bool b => exact .cons (.bool b) .nil
  | int k n => exact .cons (.int k n) .nil
  | string s => exact .cons (.string s) .nil
  | ptr0 => exact .cons .ptr0 .nil
  | ptr h => exact .cons (.ptr h) .nil
  | slice0 => exact .cons .slice0 .nil
  | slice hn h => exact .cons (.slice hn h) .nil
  | map0 => exact .cons .map0 .nil
  | map h => exact .cons (.map h) .nil
  | func fn h h2 => exact .cons (.func fn h h2) .nil
  | nilFunc => exact .cons .nilFunc .nil
  | iface t h => exact .cons (.iface t h) .nil
  | nilIface => exact .cons .nilIface .nil
  | tuple h => exact .cons (.tuple h) .nil
theorem Mv {v v' : Value} (h : RelV φ v v') (h1 : Dr v = true) : v'.oneCell' = true := by
  cases h <;> first | rfl | cases h1
theorem GO : ∀ {l l' : List Value}, RelL φ l l' → B6 l = true → ∀ v ∈ l', v.oneCell' = true
  | _, _, .nil, _, v, hm => by cases hm
  | _, _, .cons (v := u) h t, h1, v, hm => by
    unfold B6 at h1
    cases hu : Dr u with
    | false => rw [hu] at h1; cases h1
    | true =>
      rw [hu] at h1
      cases hm with
      | head => exact Mv h hu
      | tail _ hm => exact GO t h1 v hm
theorem Dx {b : Nat} {o : Blk} {k : Hp → R} (hr : DI h b o k = .ok v h') :
    ∃ bl, 256 ≤ b ∧ h.bl.set b o = some bl ∧ k { next := h.next, low := Bh h.low b, high := CS h.high b, mark := h.mark, bl := bl } = .ok v h' := by
  unfold DI at hr
  cases hb : Nat.ble 256 b with
  | false => rw [hb] at hr; cases hr
  | true =>
    rw [hb, cond_true] at hr
    split at hr
    · rename_i bl hs
      rw [Ao, Ao] at hr
      exact ⟨bl, Ap.1 hb, hs, hr⟩
    · cases hr
theorem F2 {o : Blk} {k : Nat → Hp → R} (hr : Ei h o k = .ok v h') :
    ∃ bl, h.bl.set h.next o = some bl ∧ k h.next { next := Nat.succ h.next, low := h.low, high := h.high, mark := h.mark, bl := bl } = .ok v h' := by
  unfold Ei at hr
  split at hr
  · rename_i bl hs
    rw [Ao] at hr
    exact ⟨bl, hs, hr⟩
  · cases hr
theorem BM {c : Bool} {x : R} (hr : (bif c then x else .no) = .ok v h') : c = true ∧ x = .ok v h' := by
  cases c
  · cases hr
  · exact ⟨rfl, hr⟩
theorem GB (H : RelW ty φ E h w) {a a' : Addr} {vs vs' : List Value} {k : Hp → R} (hr : Ci a vs h k = .ok v h') (ha : RelA φ a a') (hv : RelL φ vs vs') (hE : ¬ E a.block) :
    ∃ h1 w1, k h1 = .ok v h' ∧ (storeCells a' vs').run P w = .ok () w1 ∧ RelW ty φ E h1 w1 ∧ Evo φ h w φ h1 w1 := by
  obtain ⟨p, hp, rfl⟩ := ha.eq
  unfold Ci at hr
  split at hr
  case h_2 => cases hr
  rename_i c s e hrow
  obtain ⟨cs, t, fr, hw, R⟩ := H.rowAt hp hE hrow
  obtain ⟨hle, hr⟩ := BM hr
  obtain ⟨hone, hr⟩ := BM hr
  split at hr
  case h_2 => cases hr
  rename_i c' hset
  obtain ⟨bl, h256, hbl, hk⟩ := Dx hr
  have hle' : a.off + vs.length ≤ s := by
    have := Ap.1 hle; rw [BD] at this; exact this
  have hlen := hv.length
  have hsz := R.sz
  have hroom := R.room
  have hfits := R.fits
  obtain ⟨cs', e1, e2, e3, e4, e5, e6, e7, e8⟩ := Em p.blk t fr vs' (p.off + a.off) cs w hw (by omega)
  have hrun : (storeCells ⟨p.blk, p.off + a.off, none⟩ vs').run P w = .ok () (w.setCells p.blk (p.off + a.off) vs') := by
    refine run_storeCells_cells (P := P) p.blk (p.off + a.off) vs' 0 w (fun j hj => ?_) (fun j hj => ?_) (GO hv hone)
    · rw [Gp hw]; simp; omega
    · exact R.free hw (by omega) (by omega)
  have hl : Live h a.block := by
    unfold Live; rw [Cf hrow]; intro hd; cases hd
  have hB : RelB ty φ p (.cells c' s e) ((w.setCells p.blk (p.off + a.off) vs').heap[p.blk]?) := by
    rw [e1]
    refine .cells { kind := R.kind, room := R.room, fits := by rw [e2]; exact R.fits, loose := by rw [e2]; exact R.loose, cell := fun j hj => ?_ }
    rw [FM vs c a.off c' hset j, e3]
    by_cases hin : a.off ≤ j ∧ j < a.off + vs.length
    · rw [if_pos hin, if_pos (by omega)]
      have hj' : p.off + j - (p.off + a.off) = j - a.off := by omega
      rw [hj']
      obtain ⟨v', hv1, hv2⟩ := hv.get (j - a.off) (vs[j - a.off]'(by omega)) (List.getElem?_eq_getElem (by omega))
      refine ⟨v', hv1, ?_⟩
      have : vs.getD (j - a.off) undef = vs[j - a.off]'(by omega) := by
        rw [List.getD_eq_getElem?_getD, List.getElem?_eq_getElem (by omega)]; rfl
      rw [this]; exact hv2
    · rw [if_neg hin, if_neg (by omega)]
      exact R.cell j hj
  exact ⟨_, _, hk, hrun, H.put hE h256 hp hl hbl e4 e5 hB, .put (H.notInp hp h256) hp hl hbl (by rw [Cf hrow]; exact .inr ⟨rfl, rfl⟩) e4 e5 e6 e7 e8⟩
theorem JM (H : RelW ty φ E h w) {en : Nat} {cs : List Value} {c : VT} {n : Nat} {k : Nat → Hp → R} (hr : CJ h en c n k = .ok v h') (hc : ∀ j, j < cs.length → c.get j = cs.getD j undef) (hn : n = cs.length)
    {cs' : Array Value} {t : TypeId} {fr : Nat × Nat} {p : Pl}
    (hp : p = { blk := w.heap.size, off := 0, sz := cs.length, room := cs'.size, es := p.es }) (hk : Kind ty p cs.length en) (hsz : cs.length ≤ cs'.size)
    (hfr : fr.1 = fr.2 ∨ cs'.size ≤ fr.1) (hrel : ∀ (j : Nat) (u : Value), cs[j]? = some u → ∃ u', cs'[j]? = some u' ∧ RelV φ u u') {w' : World} (hw' : w'.heap = w.heap.push (.cells cs' t fr))
    (ht : w'.tape = w.tape) (ho : w'.os = w.os) (hout : w'.output = w.output) :
    ∃ h1, k h.next h1 = .ok v h' ∧ RelW ty (φ.put h.next p) E h1 w' ∧ Evo φ h w (φ.put h.next p) h1 w' := by
  subst hn
  unfold CJ at hr
  rw [Ao] at hr
  obtain ⟨bl, hbl, hk'⟩ := F2 hr
  have hb : p.blk = w.heap.size := by rw [hp]
  have hs : w'.heap.size = w.heap.size + 1 := by rw [hw']; simp
  have hsame : ∀ k, k < w.heap.size → w'.heap[k]? = w.heap[k]? := fun k hk => by
    rw [hw', Array.getElem?_push_lt hk, Array.getElem?_eq_getElem hk]
  refine ⟨_, hk', H.new hbl (by omega) (by omega) (fun j q e _ => by have := (H.dom j q e).2; omega) (fun k hk _ => hsame k hk) ?_ (hin := by rw [hp]),
    .made H hbl (by omega) (by omega) hsame ht ho hout⟩
  have hpush : w'.heap[p.blk]? = some (.cells cs' t fr) := by rw [hw', hb]; simp
  rw [hpush]
  refine .cells { kind := hk, room := by rw [hp]; exact hsz, fits := by rw [hp]; simp, loose := .inl hfr, cell := fun j hj => ?_ }
  rw [hc j hj]
  obtain ⟨u', hu1, hu2⟩ := hrel j (cs[j]) (List.getElem?_eq_getElem hj)
  refine ⟨u', by rw [hp]; simpa using hu1, ?_⟩
  have : cs.getD j undef = cs[j] := by
    rw [List.getD_eq_getElem?_getD, List.getElem?_eq_getElem hj]; rfl
  rw [this]; exact hu2.mono (Phi.put_le H.none_next)
theorem Jh {cs : List Value} {c : VT} (hset : CH .mt 0 cs = some c) : ∀ j, j < cs.length → c.get j = cs.getD j undef := fun j hj => by
  rw [FM cs .mt 0 c hset j, if_pos (by omega)]; rfl
theorem KY (H : RelW ty φ E h w) {en : Nat} {cs : List Value} {k : Nat → Hp → R} (hr : newRow h en cs k = .ok v h') {cs' : Array Value} {t : TypeId} {fr : Nat × Nat} {p : Pl}
    (hp : p = { blk := w.heap.size, off := 0, sz := cs.length, room := cs'.size, es := p.es }) (hk : Kind ty p cs.length en) (hsz : cs.length ≤ cs'.size)
    (hfr : fr.1 = fr.2 ∨ cs'.size ≤ fr.1) (hrel : ∀ (j : Nat) (u : Value), cs[j]? = some u → ∃ u', cs'[j]? = some u' ∧ RelV φ u u') {w' : World} (hw' : w'.heap = w.heap.push (.cells cs' t fr))
    (ht : w'.tape = w.tape) (ho : w'.os = w.os) (hout : w'.output = w.output) :
    ∃ h1, k h.next h1 = .ok v h' ∧ RelW ty (φ.put h.next p) E h1 w' ∧ Evo φ h w (φ.put h.next p) h1 w' := by
  unfold newRow at hr
  split at hr
  case h_2 => cases hr
  rename_i c hset
  exact JM H hr (Jh hset) (BD _) hp hk hsz hfr hrel hw' ht ho hout
end
end
end Go.Proofs.YtfeldadhbnmklaaGreat
set_option linter.unusedVariables false
set_option linter.unusedSimpArgs false
namespace Go.Proofs.YtfeldadhbnmklaaGreat
noncomputable section
open Go
section
variable {P : Program} {ty : TTy} {φ : Phi} {E : Nat → Prop} {h h' : Hp} {w : World} {F : CallF} {e : Env} {v : Value}
theorem Gc {b : Bool} (hr : okB b h = .ok v h') : v = .bool b ∧ h' = h := by cases b <;> cases hr <;> exact ⟨rfl, rfl⟩
theorem Dk (k : IntKind) (n : Int) (h : Hp) : okI k n h = .ok (.int k n) h := by
  cases n with
  | ofNat m => cases m <;> rfl
  | negSucc m => show forceN m (fun m => R.ok (.int k (.negSucc m)) h) = _; rw [Ao]
theorem DY {k : IntKind} {n : Int} (hr : okI k n h = .ok v h') : v = .int k n ∧ h' = h := by
  rw [Dk] at hr; cases hr; exact ⟨rfl, rfl⟩
theorem af (a b : Nat) : iLt (.ofNat a) (.ofNat b) = Nat.blt a b := rfl
theorem ae (a b : Nat) : iLt (.ofNat a) (.negSucc b) = false := rfl
theorem ac (a b : Nat) : iLt (.negSucc a) (.ofNat b) = true := rfl
theorem aa (a b : Nat) : iLt (.negSucc a) (.negSucc b) = Nat.blt b a := rfl
theorem aZ (a b : Nat) : iEq (.ofNat a) (.ofNat b) = Nat.beq a b := rfl
theorem aY (a b : Nat) : iEq (.ofNat a) (.negSucc b) = false := rfl
theorem aX (a b : Nat) : iEq (.negSucc a) (.ofNat b) = false := rfl
theorem aW (a b : Nat) : iEq (.negSucc a) (.negSucc b) = Nat.beq a b := rfl
theorem CM (a b : Int) : iLt a b = decide (a < b) := by
  cases a <;> cases b <;> simp only [af, ae, ac, aa]
  · rename_i a b
    rw [Bool.eq_iff_iff, A3, decide_eq_true_iff]; exact Int.ofNat_lt.symm
  · simp only [Int.ofNat_eq_natCast]; symm; rw [decide_eq_false_iff_not]; omega
  · simp only [Int.ofNat_eq_natCast]; symm; rw [decide_eq_true_iff]; omega
  · rename_i a b
    rw [Bool.eq_iff_iff, A3, decide_eq_true_iff]; omega
theorem Cp (a b : Int) : iEq a b = (a == b) := by
  cases a <;> cases b <;> simp only [aZ, aY, aX, aW]
  · rename_i a b
    rw [Bool.eq_iff_iff, AZ, beq_iff_eq]; simp only [Int.ofNat_eq_natCast]; omega
  · simp only [Int.ofNat_eq_natCast]; symm; rw [beq_eq_false_iff_ne]; omega
  · simp only [Int.ofNat_eq_natCast]; symm; rw [beq_eq_false_iff_ne]; omega
  · rename_i a b
    rw [Bool.eq_iff_iff, AZ, beq_iff_eq]; omega
theorem Tv (k : IntKind) : ((AQ k : Nat) : Int) < 2 ^ k.bits ∧ (k.signed = true → ((AQ k : Nat) : Int) < 2 ^ (k.bits - 1)) := by
  cases k <;> decide
theorem Cc (k : IntKind) (m : Nat) (h : m ≤ AQ k) : k.wrap (m : Int) = m := by
  have h1 := Tv k
  unfold IntKind.wrap
  have e : ((m : Int)) % (2 ^ k.bits : Int) = m := Int.emod_eq_of_lt (by omega) (by omega)
  rw [e]
  simp only
  rw [if_neg]
  intro hh
  simp only [Bool.and_eq_true, decide_eq_true_eq] at hh
  have := h1.2 hh.1
  omega
theorem CR (k : IntKind) (n : Int) : DN k n = k.wrap n := by
  cases n with
  | ofNat m =>
    show Bool.rec (motive := fun _ => Int) (k.wrap (.ofNat m)) (.ofNat m) (Nat.ble m (AQ k)) = _
    cases hb : Nat.ble m (AQ k) with
    | false => rfl
    | true => exact (Cc k m (Ap.1 hb)).symm
  | negSucc m => rfl
theorem Dh {a b : IntKind} (h : EX a b = true) : b = a := by
  have := AZ.1 h
  cases a <;> cases b <;> first | rfl | (exact absurd this (by decide))
theorem Dp {k : IntKind} {x : Value} {n : Int} (h : B9 k x = .ok n) : x = .int k n := by
  cases x <;> first | (cases h; done) | skip
  rename_i q m
  have h : Bool.rec (motive := fun _ => NI) .no (.ok m) (EX k q) = .ok n := h
  cases hs : EX k q with
  | false => rw [hs] at h; cases h
  | true => rw [hs] at h; cases h; rw [Dh hs]
theorem V5 {k : IntKind} {x : Value} {n : Nat} (h : EL k x = .ok n) : x = .int k n := by
  cases x <;> first | (cases h; done) | skip
  rename_i q m
  have h : Bool.rec (motive := fun _ => NN) .no (Int.rec (motive := fun _ => NN) (fun m => .ok m) (fun _ => .no) m) (EX k q) = .ok n := h
  cases hs : EX k q with
  | false => rw [hs] at h; cases h
  | true =>
    rw [hs] at h
    cases m with
    | ofNat m => cases h; rw [Dh hs]; rfl
    | negSucc m => cases h
theorem PV {x : Value} {n : Int} (h : QN x = .ok n) : ∃ k, x = .int k n := by
  cases x <;> first | (cases h; done) | (cases h; exact ⟨_, rfl⟩)
theorem V6 {x : Value} {n : Nat} (h : Cy x = .ok n) : ∃ k, x = .int k n := by
  cases x <;> first | (cases h; done) | skip
  rename_i q m
  cases m with
  | ofNat m => cases h; exact ⟨_, rfl⟩
  | negSucc m => cases h
theorem Fw {x : Value} {a : Addr} (h : DD x = .ok a) : x = .pointer (some a) := by
  cases x <;> first | (cases h; done) | skip
  rename_i o
  cases o with
  | none => cases h
  | some a => cases h; rfl
theorem RelV.int_inv {k : IntKind} {n : Int} {x : Value} (h : RelV φ (.int k n) x) : x = .int k n := by cases h; rfl
theorem RelV.bool_inv {b : Bool} {x : Value} (h : RelV φ (.bool b) x) : x = .bool b := by cases h; rfl
theorem RelV.string_inv {s : ByteArray} {x : Value} (h : RelV φ (.string s) x) : x = .string s := by cases h; rfl
theorem RelV.ptr_inv {a : Addr} {x : Value} (h : RelV φ (.pointer (some a)) x) : ∃ a', x = .pointer (some a') ∧ RelA φ a a' := by
  cases h with | ptr h => exact ⟨_, rfl, h⟩
def BP (op : BinOp) (t : TypeId) (X Y : Operand) (a b : Value) : Sem Value := do eqGuard op t X Y a b; binOp op t a b
theorem Du (op : BinOp) (t : TypeId) (X Y : Operand) (j k : IntKind) (m n : Int) : (eqGuard op t X Y (.int j m) (.int k n)).run P w = .ok () w := by cases op <;> rfl
theorem KK (op : BinOp) (t : TypeId) (X Y : Operand) (m n : ByteArray) : (eqGuard op t X Y (.string m) (.string n)).run P w = .ok () w := by cases op <;> rfl
theorem Mn (H : RelW ty φ E h w) {x : O} {x' : Value} (hx : RelV φ (x e) x') (hr : AC x F e h = .ok v h') : A8 ty φ E h w v h' (.ok x' w) := by
  unfold AC at hr; rw [Df] at hr; cases hr; exact .same H hx
theorem S4 (H : RelW ty φ E h w) {c a b : O} {c' a' b' : Value} (hc : RelV φ (c e) c') (ha : RelV φ (a e) a') (hb : RelV φ (b e) b') (hr : AW c a b F e h = .ok v h') :
    A8 ty φ E h w v h' ((do pure (if ← asBool c' then a' else b') : Sem Value).run P w) := by
  unfold AW at hr
  cases hce : c e with
  | bool t =>
    rw [hce] at hr hc
    obtain rfl := hc.bool_inv
    cases t with
    | false =>
      have hr : moveR (b e) h = .ok v h' := hr
      rw [Df] at hr; cases hr; exact .same H hb
    | true =>
      have hr : moveR (a e) h = .ok v h' := hr
      rw [Df] at hr; cases hr; exact .same H ha
  | _ => rw [hce] at hr; cases hr
theorem Z2 (H : RelW ty φ E h w) {f : Int → Int → Bool} {k : IntKind} {x y : O} {x' y' : Value} (hx : RelV φ (x e) x') (hy : RelV φ (y e) y') (hr : AM f k x y F e h = .ok v h') :
    ∃ m n, x' = .int k m ∧ y' = .int k n ∧ v = .bool (f m n) ∧ h' = h := by
  unfold AM VI at hr
  cases h1 : B9 k (x e) with
  | no => rw [h1] at hr; cases hr
  | ok m =>
    cases h2 : B9 k (y e) with
    | no => rw [h1, h2] at hr; cases hr
    | ok n =>
      rw [h1, h2] at hr
      rw [Dp h1] at hx; rw [Dp h2] at hy
      obtain ⟨r1, r2⟩ := Gc hr
      exact ⟨m, n, hx.int_inv, hy.int_inv, r1, r2⟩
theorem F4 (H : RelW ty φ E h w) {f : Int → Int → Bool} {op : BinOp} (hop : (f = iEq ∧ op = .eql) ∨ (f = iNe ∧ op = .neq) ∨ (f = iLt ∧ op = .lss) ∨ (f = iLe ∧ op = .leq) ∨ (f = iGt ∧ op = .gtr) ∨ (f = iGe ∧ op = .geq))
    {k : IntKind} {x y : O} {x' y' : Value} {t : TypeId} {X Y : Operand} (hx : RelV φ (x e) x') (hy : RelV φ (y e) y') (hr : AM f k x y F e h = .ok v h') : A8 ty φ E h w v h' ((BP op t X Y x' y').run P w) := by
  obtain ⟨m, n, rfl, rfl, rfl, rfl⟩ := Z2 H hx hy hr
  have key : (BP op t X Y (.int k m) (.int k n)).run P w = .ok (.bool (f m n)) w := by
    unfold BP
    rw [Sem.run_bind, Du, Result.andThen_ok]
    rcases hop with ⟨rfl, rfl⟩ | ⟨rfl, rfl⟩ | ⟨rfl, rfl⟩ | ⟨rfl, rfl⟩ | ⟨rfl, rfl⟩ | ⟨rfl, rfl⟩ <;>
      simp only [binOp, ne_eq, not_true_eq_false, if_false, Op.intCmp, Sem.run_pure, Result.ok.injEq, Value.bool.injEq, and_true, iNe, iLe, iGt, iGe, CM, Cp]
    · rfl
    · rw [Bool.eq_iff_iff]; simp only [decide_eq_true_iff, Bool.not_eq_true', decide_eq_false_iff_not]; omega
    · rw [Bool.eq_iff_iff]; simp only [decide_eq_true_iff, Bool.not_eq_true', decide_eq_false_iff_not]; omega
  rw [key]; exact .same H (.bool _)
theorem Px {k : IntKind} {x y : O} {x' y' : Value} (hx : RelV φ (x e) x') (hy : RelV φ (y e) y') {g : Int → Int → R} {r : R}
    (hr : NI.rec (motive := fun _ => R) .no (fun a => NI.rec (motive := fun _ => R) .no (fun b => g a b) (B9 k (y e))) (B9 k (x e)) = r) (hne : r ≠ .no) :
    ∃ m n, x' = .int k m ∧ y' = .int k n ∧ g m n = r := by
  cases h1 : B9 k (x e) with
  | no => rw [h1] at hr; exact absurd hr.symm hne
  | ok m =>
    cases h2 : B9 k (y e) with
    | no => rw [h1, h2] at hr; exact absurd hr.symm hne
    | ok n =>
      rw [h1, h2] at hr
      rw [Dp h1] at hx; rw [Dp h2] at hy
      exact ⟨m, n, hx.int_inv, hy.int_inv, hr⟩
theorem Ph (H : RelW ty φ E h w) {f : Int → Int → Int} {op : BinOp} (hop : (f = Int.sub ∧ op = .sub) ∨ (f = Int.mul ∧ op = .mul))
    {k : IntKind} {x y : O} {x' y' : Value} {t : TypeId} {X Y : Operand} (hx : RelV φ (x e) x') (hy : RelV φ (y e) y') (hr : As f k x y F e h = .ok v h') : A8 ty φ E h w v h' ((BP op t X Y x' y').run P w) := by
  obtain ⟨m, n, rfl, rfl, hg⟩ := Px hx hy hr (by intro h; cases h)
  obtain ⟨rfl, rfl⟩ := DY hg
  have key : (BP op t X Y (.int k m) (.int k n)).run P w = .ok (.int k (DN k (f m n))) w := by
    unfold BP
    rw [Sem.run_bind, Du, Result.andThen_ok, CR]
    rcases hop with ⟨rfl, rfl⟩ | ⟨rfl, rfl⟩ <;>
      simp only [binOp, ne_eq, not_true_eq_false, if_false, Op.intArith, Sem.run_pure] <;> rfl
  rw [key]; exact .same H (.int _ _)
theorem add_is {k : IntKind} {a b : Int} (hr : Int.rec (motive := fun _ => R) (fun x => Int.rec (motive := fun _ => R)
      (fun y => Bool.rec (motive := fun _ => R) (okI k (k.wrap (a + b)) h) (forceN (Nat.add x y) fun n => .ok (.int k (.ofNat n)) h) (Nat.ble (Nat.add x y) (AQ k)))
      (fun _ => okI k (DN k (a + b)) h) b)
      (fun _ => okI k (DN k (a + b)) h) a = .ok v h') : v = .int k (k.wrap (a + b)) ∧ h' = h := by
  cases a with
  | negSucc a =>
    have := DY hr; rw [CR] at this; exact this
  | ofNat a =>
    cases b with
    | negSucc b => have := DY hr; rw [CR] at this; exact this
    | ofNat b =>
      simp only at hr
      cases hb : Nat.ble (Nat.add a b) (AQ k) with
      | false => rw [hb] at hr; exact DY hr
      | true =>
        rw [hb] at hr
        simp only [Ao] at hr
        cases hr
        refine ⟨?_, rfl⟩
        have := Cc k (a + b) (Ap.1 hb)
        simp only [Int.ofNat_eq_natCast]
        rw [← Int.natCast_add, this]; rfl
theorem WC (H : RelW ty φ E h w) {k : IntKind} {x y : O} {x' y' : Value} {t : TypeId} {X Y : Operand} (hx : RelV φ (x e) x') (hy : RelV φ (y e) y') (hr : Ai k (AQ k) x y F e h = .ok v h') :
    A8 ty φ E h w v h' ((BP .add t X Y x' y').run P w) := by
  obtain ⟨m, n, rfl, rfl, hg⟩ := Px hx hy hr (by intro h; cases h)
  obtain ⟨rfl, rfl⟩ := add_is hg
  have key : (BP .add t X Y (.int k m) (.int k n)).run P w = .ok (.int k (k.wrap (m + n))) w := by
    unfold BP
    rw [Sem.run_bind, Du, Result.andThen_ok]
    simp only [binOp, ne_eq, not_true_eq_false, if_false, Op.intArith, Sem.run_pure]
  rw [key]; exact .same H (.int _ _)
theorem MI {n : Int} (hb : iEq n 0 = false) : n ≠ 0 := by
  rw [Cp] at hb; simpa using hb
theorem WT (H : RelW ty φ E h w) {k : IntKind} {x y : O} {x' y' : Value} {t : TypeId} {X Y : Operand} (hx : RelV φ (x e) x') (hy : RelV φ (y e) y') (hr : Ch k x y F e h = .ok v h') :
    A8 ty φ E h w v h' ((BP .quo t X Y x' y').run P w) := by
  unfold Ch R7 at hr
  split at hr
  case h_2 => cases hr
  rename_i m h1
  split at hr
  case h_2 => cases hr
  rename_i n h2
  rw [Dp h1] at hx; rw [Dp h2] at hy
  obtain rfl := hx.int_inv; obtain rfl := hy.int_inv
  cases hb : iEq n 0 with
  | true => rw [hb] at hr; cases hr
  | false =>
    rw [hb] at hr
    obtain ⟨rfl, rfl⟩ := DY hr
    have key : (BP .quo t X Y (.int k m) (.int k n)).run P w = .ok (.int k (DN k (m.tdiv n))) w := by
      unfold BP
      rw [Sem.run_bind, Du, Result.andThen_ok, CR]
      simp only [binOp, ne_eq, not_true_eq_false, if_false, Op.intDiv, MI hb, Sem.run_pure]
    rw [key]; exact .same H (.int _ _)
theorem Wn (H : RelW ty φ E h w) {k : IntKind} {x y : O} {x' y' : Value} {t : TypeId} {X Y : Operand} (hx : RelV φ (x e) x') (hy : RelV φ (y e) y') (hr : GF k x y F e h = .ok v h') :
    A8 ty φ E h w v h' ((BP .rem t X Y x' y').run P w) := by
  unfold GF TQ at hr
  split at hr
  case h_2 => cases hr
  rename_i m h1
  split at hr
  case h_2 => cases hr
  rename_i n h2
  rw [Dp h1] at hx; rw [Dp h2] at hy
  obtain rfl := hx.int_inv; obtain rfl := hy.int_inv
  cases hb : iEq n 0 with
  | true => rw [hb] at hr; cases hr
  | false =>
    rw [hb] at hr
    obtain ⟨rfl, rfl⟩ := DY hr
    have key : (BP .rem t X Y (.int k m) (.int k n)).run P w = .ok (.int k (m.tmod n)) w := by
      unfold BP
      rw [Sem.run_bind, Du, Result.andThen_ok]
      simp only [binOp, ne_eq, not_true_eq_false, if_false, Op.intDiv, MI hb, Sem.run_pure]
    rw [key]; exact .same H (.int _ _)
theorem Wk (H : RelW ty φ E h w) {x : O} {x' : Value} (hx : RelV φ (x e) x') (hr : Bo x F e h = .ok v h') : A8 ty φ E h w v h' ((Op.unary .not x').run P w) := by
  unfold Bo at hr
  split at hr
  · rename_i b hb
    rw [hb] at hx; obtain rfl := hx.bool_inv
    obtain ⟨rfl, rfl⟩ := Gc hr
    exact .same H (.bool _)
  · cases hr
theorem Wg (H : RelW ty φ E h w) {k : IntKind} {x : O} {x' : Value} (hx : RelV φ (x e) x') (hr : S0 k x F e h = .ok v h') : A8 ty φ E h w v h' ((Op.unary .neg x').run P w) := by
  unfold S0 at hr
  split at hr
  · rename_i n hn
    rw [Dp hn] at hx; obtain rfl := hx.int_inv
    obtain ⟨rfl, rfl⟩ := DY hr
    rw [CR]
    exact .same H (.int _ _)
  · cases hr
theorem Sn (H : RelW ty φ E h w) {k : IntKind} {x : O} {x' : Value} (hx : RelV φ (x e) x') (hr : An k x F e h = .ok v h') :
    ∃ q n, x' = .int q n ∧ A8 ty φ E h w v h' ((Conv.intToInt k n).run P w) := by
  unfold An at hr
  split at hr
  · rename_i n hn
    obtain ⟨q, hq⟩ := PV hn
    rw [hq] at hx; obtain rfl := hx.int_inv
    obtain ⟨rfl, rfl⟩ := DY hr
    rw [CR]
    exact ⟨q, n, rfl, .same H (.int _ _)⟩
  · cases hr
end
end
end Go.Proofs.YtfeldadhbnmklaaGreat
namespace Go.Proofs.YtfeldadhbnmklaaGreat
noncomputable section
open Go
section
variable {P : Program} {ty : TTy} {φ : Phi} {E : Nat → Prop} {h h' : Hp} {w : World} {F : CallF} {e : Env} {v : Value}
def HJ : IntKind → Nat
  | .i8 => 7 | .i16 => 15 | .i32 => 31 | .i64 => 63 | .u8 => 8 | .u16 => 16 | .u32 => 32 | .u64 => 64
theorem NZ (k : IntKind) : AQ k + 1 = 2 ^ HJ k := by cases k <;> rfl
theorem Oq (k : IntKind) : HJ k ≤ k.bits := by cases k <;> decide
theorem Hr {k : IntKind} {a : Nat} (ha : a ≤ AQ k) : (BitVec.ofInt k.bits (a : Int)).toNat = a := by
  have h1 := NZ k
  have h2 : 2 ^ HJ k ≤ 2 ^ k.bits := Nat.pow_le_pow_right (by omega) (Oq k)
  rw [BitVec.ofInt_natCast, BitVec.toNat_ofNat, Nat.mod_eq_of_lt (by omega)]
theorem DG {x : O} {x' : Value} (hx : RelV φ (x e) x') {n : Nat} (h : Cy (x e) = .ok n) : ∃ k, x' = .int k n := by
  obtain ⟨k, hk⟩ := V6 h
  rw [hk] at hx; exact ⟨k, hx.int_inv⟩
theorem Fl {k : IntKind} {x : O} {x' : Value} (hx : RelV φ (x e) x') {n : Nat} (h : EL k (x e) = .ok n) : x' = .int k n := by
  rw [V5 h] at hx; exact hx.int_inv
theorem LG (H : RelW ty φ E h w) {f : Nat → Nat → Nat} {op : BinOp} (hop : (f = Nat.land ∧ op = .and) ∨ (f = Nat.lor ∧ op = .or) ∨ (f = Nat.xor ∧ op = .xor))
    {k : IntKind} {x y : O} {x' y' : Value} {t : TypeId} {X Y : Operand} (hx : RelV φ (x e) x') (hy : RelV φ (y e) y') (hr : DP f k x y F e h = .ok v h') : A8 ty φ E h w v h' ((BP op t X Y x' y').run P w) := by
  unfold DP RU at hr
  split at hr
  case h_2 => cases hr
  rename_i a h1
  split at hr
  case h_2 => cases hr
  rename_i b h2
  obtain ⟨ha, hr⟩ := BM hr
  obtain ⟨hb, hr⟩ := BM hr
  obtain rfl := Fl hx h1; obtain rfl := Fl hy h2
  obtain ⟨rfl, rfl⟩ := DY hr
  have ha := Ap.1 ha; have hb := Ap.1 hb
  have ea := Hr ha; have eb := Hr hb
  have ht := NZ k
  have key : (BP op t X Y (.int k a) (.int k b)).run P w = .ok (.int k (.ofNat (f a b))) w := by
    unfold BP
    rw [Sem.run_bind, Du, Result.andThen_ok]
    rcases hop with ⟨rfl, rfl⟩ | ⟨rfl, rfl⟩ | ⟨rfl, rfl⟩ <;>
      simp only [binOp, ne_eq, not_true_eq_false, if_false, Op.intBits, Sem.run_pure, BitVec.toNat_and, BitVec.toNat_or, BitVec.toNat_xor, ea, eb]
    · have : a &&& b ≤ AQ k := Nat.le_trans Nat.and_le_left ha
      rw [Cc k _ this]; rfl
    · have : a ||| b < 2 ^ HJ k := Nat.or_lt_two_pow (by omega) (by omega)
      rw [Cc k _ (by omega)]; rfl
    · have : a ^^^ b < 2 ^ HJ k := Nat.xor_lt_two_pow (by omega) (by omega)
      rw [Cc k _ (by omega)]; rfl
  rw [key]; exact .same H (.int _ _)
theorem MH (op : BinOp) (hop : op = .shl ∨ op = .shr) (t : TypeId) (X Y : Operand) (a b : Value) : (eqGuard op t X Y a b).run P w = .ok () w := by
  rcases hop with rfl | rfl <;> rfl
theorem Wp (H : RelW ty φ E h w) {k : IntKind} {x y : O} {x' y' : Value} {t : TypeId} {X Y : Operand} (hx : RelV φ (x e) x') (hy : RelV φ (y e) y') (hr : Ga k x y F e h = .ok v h') :
    A8 ty φ E h w v h' ((BP .shl t X Y x' y').run P w) := by
  unfold Ga TZ at hr
  split at hr
  case h_2 => cases hr
  rename_i a h1
  split at hr
  case h_2 => cases hr
  rename_i b h2
  obtain rfl := Fl hx h1; obtain ⟨q, rfl⟩ := DG hy h2
  obtain ⟨rfl, rfl⟩ := DY hr
  have key : (BP .shl t X Y (.int k a) (.int q b)).run P w = .ok (.int k (k.wrap (.ofNat (a * 2 ^ (min b k.bits))))) w := by
    unfold BP
    rw [Sem.run_bind, MH _ (.inl rfl), Result.andThen_ok]
    have : ¬ ((b : Int) < 0) := by omega
    simp only [binOp, Op.shift, this, if_false, Sem.run_pure, Int.toNat_natCast]
    simp
  rw [key, CR, BU]; exact .same H (.int _ _)
theorem Ws (H : RelW ty φ E h w) {k : IntKind} {x y : O} {x' y' : Value} {t : TypeId} {X Y : Operand} (hx : RelV φ (x e) x') (hy : RelV φ (y e) y') (hr : FE k x y F e h = .ok v h') :
    A8 ty φ E h w v h' ((BP .shr t X Y x' y').run P w) := by
  unfold FE Ta at hr
  split at hr
  case h_2 => cases hr
  rename_i a h1
  split at hr
  case h_2 => cases hr
  rename_i b h2
  obtain rfl := Fl hx h1; obtain ⟨q, rfl⟩ := DG hy h2
  obtain ⟨rfl, rfl⟩ := DY hr
  have key : (BP .shr t X Y (.int k a) (.int q b)).run P w = .ok (.int k (.ofNat (a / 2 ^ (min b k.bits)))) w := by
    unfold BP
    rw [Sem.run_bind, MH _ (.inr rfl), Result.andThen_ok]
    have : ¬ ((b : Int) < 0) := by omega
    simp only [binOp, Op.shift, this, if_false, Sem.run_pure, Int.toNat_natCast]
    congr 2
    have e2 : ((2 : Int) ^ min b k.bits) = ((2 ^ min b k.bits : Nat) : Int) := by simp
    rw [e2, Int.fdiv_eq_ediv_of_nonneg _ (Int.natCast_nonneg _)]; rfl
  rw [key, BU]; exact .same H (.int _ _)
theorem GP : ∀ x y : List UInt8, bEq x y = (x == y)
  | [], [] => rfl
  | [], _ :: _ => rfl
  | _ :: _, [] => rfl
  | a :: x, b :: y => by
    have ih := GP x y
    unfold bEq
    rw [ih, List.cons_beq_cons]
    cases hab : Nat.beq a.toNat b.toNat with
    | true =>
      have : a = b := UInt8.toNat_inj.1 (AZ.1 hab)
      simp [this]
    | false =>
      have : a ≠ b := fun h => by rw [h] at hab; rw [Nat.beq_refl] at hab; cases hab
      simp [this]
theorem RQ : ∀ x y : List UInt8, bLt x y = Op.bytesLess x y
  | [], [] => rfl
  | [], _ :: _ => rfl
  | _ :: _, [] => rfl
  | a :: x, b :: y => by
    have ih := RQ x y
    unfold bLt Op.bytesLess
    rw [ih]
    cases hlt : Nat.blt a.toNat b.toNat with
    | true =>
      have : a < b := UInt8.lt_iff_toNat_lt.2 (A3.1 hlt)
      simp [this]
    | false =>
      have : ¬ a < b := fun h => by rw [A3.2 (UInt8.lt_iff_toNat_lt.1 h)] at hlt; cases hlt
      cases hab : Nat.beq a.toNat b.toNat with
      | true =>
        have : a = b := UInt8.toNat_inj.1 (AZ.1 hab)
        simp [this]
      | false =>
        have h2 : a ≠ b := fun h => by rw [h] at hab; rw [Nat.beq_refl] at hab; cases hab
        simp [this, h2]
theorem lu {f : List UInt8 → List UInt8 → Bool} {x y : O} {x' y' : Value} (hx : RelV φ (x e) x') (hy : RelV φ (y e) y') (hr : GG f x y F e h = .ok v h') :
    ∃ a b, x' = .string a ∧ y' = .string b ∧ v = .bool (f a.data.toList b.data.toList) ∧ h' = h := by
  unfold GG Tj at hr
  split at hr
  case h_2 => cases hr
  rename_i a h1
  split at hr
  case h_2 => cases hr
  rename_i b h2
  rw [h1] at hx; rw [h2] at hy
  obtain ⟨r1, r2⟩ := Gc hr
  exact ⟨a, b, hx.string_inv, hy.string_inv, r1, r2⟩
theorem F7 (H : RelW ty φ E h w) {f : List UInt8 → List UInt8 → Bool} {op : BinOp}
    (hop : (f = bEq ∧ op = .eql) ∨ (f = (fun a b => !bEq a b) ∧ op = .neq) ∨ (f = bLt ∧ op = .lss) ∨ (f = (fun a b => bLt b a) ∧ op = .gtr) ∨ (f = (fun a b => !bLt b a) ∧ op = .leq) ∨ (f = (fun a b => !bLt a b) ∧ op = .geq))
    {x y : O} {x' y' : Value} {t : TypeId} {X Y : Operand} (hx : RelV φ (x e) x') (hy : RelV φ (y e) y') (hr : GG f x y F e h = .ok v h') : A8 ty φ E h w v h' ((BP op t X Y x' y').run P w) := by
  obtain ⟨a, b, rfl, rfl, rfl, rfl⟩ := lu hx hy hr
  have key : (BP op t X Y (.string a) (.string b)).run P w = .ok (.bool (f a.data.toList b.data.toList)) w := by
    unfold BP
    rw [Sem.run_bind, KK, Result.andThen_ok]
    rcases hop with ⟨rfl, rfl⟩ | ⟨rfl, rfl⟩ | ⟨rfl, rfl⟩ | ⟨rfl, rfl⟩ | ⟨rfl, rfl⟩ | ⟨rfl, rfl⟩ <;>
      simp only [binOp, Op.stringOp, Sem.run_pure, Result.ok.injEq, Value.bool.injEq, and_true, GP, RQ, ByteArray.toList_eq]
    all_goals
      rw [bytesLess_eq, bytesLess_eq, Bool.eq_iff_iff]
      simp only [Bool.not_eq_true', Bool.or_eq_false_iff, Bool.or_eq_true, decide_eq_true_iff, decide_eq_false_iff_not, beq_iff_eq, beq_eq_false_iff_ne]
    · constructor
      · rintro ⟨h1, h2⟩
        rcases Std.lt_trichotomy a.data.toList b.data.toList with h | h | h
        · exact absurd h h1
        · exact absurd h h2
        · exact h
      · intro h
        exact ⟨fun h2 => absurd (Std.lt_trans h h2) (Std.lt_irrefl), fun h2 => by rw [h2] at h; exact Std.lt_irrefl h⟩
    · constructor
      · rintro (h1 | h1) h
        · exact Std.lt_irrefl (Std.lt_trans h h1)
        · rw [h1] at h; exact Std.lt_irrefl h
      · intro h1
        rcases Std.lt_trichotomy a.data.toList b.data.toList with h | h | h
        · exact .inl h
        · exact .inr h
        · exact absurd h h1
  rw [key]; exact .same H (.bool _)
theorem Fb {a : ByteArray} {l : List UInt8} (h : a.data.toList = l) : a = ⟨⟨l⟩⟩ := by
  cases a; rename_i d; cases d; simp at h; rw [h]
theorem WL (H : RelW ty φ E h w) {x y : O} {x' y' : Value} {t : TypeId} {X Y : Operand} (hx : RelV φ (x e) x') (hy : RelV φ (y e) y') (hr : LH x y F e h = .ok v h') :
    A8 ty φ E h w v h' ((BP .add t X Y x' y').run P w) := by
  unfold LH VH at hr
  split at hr
  case h_2 => cases hr
  rename_i a h1
  split at hr
  case h_2 => cases hr
  rename_i b h2
  rw [h1] at hx; rw [h2] at hy
  obtain rfl := hx.string_inv; obtain rfl := hy.string_inv
  obtain ⟨hb, hr⟩ := BM hr
  cases hr
  have hb := Ap.1 hb
  rw [BD, BD] at hb
  have key : (BP .add t X Y (.string a) (.string b)).run P w = .ok (.string (a ++ b)) w := by
    unfold BP
    rw [Sem.run_bind, KK, Result.andThen_ok]
    have e1 : a.size = a.data.toList.length := rfl
    have e2 : b.size = b.data.toList.length := rfl
    have : ¬ ((a.size + b.size : Nat) : Int) > IntKind.i64.max := by
      rw [e1, e2]
      have h1 : IntKind.i64.max = 9223372036854775807 := by decide
      have h2 : most = 1099511627776 := rfl
      rw [h1]; rw [h2] at hb
      have h3 : a.data.toList.length + b.data.toList.length ≤ 1099511627776 := hb
      omega
    simp only [binOp, Op.stringOp, this, if_false, Sem.run_pure]
  rw [key, ← Fb (a := a ++ b) (l := a.data.toList ++ b.data.toList) (by simp)]
  exact .same H (.string _)
theorem WO (H : RelW ty φ E h w) {x : O} {x' : Value} (hx : RelV φ (x e) x') (hr : Sp x F e h = .ok v h') : A8 ty φ E h w v h' ((Op.unary .xor x').run P w) := by
  unfold Sp at hr
  split at hr
  · rename_i n hn
    obtain rfl := Fl hx hn
    obtain ⟨hb, hr⟩ := BM hr
    have hb := Ap.1 hb
    obtain ⟨rfl, rfl⟩ := DY hr
    have key : (Op.unary .xor (.int .u8 n)).run P w = .ok (.int .u8 (.ofNat (255 - n))) w := by
      simp only [Op.unary, Op.intBits, Sem.run_pure, BitVec.toNat_xor]
      have ea := Hr (k := .u8) hb
      have e1 : (BitVec.ofInt IntKind.u8.bits (if IntKind.u8.signed then -1 else IntKind.u8.max)).toNat = 255 := by decide
      rw [e1, ea]
      have e2 : 255 ^^^ n = 255 - n := by
        have : ∀ n : Fin 256, 255 ^^^ n.val = 255 - n.val := by decide +kernel
        exact this ⟨n, by omega⟩
      rw [e2, Cc .u8 (255 - n) (by show _ ≤ 255; omega)]; rfl
    rw [key]; exact .same H (.int _ _)
  · cases hr
end
end
end Go.Proofs.YtfeldadhbnmklaaGreat
set_option linter.unusedSimpArgs false
set_option linter.unusedVariables false
namespace Go.Proofs.YtfeldadhbnmklaaGreat
noncomputable section
open Go
section
variable {P : Program} {ty : TTy} {φ : Phi} {E : Nat → Prop} {h h' : Hp} {w : World} {F : CallF} {e : Env} {v : Value}
theorem EN {x : O} {x' : Value} (hx : RelV φ (x e) x') {a : Addr} (h : DD (x e) = .ok a) : ∃ a', x' = .pointer (some a') ∧ RelA φ a a' := by
  rw [Fw h] at hx; exact hx.ptr_inv
theorem Ey (a : Addr) : (Instr.sureAddr (.pointer (some a))).run P w = .ok a w := rfl
theorem Qg (H : RelW ty φ E h w) {x : O} {x' : Value} {t : TypeId} {ti : TI} (T : TyOk P t ti) (hagg : ti.k.agg = false) (hx : RelV φ (x e) x')
    (hE : ∀ a, x e = .pointer (some a) → ¬ E a.block) (hr : AG x F e h = .ok v h') : A8 ty φ E h w v h' ((Instr.loadAt t x').run P w) := by
  unfold AG at hr
  cases ha : DD (x e) with
  | no => rw [ha] at hr; cases hr
  | ok a =>
    rw [ha] at hr
    obtain ⟨a', rfl, hra⟩ := EN hx ha
    obtain ⟨rfl, v', hc, hv⟩ := MT H hr hra (hE a (Fw ha))
    have key : (Instr.loadAt t (.pointer (some a'))).run P w = .ok v' w := by
      simp only [Instr.loadAt, Sem.run_bind, Ey, Result.andThen_ok, loadVar, T.agg, hagg, run_load, hc, Bool.false_eq_true, if_false]
    rw [key]; exact .same H hv
theorem MU (H : RelW ty φ E h w) {n : Nat} {a a' : Addr} (hr : loadN n a h = .ok v h') (ha : RelA φ a a') (hE : ¬ E a.block) :
    h' = h ∧ ∃ l, RelV φ v (.agg ⟨l⟩) ∧ (loadCells a' n).run P w = .ok l.toArray w := by
  unfold loadN at hr
  split at hr
  case h_2 => cases hr
  rename_i c s en hrow
  obtain ⟨hb, hr⟩ := BM hr
  rw [E9, List.append_nil] at hr
  cases hr
  obtain ⟨l, hl, _, hrun, _⟩ := MV H ha hE hrow (Ap.1 hb)
  exact ⟨rfl, l, .agg hl, hrun w rfl⟩
theorem Qi (H : RelW ty φ E h w) {x : O} {x' : Value} {t : TypeId} {ti : TI} (T : TyOk P t ti) (hagg : ti.k.agg = true) (hx : RelV φ (x e) x')
    (hE : ∀ a, x e = .pointer (some a) → ¬ E a.block) (hr : Ac ti.size x F e h = .ok v h') : A8 ty φ E h w v h' ((Instr.loadAt t x').run P w) := by
  unfold Ac at hr
  split at hr
  case h_2 => cases hr
  rename_i a ha
  obtain ⟨a', rfl, hra⟩ := EN hx ha
  obtain ⟨rfl, l, hv, hrun⟩ := MU (P := P) H hr hra (hE a (Fw ha))
  have key : (Instr.loadAt t (.pointer (some a'))).run P w = .ok (.agg l.toArray) w := by
    simp only [Instr.loadAt, Sem.run_bind, Ey, Result.andThen_ok, loadVar, T.agg, hagg, T.size, hrun, if_true, Sem.run_pure]
  rw [key]; exact .same H hv
def RJ (ty : TTy) (φ : Phi) (E : Nat → Prop) (h : Hp) (w : World) (v : Value) (h' : Hp) (r : Result Unit) : Prop :=
  v = noRes ∧ ∃ w', r = .ok () w' ∧ RelW ty φ E h' w' ∧ Evo φ h w φ h' w'
theorem LV {a : Addr} {u : Value} {k : Hp → R} (hr : Ci a (cellsOf u) h k = .ok v h') : known u = true := by
  cases u <;> first | rfl | skip
  exfalso
  unfold Ci at hr
  cases hrow : rowOf h a.block with
  | no => rw [hrow] at hr; cases hr
  | ok c s e =>
    rw [hrow] at hr
    simp only at hr
    obtain ⟨_, hr⟩ := BM hr
    have h1 := (BM hr).1
    cases h1
theorem Qk (H : RelW ty φ E h w) {x y : O} {x' y' : Value} {t : TypeId} {ti : TI} (T : TyOk P t ti) (hx : RelV φ (x e) x') (hy : RelV φ (y e) y')
    (hE : ∀ a, x e = .pointer (some a) → ¬ E a.block) (hr : AP ti.size x y F e h = .ok v h') : RJ ty φ E h w v h' ((Instr.storeAt t x' y').run P w) := by
  unfold AP at hr
  split at hr
  case h_2 => cases hr
  rename_i a ha
  obtain ⟨a', rfl, hra⟩ := EN hx ha
  rw [A7] at hr
  obtain ⟨hb, hr⟩ := BM hr
  have hc := Hd hy (LV hr)
  obtain ⟨h1, w1, hk, hrun, H1, ev⟩ := GB (P := P) H hr hra hc (hE a (Fw ha))
  cases hk
  refine ⟨rfl, w1, ?_, H1, ev⟩
  have hsz : y'.cells.size = ti.size := by
    have := hc.length
    rw [← AZ.1 hb, BD, ← this]; simp
  simp only [Instr.storeAt, Sem.run_bind, Ey, Result.andThen_ok, storeVar, T.size, hsz, ne_eq, not_true_eq_false, if_false, hrun, Sem.run_pure]
theorem Wi (H : RelW ty φ E h w) {x : O} {x' : Value} (hx : RelV φ (x e) x') (hr : BF x F e h = .ok v h') :
    RelV φ v x' ∧ h' = h ∧ (x' ≠ .pointer none ∧ x' ≠ .nilIface ∧ x' ≠ .nilFunc ∧ ∀ nm f c, x' ≠ .func (.method nm) f c) := by
  unfold BF QS at hr
  split at hr
  · rename_i a ha
    cases hr; rw [ha] at hx
    obtain ⟨a', rfl, hra⟩ := hx.ptr_inv
    exact ⟨.ptr hra, rfl, by simp⟩
  · rename_i f a b ha
    cases hr; rw [ha] at hx
    cases hx with | func fn h1 h2 => exact ⟨.func _ h1 h2, rfl, by simp⟩
  · rename_i a n c ha
    cases hr; rw [ha] at hx
    refine ⟨hx, rfl, ?_⟩
    cases hx <;> simp
  · rename_i m ha
    cases hr; rw [ha] at hx
    refine ⟨hx, rfl, ?_⟩
    cases hx <;> simp
  · rename_i t u ha
    rw [A7] at hr
    cases hr; rw [ha] at hx
    refine ⟨hx, rfl, ?_⟩
    cases hx <;> simp
  · cases hr
theorem FD (H : RelW ty φ E h w) {cs cs' : List Value} {k : Nat → Hp → R} (hr : newRow h 0 cs k = .ok v h') (hrel : RelL φ cs cs') (t : TypeId) :
    ∃ h1 ψ, k h.next h1 = .ok v h' ∧ ψ h.next = some { blk := w.heap.size, off := 0, sz := cs.length, room := cs.length, es := 1 } ∧
      RelW ty ψ E h1 { w with heap := w.heap.push (.cells ⟨cs'⟩ t) } ∧ Evo φ h w ψ h1 { w with heap := w.heap.push (.cells ⟨cs'⟩ t) } := by
  have hlen := hrel.length
  obtain ⟨h1, hk, H1, ev⟩ := KY (cs' := ⟨cs'⟩) (t := t) (fr := (0, 0)) (w' := { w with heap := w.heap.push (.cells ⟨cs'⟩ t) })
    (p := { blk := w.heap.size, off := 0, sz := cs.length, room := cs.length, es := 1 }) H hr (by simp [hlen]) ⟨rfl, .inl ⟨rfl, rfl, rfl, .inl rfl⟩⟩ (by simp [hlen]) (.inl rfl)
    (fun j u hj => by simpa using hrel.get j u hj) rfl rfl rfl rfl
  exact ⟨h1, _, hk, Phi.put_self _ _ _, H1, ev⟩
theorem LR {ψ : Phi} {n : Nat} {p : Pl} (hp : ψ n = some p) (ho : p.off = 0) : RelV ψ (.pointer (some ⟨n, 0, none⟩)) (.pointer (some ⟨p.blk, 0, none⟩)) :=
  .ptr ⟨rfl, rfl, p, hp, rfl, by simp [ho]⟩
theorem WI (H : RelW ty φ E h w) {x : O} {x' : Value} {t : TypeId} (hx : RelV φ (x e) x') (hr : CG x F e h = .ok v h') : A8 ty φ E h w v h' ((Instr.box t x').run P w) := by
  unfold CG at hr; rw [A7] at hr
  obtain ⟨hkn, hr⟩ := BM hr
  obtain ⟨h1, ψ, hk, hp, H1, ev⟩ := FD H hr (Hd hx hkn) t
  cases hk
  exact ⟨_, _, ψ, rfl, LR hp rfl, H1, ev⟩
theorem QU (H : RelW ty φ E h w) {t : TypeId} {ti : TI} (T : TyOk P t ti) {c : VT} (hz : ti.zero.length = ti.size) (hc : CH .mt 0 ti.zero = some c) (hr : A9 ti.size c F e h = .ok v h') :
    A8 ty φ E h w v h' ((Instr.alloc t true (.tuple #[])).run P w) := by
  obtain ⟨z, _, hzr, hzc, hzp⟩ := T.zeroOk hz
  have hr' : newRow h 0 ti.zero Gd = .ok v h' := by
    unfold newRow CJ; rw [hc]; simp only [Ao, BD, hz]; exact hr
  obtain ⟨h1, ψ, hk, hp, H1, ev⟩ := FD H hr' (.plain hzp) t
  cases hk
  refine ⟨_, _, ψ, ?_, LR hp rfl, H1, ev⟩
  have e1 : (⟨ti.zero⟩ : Array Value) = z.cells := by rw [← hzc]
  simp only [Instr.alloc, Sem.run_bind, hzr, Result.andThen_ok, newVar, Go.newRow, run_newObj, Sem.run_pure, e1]
theorem M9 (H : RelW ty φ E h w) {a a' : Addr} {n : Nat} (ha : RelA φ a a') (hr : Kf a n h = .ok v h') : h' = h ∧ RelV φ v (.pointer (some (a'.add n))) := by
  unfold Kf at hr; rw [Ao] at hr; cases hr
  obtain ⟨p, hp, rfl⟩ := ha.eq
  rw [Addr.add_is]
  refine ⟨rfl, .ptr ⟨rfl, rfl, p, hp, rfl, ?_⟩⟩
  show p.off + a.off + n = p.off + (a.off + n)
  omega
theorem I2 {fs : List (Nat × Nat × Nat)} {fields : Array Field} (hf : fields.toList.map (fun f => (f.offset, P.cellsOf f.type, f.type)) = fs) {i o s t : Nat} (hi : nth fs i = some (o, s, t)) :
    ∃ f, fields[i]? = some f ∧ f.offset = o ∧ P.cellsOf f.type = s ∧ f.type = t := by
  rw [Ej, ← hf, List.getElem?_map] at hi
  cases hg : fields.toList[i]? with
  | none => rw [hg] at hi; cases hi
  | some f =>
    rw [hg] at hi
    simp only [Option.map_some, Option.some.injEq, Prod.mk.injEq] at hi
    exact ⟨f, by simpa using hg, hi.1, hi.2.1, hi.2.2⟩
theorem Jv (H : RelW ty φ E h w) {x : O} {x' : Value} {t : TypeId} {ti : TI} (T : TyOk P t ti) {fs : List (Nat × Nat × Nat)} (hk : ti.k = .struct fs) {i o s ft : Nat} (hi : nth fs i = some (o, s + 1, ft))
    (hx : RelV φ (x e) x') (hr : AE o x F e h = .ok v h') : A8 ty φ E h w v h' ((Instr.fieldAt t x' i).run P w) := by
  unfold AE at hr
  cases ha : DD (x e) with
  | no => rw [ha] at hr; cases hr
  | ok a =>
    rw [ha] at hr
    obtain ⟨a', rfl, hra⟩ := EN hx ha
    obtain ⟨rfl, hv⟩ := M9 H hra hr
    obtain ⟨d, hd, hkd⟩ := T.desc
    rw [hk] at hkd
    cases hkd with
    | struct hf hin =>
      obtain ⟨f, hf1, hf2, hf3, hf4⟩ := I2 hf hi
      have hsome : (P.info? f.type).isSome = true := by
        have := List.all_eq_true.1 hin f (by simpa using Array.mem_of_getElem? hf1)
        exact this
      obtain ⟨inf, hinf⟩ := Option.isSome_iff_exists.1 hsome
      have key : (Instr.fieldAt t (.pointer (some a')) i).run P w = .ok (.pointer (some (a'.add o))) w := by
        simp only [Instr.fieldAt, Sem.run_bind, hd, Result.andThen_ok, hf1, Ey, fieldPlace, run_sizeOf w hinf, hf3, hf2, Nat.succ_ne_zero, if_false, Sem.run_pure, Nat.add_eq_zero_iff, reduceCtorEq, and_false]
      rw [key]; exact .same H hv
theorem PS (H : RelW ty φ E h w) {n esize : Nat} {a a' : Addr} {ix : O} {ix' : Value} (hi : RelV φ (ix e) ix') (ha : RelA φ a a') (hr : I9 n esize (.ok a) (Cy (ix e)) h = .ok v h') :
    ∃ k i, ix' = .int k (i : Nat) ∧ i < n ∧ h' = h ∧ RelV φ v (.pointer (some (a'.add (i * esize)))) := by
  unfold I9 at hr
  cases h1 : Cy (ix e) with
  | no => rw [h1] at hr; cases hr
  | ok i =>
    rw [h1] at hr
    simp only at hr
    obtain ⟨k, rfl⟩ := DG hi h1
    cases hb : Nat.blt i n with
    | false => rw [hb] at hr; cases hr
    | true =>
      rw [hb] at hr
      simp only at hr
      obtain ⟨r1, r2⟩ := M9 H ha hr
      exact ⟨k, i, rfl, A3.1 hb, r1, r2⟩
theorem OU (H : RelW ty φ E h w) {x ix : O} {x' ix' : Value} {t el : TypeId} {ti ei : TI} (T : TyOk P t ti) {n : Nat} (hk : ti.k = .arr n el) (TE : TyOk P el ei)
    (hx : RelV φ (x e) x') (hi : RelV φ (ix e) ix') (hr : A4 n ei.size x ix F e h = .ok v h') : A8 ty φ E h w v h' ((Instr.indexAt t x' ix').run P w) := by
  unfold A4 at hr
  cases ha : DD (x e) with
  | no =>
    rw [ha] at hr
    unfold I9 at hr
    cases h1 : Cy (ix e) with
    | no => rw [h1] at hr; cases hr
    | ok i => rw [h1] at hr; simp only at hr; cases hb : Nat.blt i n <;> rw [hb] at hr <;> cases hr
  | ok a =>
    rw [ha] at hr
    obtain ⟨a', rfl, hra⟩ := EN hx ha
    obtain ⟨k, i, rfl, hlt, rfl, hv⟩ := PS H hi hra hr
    obtain ⟨d, hd, hkd⟩ := T.desc
    rw [hk] at hkd
    cases hkd
    have key : (Instr.indexAt t (.pointer (some a')) (.int k (i : Nat))).run P w = .ok (.pointer (some (a'.add (i * ei.size)))) w := by
      have h2 : (0 : Int) ≤ (i : Int) ∧ (i : Int) < (n : Int) := by omega
      simp only [Instr.indexAt, asIntOf, Sem.run_bind, Sem.run_pure, hd, Result.andThen_ok, Ey, h2, and_self, if_true, TE.size, Int.toNat_natCast, Sem.run_ite]
    rw [key]; exact .same H hv
theorem Hu {a a' : Addr} {n c c' : Nat} (hn : n ≤ c) (h : RelS φ a c a' c') (h0 : 0 < n) : RelA φ a a' := by
  obtain ⟨s1, s2, p, hp, hb, h | h⟩ := h
  · exact ⟨s1, s2, p, hp, hb, h.2.1⟩
  · omega
theorem WV (H : RelW ty φ E h w) {x ix : O} {x' ix' : Value} {t el : TypeId} {ti ei : TI} (T : TyOk P t ti) (hk : ti.k = .slice el) (TE : TyOk P el ei)
    (hx : RelV φ (x e) x') (hi : RelV φ (ix e) ix') (hr : AY ei.size x ix F e h = .ok v h') : A8 ty φ E h w v h' ((Instr.indexAt t x' ix').run P w) := by
  unfold AY at hr
  split at hr
  case h_2 => cases hr
  rename_i a n c hxe
  rw [hxe] at hx
  cases hx with
  | @slice _ a' _ _ c' hn hs =>
    obtain ⟨d, hd, hkd⟩ := T.desc
    rw [hk] at hkd
    cases hkd
    cases h1 : Cy (ix e) with
    | no => rw [h1] at hr; cases hr
    | ok i0 =>
      have hpos : 0 < n := by
        rw [h1] at hr
        unfold I9 at hr
        simp only at hr
        cases hb : Nat.blt i0 n with
        | false => rw [hb] at hr; cases hr
        | true => have := A3.1 hb; omega
      obtain ⟨k, i, rfl, hlt, rfl, hv⟩ := PS H hi (Hu hn hs hpos) hr
      have key : (Instr.indexAt t (.slice (some a') n c') (.int k (i : Nat))).run P w = .ok (.pointer (some (a'.add (i * ei.size)))) w := by
        have h2 : (0 : Int) ≤ (i : Int) ∧ (i : Int) < (n : Int) := by omega
        simp only [Instr.indexAt, asIntOf, Sem.run_bind, Sem.run_pure, hd, Result.andThen_ok, h2, and_self, if_true, TE.size, Int.toNat_natCast, Sem.run_ite]
      rw [key]; exact .same H hv
theorem M0 (H : RelW ty φ E h w) {t : TypeId} {ti : TI} (T : TyOk P t ti) {l l' : List Value} (hl : RelL φ l l') {off : Nat} (hr : Ke ti.k.agg ti.size l off h = .ok v h') :
    A8 ty φ E h w v h' ((part t ⟨l'⟩ off).run P w) := by
  unfold Ke at hr
  split at hr
  · rename_i hagg
    rw [CN, Fs, Gs] at hr
    cases hr
    have key : (part t ⟨l'⟩ off).run P w = .ok (.agg ⟨(l'.drop off).take ti.size⟩) w := by
      simp only [part, Sem.run_bind, T.agg, hagg, Result.andThen_ok, if_true, T.size, Sem.run_pure]
      congr 2
      apply Array.ext'
      simp [Array.toList_extract, List.extract_eq_take_drop]
    rw [key]; exact .same H (.agg ((hl.drop off).take ti.size))
  · rename_i hagg
    split at hr
    · rename_i u hu
      rw [A7] at hr
      cases hr
      rw [Ej] at hu
      obtain ⟨u', hu', hru⟩ := hl.get off _ hu
      have key : (part t ⟨l'⟩ off).run P w = .ok u' w := by
        have : (⟨l'⟩ : Array Value)[off]? = some u' := by simpa using hu'
        simp only [part, Sem.run_bind, T.agg, hagg, Result.andThen_ok, Bool.false_eq_true, if_false, this, Sem.run_pure]
      rw [key]; exact .same H hru
    · cases hr
theorem Qc (H : RelW ty φ E h w) {x : O} {x' : Value} {t : TypeId} {ti fi : TI} (T : TyOk P t ti) {fs : List (Nat × Nat × Nat)} (hk : ti.k = .struct fs) {i o s ft : Nat} (hi : nth fs i = some (o, s, ft)) (TF : TyOk P ft fi)
    (hx : RelV φ (x e) x') (hr : JR fi.k.agg fi.size o x F e h = .ok v h') : A8 ty φ E h w v h' ((Instr.field t x' i).run P w) := by
  unfold JR at hr
  split at hr
  case h_2 => cases hr
  rename_i cs hxe
  rw [hxe] at hx
  cases hx with
  | agg hl =>
    obtain ⟨d, hd, hkd⟩ := T.desc
    rw [hk] at hkd
    cases hkd with
    | struct hf hin =>
      obtain ⟨f, hf1, hf2, hf3, hf4⟩ := I2 hf hi
      have := M0 (P := P) H TF hl hr
      simp only [Instr.field, Sem.run_bind, hd, Result.andThen_ok, hf1, asAgg, Sem.run_pure, hf2, hf4]
      exact this
theorem bA (H : RelW ty φ E h w) {x ix : O} {x' ix' : Value} {t el : TypeId} {ti ei : TI} (T : TyOk P t ti) {n : Nat} (hk : ti.k = .arr n el) (TE : TyOk P el ei)
    (hx : RelV φ (x e) x') (hi : RelV φ (ix e) ix') (hr : oAt ei.k.agg n ei.size x ix F e h = .ok v h') : A8 ty φ E h w v h' ((Instr.index t x' ix').run P w) := by
  unfold oAt atF at hr
  split at hr
  case h_2 => cases hr
  rename_i i h1
  obtain ⟨hb, hr⟩ := BM hr
  obtain ⟨k, rfl⟩ := DG hi h1
  split at hr
  case h_2 => cases hr
  rename_i cs hxe
  rw [hxe] at hx
  cases hx with
  | agg hl =>
    obtain ⟨d, hd, hkd⟩ := T.desc
    rw [hk] at hkd
    cases hkd
    have := M0 (P := P) H TE hl hr
    have hlt := A3.1 hb
    have h2 : (0 : Int) ≤ (i : Int) ∧ (i : Int) < (n : Int) := by omega
    simp only [Instr.index, asIntOf, Sem.run_bind, Sem.run_pure, hd, Result.andThen_ok, h2, and_self, if_true, TE.size, Int.toNat_natCast, Sem.run_ite]
    exact this
theorem QX (H : RelW ty φ E h w) {x ix : O} {x' ix' : Value} {t : TypeId} {ti : TI} (T : TyOk P t ti) (hk : ti.k = .string)
    (hx : RelV φ (x e) x') (hi : RelV φ (ix e) ix') (hr : Hn x ix F e h = .ok v h') : A8 ty φ E h w v h' ((Instr.index t x' ix').run P w) := by
  unfold Hn Kq at hr
  split at hr
  case h_2 => cases hr
  rename_i i h1
  obtain ⟨k, rfl⟩ := DG hi h1
  split at hr
  case h_2 => cases hr
  rename_i s hxe
  rw [hxe] at hx
  obtain rfl := hx.string_inv
  split at hr
  case h_2 => cases hr
  rename_i b hb
  obtain ⟨rfl, rfl⟩ := DY hr
  obtain ⟨d, hd, hkd⟩ := T.desc
  rw [hk] at hkd
  cases hkd
  rw [Ej] at hb
  have hget : s[i]? = some b := by
    have h0 : i < s.data.toList.length := by
      rcases Nat.lt_or_ge i s.data.toList.length with h | h
      · exact h
      · rw [List.getElem?_eq_none h] at hb; cases hb
    have h1 : i < s.size := h0
    rw [getElem?_pos s i h1]
    rw [List.getElem?_eq_getElem h0] at hb
    rw [← Option.some.inj hb]; rfl
  have key : (Instr.index t (.string s) (.int k (i : Nat))).run P w = .ok (.int .u8 b.toNat) w := by
    have h0 : (0 : Int) ≤ (i : Int) := by omega
    simp only [Instr.index, asIntOf, Sem.run_bind, Sem.run_pure, hd, Result.andThen_ok, h0, if_true, Int.toNat_natCast, hget]
  rw [key]; exact .same H (.int _ _)
theorem Mj (H : RelW ty φ E h w) {x : O} {x' : Value} {i : Nat} (hx : RelV φ (x e) x') (hr : AN i x F e h = .ok v h') : A8 ty φ E h w v h' ((Instr.extract x' i).run P w) := by
  unfold AN at hr
  split at hr
  case h_2 => cases hr
  rename_i vs hxe
  rw [hxe] at hx
  cases hx with
  | @tuple l l' hl =>
    split at hr
    case h_2 => cases hr
    rename_i u hu
    rw [A7] at hr
    cases hr
    rw [Ej] at hu
    obtain ⟨u', hu', hru⟩ := hl.get i _ hu
    have : (⟨l'⟩ : Array Value)[i]? = some u' := by simpa using hu'
    simp only [Instr.extract, this, Sem.run_pure]
    exact .same H hru
theorem _root_.Go.Proofs.YtfeldadhbnmklaaGreat.KOk.noIface {k : TK} {d : TypeDesc} (hkd : KOk P k d) (hk : k ≠ .iface) (ms : Array (String × TypeId)) : d ≠ .interface ms := by
  cases hkd with
  | other ho => intro he; subst he; cases ho
  | iface ms' => exact absurd rfl hk
  | _ => intro he; cases he
theorem Qe (H : RelW ty φ E h w) {x : O} {x' : Value} {t : TypeId} {ti : TI} (T : TyOk P t ti) (hk : ti.k ≠ .iface)
    (hx : RelV φ (x e) x') (hr : JS t x F e h = .ok v h') : A8 ty φ E h w v h' ((Instr.makeInterface t x').run P w) := by
  unfold JS at hr; rw [A7] at hr; cases hr
  obtain ⟨d, hd, hkd⟩ := T.und
  have key : (Instr.makeInterface t x').run P w = .ok (.iface t x') w := by
    simp only [Instr.makeInterface, Sem.run_bind, run_underlying hd, Result.andThen_ok]
    cases d <;> first | rfl | exact absurd rfl (hkd.noIface hk _)
  rw [key]; exact .same H (.iface t hx)
theorem WY (H : RelW ty φ E h w) {t : TypeId} (hr : WX F e h = .ok v h') : A8 ty φ E h w v h' ((Instr.makeMap t none).run P w) := by
  unfold WX at hr
  obtain ⟨bl, hbl, hk⟩ := F2 hr
  cases hk
  let w' : World := { w with heap := w.heap.push (.map #[] 0) }
  have hs : w'.heap.size = w.heap.size + 1 := by simp [w']
  have hsame : ∀ k, k < w.heap.size → w'.heap[k]? = w.heap[k]? := fun k hk => by
    show (w.heap.push _)[k]? = _
    rw [Array.getElem?_push_lt hk, Array.getElem?_eq_getElem hk]
  refine ⟨.map (some w.heap.size), w', φ.put h.next { blk := w.heap.size, off := 0, sz := 0, room := 0, es := 1 }, rfl, .map (Phi.put_self _ _ _),
    H.new hbl (by omega) (by show w.heap.size < _; omega) (fun j q e _ => by have := (H.dom j q e).2; show _ ≠ w.heap.size; omega) (fun k hk _ => hsame k hk) ?_,
    .made H hbl (Nat.le_refl _) (by omega) hsame rfl rfl rfl⟩
  have : w'.heap[w.heap.size]? = some (.map #[] 0) := by show (w.heap.push _)[w.heap.size]? = _; simp
  rw [this]
  exact .map .nil
end
end
end Go.Proofs.YtfeldadhbnmklaaGreat
set_option linter.unusedSimpArgs false
set_option linter.unusedVariables false
namespace Go.Proofs.YtfeldadhbnmklaaGreat
noncomputable section
open Go
inductive RelO (φ : Phi) (e : Env) : Option O → Option Value → Prop
  | none : RelO φ e none none
  | some {o : O} {x : Value} (h : RelV φ (o e) x) : RelO φ e (some o) (some x)
section
variable {P : Program} {ty : TTy} {φ : Phi} {E : Nat → Prop} {h h' : Hp} {w : World} {F : CallF} {e : Env} {v : Value}
theorem Ep {o : O} {x : Value} (hx : RelV φ (o e) x) {d y : Nat} {k : Nat → R} (hr : DE e (some o) d y k = .ok v h') :
    ∃ n, n ≤ y ∧ k n = .ok v h' ∧ ∀ Y, n ≤ Y → ∀ code w, (Instr.sliceBound x Y code).run P w = .ok n w := by
  unfold DE at hr
  simp only at hr
  split at hr
  case h_2 => cases hr
  rename_i n hn
  obtain ⟨hb, hr⟩ := BM hr
  obtain ⟨k', rfl⟩ := DG hx hn
  refine ⟨n, Ap.1 hb, hr, fun Y hY code w => ?_⟩
  have h2 : (0 : Int) ≤ (n : Int) ∧ (n : Int) ≤ (Y : Int) := by omega
  simp only [Instr.sliceBound, asIntOf, Sem.run_bind, Sem.run_pure, Result.andThen_ok, h2, and_self, if_true, Int.toNat_natCast]
theorem Nq (d y : Nat) (k : Nat → R) : DE e none d y k = k d := rfl
theorem Fz {lo hi mx : Option O} {lo' hi' mx' : Option Value} (hl : RelO φ e lo lo') (hh : RelO φ e hi hi') (hm : RelO φ e mx mx') {len cap cap' : Nat} (hc : cap ≤ cap') (hlen : len ≤ cap)
    {k : Nat → Nat → Nat → R} (hr : E5 e len cap lo hi mx k = .ok v h') (s : Bool) :
    ∃ l b m, k l b m = .ok v h' ∧ l ≤ b ∧ b ≤ m ∧ m ≤ cap ∧ (mx.isSome = false → m = cap) ∧ ∀ w, (Instr.sliceBounds s len cap' lo' hi' mx').run P w = .ok (l, b, if mx.isSome then m else cap') w := by
  unfold E5 at hr
  cases hm with
  | none =>
    simp only at hr
    cases hh with
    | none =>
      rw [Nq] at hr
      cases hl with
      | none => exact ⟨0, len, cap, hr, Nat.zero_le _, hlen, Nat.le_refl _, fun _ => rfl, fun w => rfl⟩
      | some hl =>
        obtain ⟨l, h1, hk, hs⟩ := Ep (P := P) hl hr
        exact ⟨l, len, cap, hk, h1, hlen, Nat.le_refl _, fun _ => rfl, fun w => by
          simp only [Instr.sliceBounds, Sem.run_bind, Sem.run_pure, Result.andThen_ok, hs len h1]; rfl⟩
    | some hh =>
      obtain ⟨b, h2, hr, hs2⟩ := Ep (P := P) hh hr
      cases hl with
      | none => exact ⟨0, b, cap, hr, Nat.zero_le _, h2, Nat.le_refl _, fun _ => rfl, fun w => by
          simp only [Instr.sliceBounds, Sem.run_bind, Sem.run_pure, Result.andThen_ok, hs2 cap' (Nat.le_trans h2 hc)]; rfl⟩
      | some hl =>
        obtain ⟨l, h1, hk, hs⟩ := Ep (P := P) hl hr
        exact ⟨l, b, cap, hk, h1, h2, Nat.le_refl _, fun _ => rfl, fun w => by
          simp only [Instr.sliceBounds, Sem.run_bind, Sem.run_pure, Result.andThen_ok, hs2 cap' (Nat.le_trans h2 hc), hs b h1]; rfl⟩
  | some hm =>
    simp only at hr
    obtain ⟨m, h3, hr, hs3⟩ := Ep (P := P) hm hr
    cases hh with
    | none => cases hr
    | some hh =>
      simp only at hr
      obtain ⟨b, h2, hr, hs2⟩ := Ep (P := P) hh hr
      cases hl with
      | none => exact ⟨0, b, m, hr, Nat.zero_le _, h2, h3, fun h => (by cases h), fun w => by
          simp only [Instr.sliceBounds, Sem.run_bind, Sem.run_pure, Result.andThen_ok, hs3 cap' (Nat.le_trans h3 hc), hs2 m h2]; rfl⟩
      | some hl =>
        obtain ⟨l, h1, hk, hs⟩ := Ep (P := P) hl hr
        exact ⟨l, b, m, hk, h1, h2, h3, fun h => (by cases h), fun w => by
          simp only [Instr.sliceBounds, Sem.run_bind, Sem.run_pure, Result.andThen_ok, hs3 cap' (Nat.le_trans h3 hc), hs2 m h2, hs b h1]; rfl⟩
theorem RelS.le {a a' : Addr} {c c' : Nat} (h : RelS φ a c a' c') : c ≤ c' := by
  obtain ⟨_, _, p, _, _, h | h⟩ := h
  · rcases h.2.2 with h | h
    · exact Nat.le_of_eq h.symm
    · exact h.2.1
  · omega
theorem Gf (a : Option Addr) (size l b m : Nat) (h : Hp) :
    CQ a size l b m h = .ok (.slice (if m = l then a else a.map fun a => if l * size = 0 then a else ⟨a.block, a.off + l * size, none⟩) (b - l) (m - l)) h := by
  unfold CQ
  rw [Ao, Ao]
  by_cases hml : m = l
  · subst hml; rw [Nat.beq_refl, if_pos rfl]; rfl
  · have hb : Nat.beq m l = false := by
      cases hb : Nat.beq m l
      · rfl
      · exact absurd (AZ.1 hb) hml
    rw [hb, if_neg hml]
    cases a with
    | none => rfl
    | some a =>
      have e : Nat.mul l size = l * size := rfl
      rw [e]
      cases hm : l * size with
      | zero => rw [Option.map_some, if_pos rfl]; rfl
      | succ q => rw [Option.map_some, if_neg (Nat.succ_ne_zero q)]; simp only [Ao]; rfl
theorem VL {a a' : Addr} {c c' : Nat} (hs : RelS φ a c a' c') {size l b m : Nat} (hlb : l ≤ b) (hbm : b ≤ m) (hmc : m ≤ c) {mx : Bool} (hm : mx = false → m = c)
    (hfit : mx = false → 0 < l → ∀ p, φ a.block = some p → p.es = size ∨ (p.room = p.sz ∧ p.es = 1)) :
    RelV φ (.slice (if m = l then some a else (some a).map fun a => if l * size = 0 then a else ⟨a.block, a.off + l * size, none⟩) (b - l) (m - l))
      (.slice (if (if mx then m else c') = l then some a' else (some a').map (·.add (l * size))) (b - l) ((if mx then m else c') - l)) := by
  obtain ⟨s1, s2, p, hp, hb, hor⟩ := hs
  obtain ⟨ab, ao, asp⟩ := a
  obtain ⟨ab', ao', asp'⟩ := a'
  simp only at s1 s2 hp hb hor
  subst s1; subst s2; subst hb
  simp only [Option.map_some, Addr.add_is]
  have hle : m ≤ (if mx then m else c') := by
    cases mx
    · have := hm rfl
      simp only [Bool.false_eq_true, if_false]
      rcases hor with h | h
      · rcases h.2.2 with h | h <;> omega
      · omega
    · simp
  by_cases hml : m = l
  · rw [if_pos hml]
    by_cases hml' : (if mx then m else c') = l
    · rw [if_pos hml']
      refine .slice (by omega) ⟨rfl, rfl, p, hp, rfl, .inr ⟨by omega, .inl (by omega)⟩⟩
    · rw [if_neg hml']
      cases mx with
      | true => exact absurd hml hml'
      | false =>
        simp only [Bool.false_eq_true, if_false] at hml' hle ⊢
        have hmc' := hm rfl
        refine .slice (by omega) ⟨rfl, rfl, p, hp, rfl, .inr ⟨by omega, .inr ?_⟩⟩
        simp only
        rcases Nat.eq_zero_or_pos l with h0 | h0
        · subst h0
          simp only [Nat.zero_mul, Nat.add_zero, Nat.sub_zero]
          rcases hor with h | h
          · omega
          · rcases h.2 with h | h
            · omega
            · exact h
        · rcases hor with ⟨_, hoff, h | ⟨h1, h2, h3⟩⟩ | h
          · omega
          · rcases hfit rfl h0 p hp with he | ⟨hr1, hr2⟩
            · have hcl : c = l := by omega
              have hmul : (c' - l) * p.es + l * p.es = c' * p.es := by rw [← Nat.add_mul]; congr 1; omega
              subst hcl
              rw [← he]
              omega
            · rw [hr2] at h1 h3; omega
          · omega
  · have hne : ¬ ((if mx = true then m else c') = l) := by omega
    rw [if_neg hml, if_neg hne]
    have hpos : 0 < c := by omega
    rcases hor with ⟨_, hoff, hcap⟩ | h
    case inr => omega
    have hA : ∀ X : Addr, X = (if l * size = 0 then (⟨ab, ao, none⟩ : Addr) else ⟨ab, ao + l * size, none⟩) → X = ⟨ab, ao + l * size, none⟩ := by
      intro X hX; rw [hX]; split
      · rename_i h; rw [h]; rfl
      · rfl
    rw [hA _ rfl]
    refine .slice (by omega) ⟨rfl, rfl, p, hp, rfl, .inl ⟨by omega, by simp only; omega, ?_⟩⟩
    cases mx with
    | true => exact .inl rfl
    | false =>
      simp only [Bool.false_eq_true, if_false]
      have hmc' := hm rfl
      subst hmc'
      rcases hcap with h | ⟨h1, h2, h3⟩
      · exact .inl (by rw [h])
      · rcases Nat.eq_zero_or_pos l with h0 | h0
        · subst h0; refine .inr ?_; simp only [Nat.zero_mul, Nat.add_zero, Nat.sub_zero]; exact ⟨h1, h2, h3⟩
        · rcases hfit rfl h0 p hp with he | ⟨hr1, hr2⟩
          · refine .inr ?_
            have e1 : (m - l) * p.es + l * p.es = m * p.es := by rw [← Nat.add_mul]; congr 1; omega
            have e2 : (c' - l) * p.es + l * p.es = c' * p.es := by rw [← Nat.add_mul]; congr 1; omega
            rw [← he]
            omega
          · rw [hr2] at h1 h3; exact .inl (by omega)
theorem Va (H : RelW ty φ E h w) {el : Nat} {ei : TI} (hty : ty.get el = some ei) {a : Addr} (hf : GJ el (some a) h = true) : ∀ p, φ a.block = some p → p.es = ei.size ∨ (p.room = p.sz ∧ p.es = 1) := by
  intro p hp
  unfold GJ at hf
  simp only at hf
  split at hf
  · rename_i c s en hrow
    have hk := H.kind a.block p c s en hp (Cf hrow)
    rcases hk.2 with ⟨_, h1, h2, _⟩ | ⟨t, ti, h1, h2, h3⟩
    · exact .inr ⟨h1, h2⟩
    · subst h1
      have : t = el := AZ.1 hf
      subst this
      rw [hty] at h2; cases h2; exact .inl h3
  · cases hf
theorem WQ (H : RelW ty φ E h w) {x : O} {x' : Value} {t el : TypeId} {ti ei : TI} (T : TyOk P t ti) (hk : ti.k = .slice el) (hty : ty.get el = some ei) (TE : TyOk P el ei)
    {lo hi mx : Option O} {lo' hi' mx' : Option Value} (hx : RelV φ (x e) x') (hl : RelO φ e lo lo') (hh : RelO φ e hi hi') (hm : RelO φ e mx mx')
    (hr : EM el ei.size x lo hi mx F e h = .ok v h') : A8 ty φ E h w v h' ((Instr.sliceAt t x' lo' hi' mx').run P w) := by
  unfold EM at hr
  split at hr
  case h_2 => cases hr
  rename_i a n c hxe
  rw [hxe] at hx
  obtain ⟨d, hd, hkd⟩ := T.desc
  rw [hk] at hkd
  cases hkd
  cases hx with
  | slice0 =>
    · obtain ⟨l, b, m, hk2, h1, h2, h3, h4, hs⟩ := Fz (P := P) hl hh hm (Nat.le_refl 0) (Nat.le_refl 0) hr true
      have hcut : CQ none ei.size l b m h = .ok v h' := by
        unfold He at hk2
        split at hk2
        · exact hk2
        · split at hk2
          · exact hk2
          · exact (BM hk2).2
      rw [Gf] at hcut
      cases hcut
      have key : (Instr.sliceAt t (.slice none 0 0) lo' hi' mx').run P w = .ok (.slice none (b - l) (m - l)) w := by
        have hmm : (if mx.isSome then m else 0) = m := by
          split
          · rfl
          · rename_i hf; exact (h4 (by simpa using hf)).symm
        rw [hmm] at hs
        simp only [Instr.sliceAt, Instr.slice, Sem.run_bind, hd, Result.andThen_ok, hs, TE.size, Sem.run_pure, Option.map_none, ite_self]
      rw [key]
      simp only [Option.map_none, ite_self]
      have e1 : m = 0 := by omega
      have e2 : b = 0 := by omega
      have e3 : l = 0 := by omega
      subst e1; subst e2; subst e3
      exact .same H .slice0
  | @slice a a' _ _ c' hn hsl =>
    obtain ⟨l, b, m, hk2, h1, h2, h3, h4, hs⟩ := Fz (P := P) hl hh hm hsl.le hn hr true
    have hcut : CQ (some a) ei.size l b m h = .ok v h' ∧ (mx.isSome = false → 0 < l → ∀ p, φ a.block = some p → p.es = ei.size ∨ (p.room = p.sz ∧ p.es = 1)) := by
      unfold He at hk2
      split at hk2
      · rename_i hmx; exact ⟨hk2, fun hf => by rw [hmx] at hf; cases hf⟩
      · split at hk2
        · exact ⟨hk2, fun _ h0 => absurd h0 (Nat.lt_irrefl 0)⟩
        · obtain ⟨hf, hk2⟩ := BM hk2
          exact ⟨hk2, fun _ _ => Va H hty hf⟩
    obtain ⟨hcut, hfit⟩ := hcut
    rw [Gf] at hcut
    cases hcut
    have key : (Instr.sliceAt t (.slice (some a') n c') lo' hi' mx').run P w =
        .ok (.slice (if (if mx.isSome then m else c') = l then some a' else (some a').map (·.add (l * ei.size))) (b - l) ((if mx.isSome then m else c') - l)) w := by
      simp only [Instr.sliceAt, Instr.slice, Sem.run_bind, hd, Result.andThen_ok, hs, TE.size, Sem.run_pure]
    rw [key]
    exact .same H (VL hsl h1 h2 h3 h4 hfit)
end
end
end Go.Proofs.YtfeldadhbnmklaaGreat
set_option linter.unusedSimpArgs false
set_option linter.unusedVariables false
namespace Go.Proofs.YtfeldadhbnmklaaGreat
noncomputable section
open Go
theorem EV {α : Type} (xs : List α) : ∀ n, (A6 xs n).length = n * xs.length
  | 0 => by simp [A6]
  | n + 1 => by
    show (xs ++ A6 xs n).length = _
    rw [List.length_append, EV xs n, Nat.succ_mul, Nat.add_comm]
theorem NB {α : Type} (xs : List α) : ∀ n i, i < n * xs.length → (A6 xs n)[i]? = xs[i % xs.length]?
  | 0, i, h => by simp at h
  | n + 1, i, h => by
    show (xs ++ A6 xs n)[i]? = _
    rcases Nat.lt_or_ge i xs.length with hl | hl
    · rw [List.getElem?_append_left hl, Nat.mod_eq_of_lt hl]
    · have h2 : i - xs.length < n * xs.length := by rw [Nat.succ_mul] at h; omega
      rw [List.getElem?_append_right hl, NB xs n _ h2, ← Nat.mod_eq_sub_mod hl]
theorem Fq {φ : Phi} {l l' : List Value} (h : RelL φ l l') : ∀ n, RelL φ (A6 l n) (A6 l' n)
  | 0 => .nil
  | n + 1 => h.append (Fq h n)
theorem Jp (z : Array Value) (n : Nat) : ((Array.range (n * z.size)).map (fun i => z[i % z.size]!)) = ⟨A6 z.toList n⟩ := by
  apply Array.ext'
  apply List.ext_getElem?
  intro i
  simp only [Array.toList_map, List.getElem?_map, Array.toList_range]
  rcases Nat.lt_or_ge i (n * z.size) with h | h
  · have h1 : i < n * z.toList.length := by simpa using h
    rw [NB _ _ _ h1, List.getElem?_range h, Option.map_some]
    have h2 : 0 < z.size := by
      rcases Nat.eq_zero_or_pos z.size with h0 | h0
      · rw [h0] at h; simp at h
      · exact h0
    have h3 : i % z.size < z.size := Nat.mod_lt _ h2
    simp [h3]
  · rw [List.getElem?_eq_none (by simpa using h), List.getElem?_eq_none (by rw [EV]; simpa using h)]; rfl
theorem FQ (z : Array Value) (n : Nat) : Builtin.zeroCells z n = ⟨A6 z.toList n⟩ := Jp z n
theorem lay_is (cs : List Value) (off : Nat) (vs : List Value) : lay cs off vs = cs.take off ++ vs ++ cs.drop (off + vs.length) := by
  unfold lay; rw [Fs, Gs, BD]; rfl
theorem OJ {cs : List Value} {off : Nat} {vs : List Value} (h : off + vs.length ≤ cs.length) : (lay cs off vs).length = cs.length := by
  rw [lay_is]; simp; omega
theorem Vy {φ : Phi} {cs cs' vs vs' : List Value} (h : RelL φ cs cs') (hv : RelL φ vs vs') (off : Nat) : RelL φ (lay cs off vs) (lay cs' off vs') := by
  rw [lay_is, lay_is, hv.length]
  exact ((h.take off).append hv).append (h.drop _)
theorem KC (off : Nat) : ∀ (vs : List Value) (j : Nat) (cs : Array Value), off + j + vs.length ≤ cs.size →
    ((vs.zipIdx j).foldl (fun cs (c, j) => cs.setIfInBounds (off + j) c) cs).toList = lay cs.toList (off + j) vs
  | [], j, cs, h => by rw [lay_is]; simp
  | v :: vs, j, cs, h => by
    simp only [List.length_cons] at h
    rw [List.zipIdx_cons, List.foldl_cons]
    have := KC off vs (j + 1) (cs.setIfInBounds (off + j) v) (by simp; omega)
    rw [this, lay_is, lay_is]
    have hlt : off + j < cs.toList.length := by simp; omega
    rw [Array.toList_setIfInBounds, show off + (j + 1) = off + j + 1 by omega]
    rw [List.length_cons, List.take_set, List.drop_set_of_lt (by omega)]
    have e1 : (cs.toList.take (off + j + 1)).set (off + j) v = cs.toList.take (off + j) ++ [v] := by
      rw [List.take_succ_eq_append_getElem hlt, List.set_append_right _ _ (by simp; omega)]
      have : (off + j - (cs.toList.take (off + j)).length) = 0 := by simp; omega
      rw [this]; rfl
    rw [e1, show off + j + 1 + vs.length = off + j + (vs.length + 1) by omega]
    simp
section
variable {P : Program} {ty : TTy} {φ : Phi} {E : Nat → Prop} {h h' : Hp} {w : World} {F : CallF} {e : Env} {v : Value}
inductive RelP (φ : Phi) (e : Env) (place : Nat → Option (Nat × Nat)) : List (Nat × Nat × O) → List (Nat × Value) → Prop
  | nil : RelP φ e place [] []
  | cons {i off size : Nat} {o : O} {x : Value} {l : List (Nat × Nat × O)} {l' : List (Nat × Value)} (hp : place i = some (off, size)) (hx : RelV φ (o e) x) (t : RelP φ e place l l') :
      RelP φ e place ((off, size, o) :: l) ((i, x) :: l')
theorem Gu {place : Nat → Option (Nat × Nat)} {k : List Value → R} : ∀ {ps : List (Nat × Nat × O)} {ps' : List (Nat × Value)}, RelP φ e place ps ps' → ∀ {cs cs' : List Value}, RelL φ cs cs' →
    DQ cs e k ps = .ok v h' → ∃ r r', k r = .ok v h' ∧ RelL φ r r' ∧ r.length = cs.length ∧ Instr.fill place ⟨cs'⟩ ps' = some ⟨r'⟩
  | _, _, .nil, cs, cs', hc, hr => by
    unfold DQ at hr
    rw [CN] at hr
    exact ⟨cs, cs', hr, hc, rfl, rfl⟩
  | _, _, .cons (off := off) (size := size) (o := o) (x := x) hp hx t, cs, cs', hc, hr => by
    unfold DQ at hr
    rw [A7] at hr
    obtain ⟨hkn, hr⟩ := BM hr
    obtain ⟨hb1, hr⟩ := BM hr
    obtain ⟨hb2, hr⟩ := BM hr
    have hcl := Hd hx hkn
    have h1 := AZ.1 hb1
    have h2 := Ap.1 hb2
    rw [BD] at h1 h2
    have h3 := hcl.length
    have h4 := hc.length
    obtain ⟨r, r', hk, hrr, hlen, hf⟩ := Gu t (Vy hc hcl off) hr
    have h2' : off + size ≤ cs.length := h2
    have hsz : x.cells.size = size := by rw [← h1, ← h3]; simp
    refine ⟨r, r', hk, hrr, by rw [hlen, OJ (by omega)], ?_⟩
    rw [Instr.fill, hp]
    simp only
    rw [if_neg (by simp [hsz]; omega)]
    have hfold : (x.cells.zipIdx.foldl (fun cs (c, j) => cs.setIfInBounds (off + j) c) (⟨cs'⟩ : Array Value)) = ⟨lay cs' off x.cells.toList⟩ := by
      apply Array.ext'
      have := KC off x.cells.toList 0 ⟨cs'⟩ (by simp [hsz]; omega)
      rw [← Array.foldl_toList, Array.toList_zipIdx]
      exact this
    rw [hfold]
    exact hf
end
end
end Go.Proofs.YtfeldadhbnmklaaGreat
set_option linter.unusedSimpArgs false
set_option linter.unusedVariables false
namespace Go.Proofs.YtfeldadhbnmklaaGreat
noncomputable section
open Go
section
variable {P : Program} {ty : TTy} {φ : Phi} {E : Nat → Prop} {h h' : Hp} {w : World} {F : CallF} {e : Env} {v : Value}
theorem ON (H : RelW ty φ E h w) {t : TypeId} {ti : TI} (T : TyOk P t ti) {fs : List (Nat × Nat × Nat)} (hk : ti.k = .struct fs) (hz : ti.zero.length = ti.size)
    {ps : List (Nat × Nat × O)} {ps' : Array (Nat × Value)} (hp : RelP φ e (JY fs) ps ps'.toList)
    (hr : BA ti.zero ps F e h = .ok v h') : A8 ty φ E h w v h' ((Instr.build t ps').run P w) := by
  unfold BA at hr
  obtain ⟨z, _, hzr, hzc, hzp⟩ := T.zeroOk hz
  obtain ⟨r, r', hk2, hrr, hlen, hf⟩ := Gu hp (.plain hzp) hr
  cases hk2
  obtain ⟨d, hd, hkd⟩ := T.desc
  rw [hk] at hkd
  cases hkd with
  | @struct fs fields hfl hin =>
    have hmap : ∀ w, (fields.mapM (fun f => (do pure (f.offset, ← sizeOf f.type) : Sem (Nat × Nat)))).run P w = .ok (fields.map fun f => (f.offset, P.cellsOf f.type)) w := by
      intro w
      rw [← Array.toArray_toList (xs := fields), List.mapM_toArray, List.map_toArray]
      have : ∀ l : List Field, l.all (fun f => (P.info? f.type).isSome) = true → (l.mapM (fun f => (do pure (f.offset, ← sizeOf f.type) : Sem (Nat × Nat)))).run P w = .ok (l.map fun f => (f.offset, P.cellsOf f.type)) w := by
        intro l
        induction l with
        | nil => intro _; rfl
        | cons f l ih =>
          intro hall
          simp only [List.all_cons, Bool.and_eq_true] at hall
          obtain ⟨inf, hinf⟩ := Option.isSome_iff_exists.1 hall.1
          simp only [List.mapM_cons, Sem.run_bind, run_sizeOf w hinf, Result.andThen_ok, Sem.run_pure, ih hall.2, List.map_cons]
      simp only [Sem.run_map, this _ hin, Result.andThen_ok]
    have hplace : JY fs = fun i => (fields.map fun f => (f.offset, P.cellsOf f.type))[i]? := by
      funext i
      unfold JY
      rw [Ej, ← hfl, List.getElem?_map, Array.getElem?_map, ← Array.getElem?_toList]
      cases fields.toList[i]? <;> rfl
    rw [hplace] at hf
    have hz' : (⟨ti.zero⟩ : Array Value) = z.cells := by rw [← hzc]
    rw [hz'] at hf
    have key : (Instr.build t ps').run P w = .ok (.agg ⟨r'⟩) w := by
      simp only [Instr.build, Sem.run_bind, hzr, Result.andThen_ok, hd, hmap, hf, Sem.run_pure]
    rw [key]; exact .same H (.agg hrr)
theorem OM (H : RelW ty φ E h w) {t el : TypeId} {ti ei : TI} (T : TyOk P t ti) {n : Nat} (hk : ti.k = .arr n el) (TE : TyOk P el ei) (hz : ti.zero.length = ti.size)
    {ps : List (Nat × Nat × O)} {ps' : Array (Nat × Value)} (hp : RelP φ e (fun i => some (Nat.mul i ei.size, ei.size)) ps ps'.toList)
    (hr : BA ti.zero ps F e h = .ok v h') : A8 ty φ E h w v h' ((Instr.build t ps').run P w) := by
  unfold BA at hr
  obtain ⟨z, _, hzr, hzc, hzp⟩ := T.zeroOk hz
  obtain ⟨r, r', hk2, hrr, hlen, hf⟩ := Gu hp (.plain hzp) hr
  cases hk2
  obtain ⟨d, hd, hkd⟩ := T.desc
  rw [hk] at hkd
  cases hkd
  have hz' : (⟨ti.zero⟩ : Array Value) = z.cells := by rw [← hzc]
  rw [hz'] at hf
  have hf' : Instr.fill (fun i => some (i * ei.size, ei.size)) z.cells ps'.toList = some ⟨r'⟩ := hf
  have key : (Instr.build t ps').run P w = .ok (.agg ⟨r'⟩) w := by
    simp only [Instr.build, Sem.run_bind, hzr, Result.andThen_ok, hd, TE.size, hf', Sem.run_pure]
  rw [key]; exact .same H (.agg hrr)
theorem Pt {ψ : Phi} {n s l c : Nat} {p : Pl} (hp : ψ n = some p) (ho : p.off = 0) (hl : l ≤ c) (hc : c = 0 ∨ 0 < c) : RelV ψ (.slice (some ⟨n, 0, none⟩) l c) (.slice (some ⟨p.blk, 0, none⟩) l c) := by
  refine .slice hl ⟨rfl, rfl, p, hp, rfl, ?_⟩
  rcases hc with h | h
  · exact .inr ⟨h, .inl h⟩
  · exact .inl ⟨h, by simp [ho], .inl rfl⟩
theorem JQ (H : RelW ty φ E h w) {t el : TypeId} {ti ei : TI} (T : TyOk P t ti) (hk : ti.k = .slice el) (TE : TyOk P el ei) (hz : ei.zero.length = ei.size)
    {len : Nat} (hlen : len * ei.size ≤ 16777216) {ps : List (Nat × Nat × O)} {ps' : Array (Nat × Value)} (hp : RelP φ e (fun i => some (Nat.mul i ei.size, ei.size)) ps ps'.toList)
    (hr : AX len (A6 ei.zero len) ps F e h = .ok v h') : A8 ty φ E h w v h' ((Instr.buildSlice t len ps').run P w) := by
  unfold AX at hr
  obtain ⟨z, _, hzr, hzc, hzp⟩ := TE.zeroOk hz
  obtain ⟨r, r', hk2, hrr, hlr, hf⟩ := Gu hp (Fq (.plain hzp) len) hr
  obtain ⟨h1, ψ, hk3, hps, H1, ev⟩ := FD H hk2 hrr el
  cases hk3
  obtain ⟨d, hd, hkd⟩ := T.desc
  rw [hk] at hkd
  cases hkd
  have hzs : z.cells.size = ei.size := by rw [← hz, ← hzc]; simp
  have hf' : Instr.fill (fun i => some (i * ei.size, ei.size)) ⟨A6 ei.zero len⟩ ps'.toList = some ⟨r'⟩ := hf
  have hcells : (Array.range (len * ei.size)).map (fun i => z.cells[i % z.cells.size]!) = ⟨A6 ei.zero len⟩ := by
    rw [← hzc, ← hzs]; exact Jp z.cells len
  have hng : ¬ (len * ei.size > 2 ^ 24) := by omega
  have key : (Instr.buildSlice t len ps').run P w = .ok (.slice (some ⟨w.heap.size, 0, none⟩) len len) { w with heap := w.heap.push (.cells ⟨r'⟩ el) } := by
    by_cases h0 : len * ei.size = 0
    · have : (Array.range (len * ei.size)).map (fun i => (#[] : Array Value)[i % (#[] : Array Value).size]!) = ⟨A6 ei.zero len⟩ := by
        rw [← hcells, h0]; simp
      simp only [Instr.buildSlice, Sem.run_bind, hd, Result.andThen_ok, TE.size, hng, h0, if_false, if_true, Sem.run_pure, Nat.not_lt_zero, gt_iff_lt]
      rw [h0] at this
      simp only [this, hf', Go.newRow, Sem.run_bind, run_newObj, Result.andThen_ok, Sem.run_pure]
    · simp only [Instr.buildSlice, Sem.run_bind, hd, Result.andThen_ok, TE.size, hng, h0, if_false, hzr, Sem.run_pure, hcells, hf', Go.newRow, run_newObj]
  rw [key]
  exact ⟨_, _, ψ, rfl, Pt (s := 0) hps rfl (Nat.le_refl _) (Nat.eq_zero_or_pos _), H1, ev⟩
theorem HS {n : Nat} (h : n ≤ 9223372036854775807) : IntKind.i64.wrap (n : Int) = n := Cc .i64 n h
theorem V3 : most = 1099511627776 := rfl
theorem LF {c b : Nat} (h : Nat.ble (Nat.mul (Nat.succ c) (Nat.succ b)) most = true) : c ≤ 1099511627776 ∧ (c + 1) * (b + 1) ≤ 1099511627776 := by
  have h1 := Ap.1 h
  rw [V3] at h1
  have h2 : (c + 1) * (b + 1) ≤ 1099511627776 := h1
  refine ⟨?_, h2⟩
  have : c + 1 ≤ (c + 1) * (b + 1) := Nat.le_mul_of_pos_right _ (by omega)
  omega
theorem Sz (H : RelW ty φ E h w) {t el : TypeId} {ti ei : TI} (T : TyOk P t ti) (hk : ti.k = .slice el) (TE : TyOk P el ei) (hz : ei.zero.length = ei.size)
    {l c : O} {l' c' : Value} (hl : RelV φ (l e) l') (hc : RelV φ (c e) c') (hr : GL ei.bytes ei.zero l c F e h = .ok v h') : A8 ty φ E h w v h' ((Instr.makeSlice t l' c').run P w) := by
  unfold GL Sa at hr
  split at hr
  case h_2 => cases hr
  rename_i a h1
  split at hr
  case h_2 => cases hr
  rename_i b h2
  obtain ⟨k1, rfl⟩ := DG hl h1
  obtain ⟨k2, rfl⟩ := DG hc h2
  obtain ⟨hb1, hr⟩ := BM hr
  obtain ⟨hb2, hr⟩ := BM hr
  have hle := Ap.1 hb1
  obtain ⟨hm1, hm2⟩ := LF hb2
  obtain ⟨z, _, hzr, hzc, hzp⟩ := TE.zeroOk hz
  have hzs : z.cells.size = ei.size := by rw [← hz, ← hzc]; simp
  have hrel : RelL φ (A6 ei.zero b) (A6 ei.zero b) := Fq (.plain hzp) b
  obtain ⟨h1', ψ, hk3, hps, H1, ev⟩ := FD H hr hrel el
  cases hk3
  obtain ⟨d, hd, hkd⟩ := T.desc
  rw [hk] at hkd
  cases hkd
  obtain ⟨inf, hinf, hs, hbt, _⟩ := TE.info
  have hcells : (Array.range (b * ei.size)).map (fun i => z.cells[i % z.cells.size]!) = ⟨A6 ei.zero b⟩ := by
    rw [← hzc, ← hzs]; exact Jp z.cells b
  have w1 : IntKind.i64.wrap (a : Int) = a := HS (by omega)
  have w2 : IntKind.i64.wrap (b : Int) = b := HS (by omega)
  have hbytes : ¬ ((ei.bytes : Int) * (b : Int) > 2 ^ 48) := by
    have : ei.bytes * b ≤ (b + 1) * (ei.bytes + 1) := by rw [Nat.mul_comm]; exact Nat.mul_le_mul (by omega) (by omega)
    have h3 : ((ei.bytes * b : Nat) : Int) ≤ 1099511627776 := by omega
    rw [← Int.natCast_mul]
    omega
  have hcond : ((decide ((b : Int) < 0) || decide ((ei.bytes : Int) * (b : Int) > 2 ^ 48)) || decide ((a : Int) < 0) || decide ((a : Int) > (b : Int))) = false := by
    simp only [Bool.or_eq_false_iff, decide_eq_false_iff_not]
    refine ⟨⟨⟨by omega, hbytes⟩, by omega⟩, by omega⟩
  have key : (Instr.makeSlice t (.int k1 (a : Nat)) (.int k2 (b : Nat))).run P w = .ok (.slice (some ⟨w.heap.size, 0, none⟩) a b) { w with heap := w.heap.push (.cells ⟨A6 ei.zero b⟩ el) } := by
    by_cases h0 : b * ei.size = 0
    · have e0 : (Array.range (b * ei.size)).map (fun i => (#[] : Array Value)[i % (#[] : Array Value).size]!) = ⟨A6 ei.zero b⟩ := by
        rw [← hcells, h0]; simp
      rw [h0] at e0
      simp only [Instr.makeSlice, Sem.run_bind, hd, Result.andThen_ok, asInt, asIntOf, Sem.run_pure, run_typeInfo _ hinf, hbt, w1, w2, hcond, Bool.false_eq_true, if_false, run_askRoom, Int.toNat_natCast, TE.size, h0, if_true, e0, Go.newRow, run_newObj, Sem.run_ite]
    · simp only [Instr.makeSlice, Sem.run_bind, hd, Result.andThen_ok, asInt, asIntOf, Sem.run_pure, run_typeInfo _ hinf, hbt, w1, w2, hcond, Bool.false_eq_true, if_false, run_askRoom, Int.toNat_natCast, TE.size, h0, hzr, hcells, Go.newRow, run_newObj, Sem.run_ite]
  rw [key]
  exact ⟨_, _, ψ, rfl, Pt (s := 0) hps rfl hle (Nat.eq_zero_or_pos _), H1, ev⟩
end
end
end Go.Proofs.YtfeldadhbnmklaaGreat
set_option linter.unusedSimpArgs false
set_option linter.unusedVariables false
namespace Go.Proofs.YtfeldadhbnmklaaGreat
noncomputable section
open Go
section
variable {P : Program} {ty : TTy} {φ : Phi} {E : Nat → Prop} {h h' : Hp} {w : World} {F : CallF} {e : Env} {v : Value}
theorem OP (H : RelW ty φ E h w) {x : O} {x' : Value} {t el : TypeId} {ti ei : TI} (T : TyOk P t ti) {n : Nat} (hk : ti.k = .arr n el) (TE : TyOk P el ei)
    {lo hi mx : Option O} {lo' hi' mx' : Option Value} (hx : RelV φ (x e) x') (hl : RelO φ e lo lo') (hh : RelO φ e hi hi') (hm : RelO φ e mx mx')
    (hr : F5 n ei.size x lo hi mx F e h = .ok v h') : A8 ty φ E h w v h' ((Instr.sliceAt t x' lo' hi' mx').run P w) := by
  unfold F5 at hr
  split at hr
  case h_2 => cases hr
  rename_i a ha
  obtain ⟨a', rfl, hra⟩ := EN hx ha
  obtain ⟨d, hd, hkd⟩ := T.desc
  rw [hk] at hkd
  cases hkd
  obtain ⟨l, b, m, hk2, h1, h2, h3, h4, hs⟩ := Fz (P := P) hl hh hm (Nat.le_refl n) (Nat.le_refl n) hr false
  have hmm : (if mx.isSome then m else n) = m := by
    split
    · rfl
    · rename_i hf; exact (h4 (by simpa using hf)).symm
  rw [hmm] at hs
  rw [Gf] at hk2
  cases hk2
  have key : (Instr.sliceAt t (.pointer (some a')) lo' hi' mx').run P w = .ok (.slice (some (if m = l then a' else a'.add (l * ei.size))) (b - l) (m - l)) w := by
    simp only [Instr.sliceAt, Sem.run_bind, hd, Result.andThen_ok, Ey, hs, TE.size, Sem.run_pure]
  rw [key]
  refine .same H ?_
  have s1 := hra.1
  obtain ⟨p, hp, rfl⟩ := hra.eq
  obtain ⟨ab, ao, asp⟩ := a
  simp only at s1 hp
  subst s1
  simp only [Addr.add_is, Option.map_some]
  by_cases hml : m = l
  · rw [if_pos hml, if_pos hml]
    exact .slice (by omega) ⟨rfl, rfl, p, hp, rfl, .inr ⟨by omega, .inl (by omega)⟩⟩
  · rw [if_neg hml, if_neg hml]
    have hA : (if l * ei.size = 0 then (⟨ab, ao, none⟩ : Addr) else ⟨ab, ao + l * ei.size, none⟩) = ⟨ab, ao + l * ei.size, none⟩ := by
      split
      · rename_i h; rw [h]; rfl
      · rfl
    rw [hA]
    exact .slice (by omega) ⟨rfl, rfl, p, hp, rfl, .inl ⟨by omega, by simp only; omega, .inl rfl⟩⟩
theorem OR (H : RelW ty φ E h w) {x : O} {x' : Value} {t : TypeId} {ti : TI} (T : TyOk P t ti) (hk : ti.k = .string) {lo hi : Option O} {lo' hi' : Option Value} (hx : RelV φ (x e) x')
    (hl : RelO φ e lo lo') (hh : RelO φ e hi hi') (hr : F6 x lo hi F e h = .ok v h') : A8 ty φ E h w v h' ((Instr.sliceAt t x' lo' hi' none).run P w) := by
  unfold F6 at hr
  split at hr
  case h_2 => cases hr
  rename_i s hxe
  rw [hxe] at hx
  obtain rfl := hx.string_inv
  obtain ⟨d, hd, hkd⟩ := T.desc
  rw [hk] at hkd
  cases hkd
  obtain ⟨l, b, m, hk2, h1, h2, h3, h4, hs⟩ := Fz (P := P) hl hh .none (Nat.le_refl _) (Nat.le_refl _) hr false
  cases hk2
  have e1 : BR s.data.toList = s.size := BD _
  rw [e1] at hs h3
  have key : (Instr.sliceAt t (.string s) lo' hi' none).run P w = .ok (.string (s.extract l b)) w := by
    simp only [Instr.sliceAt, Instr.slice, Sem.run_bind, hd, Result.andThen_ok, Option.isSome_none, Bool.false_eq_true, if_false, Sem.run_pure, hs]
  rw [key, ← Fb (a := s.extract l b) (l := IC (Nat.sub b l) (I0 l s.data.toList)) (by
    rw [Fs, Gs]; simp [List.extract_eq_take_drop])]
  exact .same H (.string _)
theorem S6 (H : RelW ty φ E h w) {x : O} {x' : Value} (hx : RelV φ (x e) x') (hr : Mq x F e h = .ok v h') : ∃ s, x' = .string s ∧ A8 ty φ E h w v h' (.ok x' w) := by
  unfold Mq at hr
  split at hr
  case h_2 => cases hr
  rename_i s hxe
  rw [hxe] at hx
  cases hr
  obtain rfl := hx.string_inv
  exact ⟨s, rfl, .same H hx⟩
theorem Ss (H : RelW ty φ E h w) {fn : Fn} {f c : List O} {f' c' : List Value} (hf : RelL φ (vals e f) f') (hc : RelL φ (vals e c) c') (hr : D6 fn f c F e h = .ok v h') :
    A8 ty φ E h w v h' (.ok (.func fn ⟨f'⟩ ⟨c'⟩) w) := by
  unfold D6 at hr; rw [CN, CN] at hr; cases hr; exact .same H (.func fn hf hc)
theorem WF (H : RelW ty φ E h w) {x : O} {x' : Value} {t el : TypeId} {ti : TI} (T : TyOk P t ti) {n : Nat} (hk : ti.k = .arr n el) (hn : 0 < n) (hx : RelV φ (x e) x')
    (hr : QV n x F e h = .ok v h') : A8 ty φ E h w v h' ((Instr.arrayAt t x').run P w) := by
  unfold QV at hr
  split at hr
  case h_2 => cases hr
  rename_i a l c hxe
  rw [hxe] at hx
  obtain ⟨hb, hr⟩ := BM hr
  cases hr
  have hb := Ap.1 hb
  obtain ⟨d, hd, hkd⟩ := T.desc
  rw [hk] at hkd
  cases hkd
  cases hx with
  | @slice _ a' _ _ c' hlc hs =>
    have key : (Instr.arrayAt t (.slice (some a') l c')).run P w = .ok (.pointer (some a')) w := by
      simp only [Instr.arrayAt, Sem.run_bind, hd, Result.andThen_ok, Nat.not_lt.2 hb, if_false, Sem.run_pure]
    rw [key]; exact .same H (.ptr (Hu hlc hs (by omega)))
theorem KW (H : RelW ty φ E h w) {lt : Bool} {x y : O} {x' y' : Value} (hx : RelV φ (x e) x') (hy : RelV φ (y e) y') (hr : GZ lt (x e) (y e) h = .ok v h') :
    ∃ k q m n, x' = .int k m ∧ y' = .int q n ∧ h' = h ∧ v = .int k (if (if lt then n < m else m < n) then n else m) := by
  unfold GZ at hr
  split at hr
  case h_2 => cases hr
  rename_i k m hxe
  split at hr
  case h_2 => cases hr
  rename_i n hye
  obtain ⟨q, hq⟩ := PV hye
  rw [hxe] at hx; rw [hq] at hy
  refine ⟨k, q, m, n, hx.int_inv, hy.int_inv, ?_⟩
  cases lt
  · simp only [cond_false] at hr
    cases hb : iLt m n with
    | false =>
      rw [hb] at hr; cases hr
      rw [CM] at hb
      have := of_decide_eq_false hb
      refine ⟨rfl, ?_⟩
      simp [this]
    | true =>
      rw [hb] at hr; cases hr
      rw [CM] at hb
      have := of_decide_eq_true hb
      refine ⟨rfl, ?_⟩
      simp [this]
  · simp only [cond_true] at hr
    cases hb : iLt n m with
    | false =>
      rw [hb] at hr; cases hr
      rw [CM] at hb
      have := of_decide_eq_false hb
      refine ⟨rfl, ?_⟩
      simp [this]
    | true =>
      rw [hb] at hr; cases hr
      rw [CM] at hb
      have := of_decide_eq_true hb
      refine ⟨rfl, ?_⟩
      simp [this]
theorem Wd (H : RelW ty φ E h w) {x y : O} {x' y' : Value} {ats : Array TypeId} {t : TypeId} (hx : RelV φ (x e) x') (hy : RelV φ (y e) y') (hr : II x y F e h = .ok v h') :
    A8 ty φ E h w v h' ((Builtin.min_ ats t #[x', y']).run P w) := by
  obtain ⟨k, q, m, n, rfl, rfl, rfl, rfl⟩ := KW H hx hy hr
  exact .same H (.int _ _)
theorem Wb (H : RelW ty φ E h w) {x y : O} {x' y' : Value} {ats : Array TypeId} {t : TypeId} (hx : RelV φ (x e) x') (hy : RelV φ (y e) y') (hr : WZ x y F e h = .ok v h') :
    A8 ty φ E h w v h' ((Builtin.max_ ats t #[x', y']).run P w) := by
  obtain ⟨k, q, m, n, rfl, rfl, rfl, rfl⟩ := KW H hx hy hr
  exact .same H (.int _ _)
theorem Di : ∀ l : List UInt8, Bk l = l.map fun b => .int .u8 (b.toNat : Int)
  | [] => rfl
  | b :: l => by unfold Bk; rw [Ao, Di l]; rfl
theorem Hz (l : List UInt8) : RelL φ (Bk l) (l.map fun b => .int .u8 (b.toNat : Int)) := by
  rw [Di]
  induction l with
  | nil => exact .nil
  | cons b l ih => exact .cons (.int _ _) ih
theorem EZ (H : RelW ty φ E h w) {size n : Nat} {x x' : Value} (hE : ∀ a l c, x = .slice (some a) l c → ¬ E a.block) (hx : RelV φ x x') {k : List Value → R} (hr : BX h size x n k = .ok v h')
    (hn : ∀ m, lenV x = .ok m → n ≤ m) :
    ∃ cs cs' : List Value, k cs = .ok v h' ∧ RelL φ cs cs' ∧ (∀ w' : World, w'.heap = w.heap → (Builtin.firstCells size n x').run P w' = .ok ⟨cs'⟩ w') ∧ (∀ a l c, x' = .slice (some a) l c → cs'.length = n * size) ∧ (∀ s, x' = .string s → cs'.length = n ∧ size = 1) ∧
      (∀ a l c, x = .slice (some a) l c → 0 < c → ∃ p cs t fr, φ a.block = some p ∧ w.heap[p.blk]? = some (.cells cs t fr) ∧ ∀ (j : Nat) (u : Value), cs'[j]? = some u → cs[p.off + a.off + j]? = some u) := by
  unfold BX at hr
  split at hr
  · cases hx
    exact ⟨[], [], hr, .nil, (fun _ _ => rfl), (fun _ _ _ h => by cases h), (fun _ h => by cases h), (fun _ _ _ h => by cases h)⟩
  · rename_i a l c
    split at hr
    case h_2 => cases hr
    rename_i ct s en hrow
    obtain ⟨hb, hr⟩ := BM hr
    rw [E9, List.append_nil] at hr
    cases hx with
    | @slice _ a' _ _ c' hlc hs =>
      rcases Nat.eq_zero_or_pos c with h0 | h0
      · have hl0 : l = 0 := by omega
        have hn0 : n = 0 := by have := hn l rfl; omega
        subst hn0
        refine ⟨_, [], hr, by simp [rowL]; exact .nil, fun w' _ => ?_, (fun _ _ _ h => by simp), (fun _ h => by cases h), (fun _ _ _ h hpos => by cases h; omega)⟩
        simp only [Builtin.firstCells, Nat.zero_mul]; rfl
      · obtain ⟨s1, s2, p, hp, hbl, hor⟩ := hs
        have ha : RelA φ a a' := by
          rcases hor with h | h
          · exact ⟨s1, s2, p, hp, hbl, h.2.1⟩
          · omega
        obtain ⟨cs', hcs, hlen, hrun, hcell⟩ := MV (P := P) H ha (hE _ _ _ rfl) hrow (Ap.1 hb)
        exact ⟨_, cs', hr, hcs, hrun, (fun _ _ _ _ => hlen), (fun _ h => by cases h), (fun _ _ _ h _ => by cases h; exact hcell)⟩
  · rename_i s
    obtain rfl := hx.string_inv
    have hn' : n ≤ s.data.toList.length := by
      have := hn (BR s.data.toList) rfl
      rwa [BD] at this
    obtain ⟨hone, hr⟩ := BM hr
    rw [Fs] at hr
    refine ⟨_, _, hr, Hz _, fun w' _ => ?_, (fun _ _ _ h => by cases h), (fun _ _ => ⟨by simp only [List.length_map, List.length_take]; omega, AZ.1 hone⟩), (fun _ _ _ h => by cases h)⟩
    simp only [Builtin.firstCells, Sem.run_pure]
    congr 1
    apply Array.ext'
    simp [List.extract_eq_take_drop]
  · cases hr
theorem MS {x x' : Value} (hx : RelV φ x x') {n : Nat} (h : lenV x = .ok n) : (Builtin.lenOf x').run P w = .ok n w := by
  unfold lenV at h
  split at h
  · cases h; cases hx <;> rfl
  · cases h
    obtain rfl := hx.string_inv
    simp only [Builtin.lenOf, Sem.run_pure, BD]; rfl
  · cases h
theorem So (H : RelW ty φ E h w) (hE : ∀ b, ¬ E b) {d x : O} {d' x' : Value} {ats : Array TypeId} {dt t el : TypeId} (h0 : ats[0]? = some dt) {ti ei : TI} (T : TyOk P dt ti) (hk : ti.k = .slice el) (TE : TyOk P el ei)
    (hd : RelV φ (d e) d') (hx : RelV φ (x e) x') (hr : G6 ei.size d x F e h = .ok v h') : A8 ty φ E h w v h' ((Builtin.copy_ ats t #[d', x']).run P w) := by
  unfold G6 Ru at hr
  split at hr
  case h_2 => cases hr
  rename_i base dl dc hde
  rw [hde] at hd
  split at hr
  case h_2 => cases hr
  rename_i xl hxl
  rw [Ao, BU] at hr
  obtain ⟨cs, cs', hr, hcs, hrun0, hl1, hl2, _⟩ := EZ (P := P) H (fun _ _ _ _ => hE _) hx hr (fun m hm => by rw [hxl] at hm; cases hm; exact Nat.min_le_left _ _)
  have hrun := hrun0 w rfl
  obtain ⟨dd, hdd, hkd⟩ := T.desc
  rw [hk] at hkd
  cases hkd
  have hlen := MS (P := P) (w := w) hx hxl
  split at hr
  · cases hr
    cases hd
    have key : (Builtin.copy_ ats t #[.slice none 0 0, x']).run P w = .ok (goInt ((min xl 0 : Nat) : Int)) w := by
      simp only [Builtin.copy_, h0, Sem.run_bind, hdd, Result.andThen_ok, hlen, TE.size, Sem.run_pure, List.getElem?_toArray, List.getElem?_cons_zero, List.getElem?_cons_succ]
      have : Nat.min xl 0 = min xl 0 := rfl
      rw [this, hrun]; rfl
    rw [key]; exact .same H (.int _ _)
  · rename_i a hr0
    cases hd with
    | @slice _ a' _ _ dc' hlc hs =>
      have hstore : ∃ h1 w1, (.ok (.int .i64 (.ofNat (min xl dl))) h1 : R) = .ok v h' ∧ (storeCells a' cs').run P w = .ok () w1 ∧ RelW ty φ E h1 w1 ∧ Evo φ h w φ h1 w1 := by
        rcases Nat.eq_zero_or_pos dc with h0 | h0
        · have hdl : dl = 0 := by omega
          subst hdl
          have hcs0 : cs' = [] := by
            have hz : min xl 0 = 0 := Nat.min_zero _
            rw [hz] at hrun hl1 hl2
            cases x' <;> first | (simp only [Builtin.firstCells] at hrun; cases hrun; done) | skip
            · exact List.length_eq_zero_iff.1 (hl2 _ rfl).1
            · rename_i sa sl scap
              cases sa with
              | none => simp only [Builtin.firstCells, Sem.run_pure] at hrun; cases hrun; rfl
              | some sa => exact List.length_eq_zero_iff.1 (by have := hl1 sa sl scap rfl; simpa using this)
          subst hcs0
          have : cs = [] := by cases hcs; rfl
          subst this
          unfold Ci at hr
          split at hr
          case h_2 => cases hr
          rename_i ct s en hrow
          obtain ⟨_, hr⟩ := BM hr
          obtain ⟨_, hr⟩ := BM hr
          simp only [CH] at hr
          obtain ⟨bl, h256, hbl, hk2⟩ := Dx hr
          obtain ⟨_, _, p, hp, _, _⟩ := hs
          have hold := H.row a.block p hp (hE _)
          have hrow' := Cf hrow
          rw [hrow'] at hold
          have hlive : Live h a.block := by unfold Live; rw [hrow']; intro hd; cases hd
          exact ⟨_, w, hk2, rfl, H.put (hE _) h256 hp hlive hbl rfl (fun _ _ => rfl) hold, .put (H.notInp hp h256) hp hlive hbl (by rw [Cf hrow]; exact .inr ⟨rfl, rfl⟩) rfl (fun _ _ => rfl) rfl rfl rfl⟩
        · obtain ⟨s1, s2, p, hp, hbl, hor⟩ := hs
          have ha : RelA φ a a' := by
            rcases hor with h | h
            · exact ⟨s1, s2, p, hp, hbl, h.2.1⟩
            · omega
          exact GB (P := P) H hr ha hcs (hE _)
      obtain ⟨h1, w1, hk2, hrun2, H1, ev⟩ := hstore
      cases hk2
      have key : (Builtin.copy_ ats t #[.slice (some a') dl dc', x']).run P w = .ok (goInt ((min xl dl : Nat) : Int)) w1 := by
        simp only [Builtin.copy_, h0, Sem.run_bind, hdd, Result.andThen_ok, hlen, TE.size, Sem.run_pure, List.getElem?_toArray, List.getElem?_cons_zero, List.getElem?_cons_succ]
        have : Nat.min xl dl = min xl dl := rfl
        rw [this, hrun]
        simp only [Result.andThen_ok, hrun2, Sem.run_bind, Sem.run_pure]
      rw [key]
      exact ⟨_, _, φ, rfl, .int _ _, H1, ev⟩
end
end
end Go.Proofs.YtfeldadhbnmklaaGreat
set_option linter.unusedSimpArgs false
set_option linter.unusedVariables false
namespace Go.Proofs.YtfeldadhbnmklaaGreat
noncomputable section
open Go
section
variable {P : Program} {ty : TTy} {φ : Phi} {E : Nat → Prop} {h h' : Hp} {w : World} {F : CallF} {e : Env} {v : Value}
theorem RelW.of_heap (H : RelW ty φ E h w) {w' : World} (hw : w'.heap = w.heap) : RelW ty φ E h w' where
  dom := by rw [hw]; exact H.dom
  inj := H.inj
  row := by rw [hw]; exact H.row
  fresh := H.fresh
  kind := H.kind
  inp := H.inp
theorem Qz (H : RelW ty φ E h w) (hE : ∀ b, ¬ E b) {a a' : Addr} {c c' o : Nat} {vs vs' : List Value} {k : Hp → R} (hs : RelS φ a c a' c') (h0 : c = 0 → vs = [])
    (hr : Ci (E3 a o) vs h k = .ok v h') (hv : RelL φ vs vs') :
    ∃ h1 w1, k h1 = .ok v h' ∧ (storeCells (a'.add o) vs').run P w = .ok () w1 ∧ RelW ty φ E h1 w1 ∧ Evo φ h w φ h1 w1 := by
  obtain ⟨s1, s2, p, hp, hbl, hor⟩ := hs
  have hblk : (E3 a o).block = a.block := by unfold E3; split <;> rfl
  rcases Nat.eq_zero_or_pos c with hc | hc
  · have := h0 hc
    subst this
    have : vs' = [] := by cases hv; rfl
    subst this
    unfold Ci at hr
    split at hr
    case h_2 => cases hr
    rename_i ct s en hrow
    obtain ⟨_, hr⟩ := BM hr
    obtain ⟨_, hr⟩ := BM hr
    simp only [CH] at hr
    obtain ⟨bl, h256, hbl2, hk2⟩ := Dx hr
    rw [hblk] at hrow hbl2 hk2 h256
    have hold := H.row a.block p hp (hE _)
    have hrow' := Cf hrow
    rw [hrow'] at hold
    have hlive : Live h a.block := by unfold Live; rw [hrow']; intro hd; cases hd
    exact ⟨_, w, hk2, rfl, H.put (hE _) h256 hp hlive hbl2 rfl (fun _ _ => rfl) hold, .put (H.notInp hp h256) hp hlive hbl2 (by rw [Cf hrow]; exact .inr ⟨rfl, rfl⟩) rfl (fun _ _ => rfl) rfl rfl rfl⟩
  · have hoff : a'.off = p.off + a.off := by
      rcases hor with h | h
      · exact h.2.1
      · omega
    obtain ⟨ab', ao', asp'⟩ := a'
    obtain ⟨ab, ao, asp⟩ := a
    simp only at s1 s2 hp hbl hoff
    subst s1; subst s2; subst hbl; subst hoff
    have hadd : E3 ⟨ab, ao, none⟩ o = ⟨ab, ao + o, none⟩ := by
      unfold E3
      cases o <;> rfl
    rw [hadd] at hr
    rw [Addr.add_is]
    refine GB (P := P) H hr ⟨rfl, rfl, p, hp, rfl, ?_⟩ hv (hE _)
    show p.off + ao + o = p.off + (ao + o)
    omega
theorem KF (N : Nat) : ∀ (r c : Nat), c < N → Builtin.growBy N r c ≤ 2 * N + 192
  | 0, c, h => by unfold Builtin.growBy; omega
  | r + 1, c, h => by
    unfold Builtin.growBy
    split
    · omega
    · rcases Nat.lt_or_ge (c + (c + 768) / 4) N with h2 | h2
      · exact KF N r _ h2
      · cases r with
        | zero => unfold Builtin.growBy; omega
        | succ r => unfold Builtin.growBy; rw [if_pos h2]; omega
theorem V7 {need cap : Nat} (h : cap < need) : Builtin.nextslicecap need cap ≤ 2 * need + 192 := by
  unfold Builtin.nextslicecap
  split
  · omega
  · split
    · omega
    · exact KF need 4 cap h
theorem I8 (H : RelW ty φ E h w) {en : Nat} {ei : TI} (hty : ty.get en = some ei) {need c : Nat} (hneed : 0 < need) (hc : need ≤ c) {cs cs' rest : List Value} (hrel : RelL φ cs cs') (hlen : cs.length = need * ei.size)
    (hrest : rest.length = (c - need) * ei.size) {w' : World} (hw' : w'.heap = w.heap.push (.cells ⟨cs' ++ rest⟩ en)) (ht : w'.tape = w.tape) (ho : w'.os = w.os) (hout : w'.output = w.output)
    {t : VT} {n : Nat} (hT : ∀ j, j < cs.length → t.get j = cs.getD j undef) (hN : n = cs.length) (hr : CJ h (Nat.succ en) t n (Dl need need) = .ok v h') : ∃ ψ, RelV ψ v (.slice (some ⟨w.heap.size, 0, none⟩) need c) ∧ RelW ty ψ E h' w' ∧ Evo φ h w ψ h' w' := by
  have hl' := hrel.length
  have hmul : (c - need) * ei.size + need * ei.size = c * ei.size := by rw [← Nat.add_mul]; congr 1; omega
  have hsz : (⟨cs' ++ rest⟩ : Array Value).size = c * ei.size := by simp [hl', hrest, hlen]; omega
  obtain ⟨h1, hk, H1, ev⟩ := JM (cs := cs) (cs' := ⟨cs' ++ rest⟩) (t := en) (fr := (0, 0)) (w' := w')
    (p := { blk := w.heap.size, off := 0, sz := cs.length, room := (⟨cs' ++ rest⟩ : Array Value).size, es := ei.size }) H hr hT hN rfl ⟨rfl, .inr ⟨en, ei, rfl, hty, rfl⟩⟩ (by simp [hl']) (.inl rfl)
    (fun j u hj => by
      obtain ⟨u', hu, hru⟩ := hrel.get j u hj
      refine ⟨u', ?_, hru⟩
      have hj' : j < cs'.length := by
        rcases Nat.lt_or_ge j cs'.length with h | h
        · exact h
        · rw [List.getElem?_eq_none h] at hu; cases hu
      simp only [List.getElem?_toArray]
      rw [List.getElem?_append_left hj']; exact hu) hw' ht ho hout
  cases hk
  refine ⟨_, .slice (Nat.le_refl _) ⟨rfl, rfl, _, Phi.put_self _ _ _, rfl, .inl ⟨hneed, rfl, .inr ⟨?_, hc, ?_⟩⟩⟩, H1, ev⟩
  · simp only; omega
  · simp only [hsz]; omega
theorem SL (H : RelW ty φ E h w) (hE : ∀ b, ¬ E b) {en : Nat} {ei : TI} (hty : ty.get en = some ei) (hes : 0 < ei.size) {base : Option Addr} {base' : Option Addr} {sl sc sc' need : Nat}
    (hsl : RelV φ (.slice base sl sc) (.slice base' sl sc')) (hneed : sc < need) {olds news olds' news' : List Value} (ho : RelL φ olds olds') (hn : RelL φ news news')
    (hol : olds.length = sl * ei.size) (hnl : (olds ++ news).length = need * ei.size) (hone : ∀ v ∈ news', v.oneCell' = true)
    (hcell : ∀ a a', base = some a → base' = some a' → 0 < sc → ∃ p cs t fr, φ a.block = some p ∧ w.heap[p.blk]? = some (.cells cs t fr) ∧ ∀ j u, olds'[j]? = some u → cs[p.off + a.off + j]? = some u)
    {tr : VT} {n : Nat} (hT : ∀ j, j < (olds ++ news).length → tr.get j = (olds ++ news).getD j undef) (hN : n = (olds ++ news).length) (hr : EU ei.size en base sc need tr n h = .ok v h') :
    (∀ c rest, need ≤ c → rest.length = (c - need) * ei.size → ∀ w' : World, sc' < need → w'.heap = w.heap.push (.cells ⟨(olds' ++ news') ++ rest⟩ en) → w'.tape = w.tape → w'.os = w.os → w'.output = w.output →
      ∃ ψ, RelV ψ v (.slice (some ⟨w.heap.size, 0, none⟩) need c) ∧ RelW ty ψ E h' w' ∧ Evo φ h w ψ h' w') ∧
    (∀ a', base' = some a' → need ≤ sc' → ∃ w' ψ, (storeCells (a'.add (sl * ei.size)) news').run P w = .ok () w' ∧ RelV ψ v (.slice (some a') need sc') ∧ RelW ty ψ E h' w' ∧ Evo φ h w ψ h' w') := by
  have hrel := ho.append hn
  have hneed0 : 0 < need := by omega
  unfold EU at hr
  split at hr
  ·
    cases hsl
    refine ⟨fun c rest hc hrest w' _ hw' ht hos hout => I8 H hty hneed0 hc hrel hnl hrest hw' ht hos hout hT hN hr, fun a' ha => by cases ha⟩
  · rename_i _ a
    cases hsl with
    | @slice _ a' _ _ _ hlc hs =>
    split at hr
    case h_2 => cases hr
    rename_i ct s en0 hrow
    obtain ⟨s1, s2, p, hp, hbl, hor⟩ := hs
    have hkind := H.kind a.block p ct s en0 hp (Cf hrow)
    have hlive : Live h a.block := by unfold Live; rw [Cf hrow]; intro hd; cases hd
    have noroom : (p.room = p.sz ∧ p.es = 1) → sc' = sc := by
      rintro ⟨q1, q2⟩
      rcases hor with ⟨q3, q4, q5 | ⟨q5, q6, q7⟩⟩ | ⟨q3, q4 | q4⟩
      · exact q5
      · rw [q2] at q5 q7; omega
      · omega
      · rw [q2] at q4; omega
    have real : sc' = sc → CJ h (Nat.succ en) tr n (Dl need need) = .ok v h' →
        (∀ c rest, need ≤ c → rest.length = (c - need) * ei.size → ∀ w' : World, sc' < need → w'.heap = w.heap.push (.cells ⟨(olds' ++ news') ++ rest⟩ en) → w'.tape = w.tape → w'.os = w.os → w'.output = w.output →
          ∃ ψ, RelV ψ v (.slice (some ⟨w.heap.size, 0, none⟩) need c) ∧ RelW ty ψ E h' w' ∧ Evo φ h w ψ h' w') ∧
        (∀ a'', some a' = some a'' → need ≤ sc' → ∃ w' ψ, (storeCells (a''.add (sl * ei.size)) news').run P w = .ok () w' ∧ RelV ψ v (.slice (some a'') need sc') ∧ RelW ty ψ E h' w' ∧ Evo φ h w ψ h' w') := by
      intro hsc hr
      exact ⟨fun c rest hc hrest w' _ hw' ht hos hout => I8 H hty hneed0 hc hrel hnl hrest hw' ht hos hout hT hN hr, fun a'' _ h2 => by omega⟩
    split at hr
    · refine real (noroom ?_) hr
      rcases hkind.2 with ⟨_, q1, q2, _⟩ | ⟨t, ti, q1, _⟩
      · exact ⟨q1, q2⟩
      · cases q1
    · rename_i e0
      obtain ⟨hb, hr⟩ := BM hr
      have hen : e0 = en := AZ.1 hb
      subst hen
      have hpes : p.es = ei.size := by
        rcases hkind.2 with ⟨q0, _⟩ | ⟨t, ti, q1, q2, q3⟩
        · cases q0
        · have : t = e0 := by omega
          subst this
          rw [hty] at q2; cases q2; exact q3
      split at hr
      · obtain ⟨bl, h256, hkill, hr⟩ := Dx hr
        have Hk := H.kill hkill (lo := Bh h.low a.block) (hi := CS h.high a.block) (mk := h.mark)
        refine ⟨fun c rest hc hrest w' _ hw' ht hos hout => ?_, fun a'' ha'' hcap => ?_⟩
        · obtain ⟨ψ, hv, H2, ev⟩ := I8 Hk hty hneed0 hc hrel hnl hrest hw' ht hos hout hT hN hr
          refine ⟨ψ, hv, H2, ?_⟩
          have evk : Evo φ h w φ { next := h.next, low := Bh h.low a.block, high := CS h.high a.block, mark := h.mark, bl := bl } w := {
            le := .refl _, new := fun _ _ e => .inl e, next := Nat.le_refl _, size := Nat.le_refl _, tape := rfl, os := rfl, output := rfl, frame := fun _ _ _ => rfl,
            back := fun i q e hl _ => ⟨i, q, e, fun hd => hl (by show bl.get i = _; rw [BT.live_set hkill]; split <;> first | rfl | exact hd), rfl, rfl, .inl rfl⟩,
            kept := fun i _ hi => by
              show bl.get i = _
              have hi : i < Bh h.low a.block ∨ CS h.high a.block < i := hi
              rw [BU, CI] at hi
              rw [BT.live_set hkill, if_neg (by omega)],
            low := by show Bh _ _ ≤ _; rw [BU]; exact Nat.min_le_left _ _,
            high := by show _ ≤ CS _ _; rw [CI]; exact Nat.le_max_left _ _,
            shape := fun i _ => by
              show ShapeLe _ (bl.get i)
              rw [BT.live_set hkill]
              split
              · exact .inl rfl
              · exact .refl _,
            only := fun i _ h0 => by
              show bl.get i = _
              rw [BT.live_set hkill, if_neg (fun e => by rw [e, hp] at h0; cases h0)],
            all := fun _ h1 h2 => absurd h2 (Nat.not_lt.2 h1) }
          exact evk.trans ev
        · cases ha''
          obtain ⟨p0, cs, t, fr, hp0, hwc, R⟩ : ∃ p0 cs t fr, φ a.block = some p0 ∧ w.heap[p0.blk]? = some (.cells cs t fr) ∧ RelC ty φ p0 ct s (e0 + 1) cs fr := by
            obtain ⟨cs, t, fr, q1, q2⟩ := H.rowAt hp (hE _) hrow
            exact ⟨p, cs, t, fr, hp, q1, q2⟩
          rw [hp] at hp0; cases hp0
          obtain ⟨ab', ao', asp'⟩ := a'
          simp only at s2 hbl hor
          subst s2; subst hbl
          have hcap' : p.off ≤ ao' ∧ ao' + sc' * ei.size ≤ p.off + p.room ∧ (0 < sc → ao' = p.off + a.off) := by
            have hz : p.sz ≤ p.room := R.room
            rw [hpes] at hor
            rcases hor with ⟨q3, q4, q5 | ⟨q5, q6, q7⟩⟩ | ⟨q3, q4 | ⟨q4, q5⟩⟩
            · omega
            · exact ⟨by omega, by omega, fun _ => q4⟩
            · omega
            · exact ⟨by omega, by omega, fun h => by omega⟩
          have hfits := R.fits
          have hmul : need * ei.size ≤ sc' * ei.size := Nat.mul_le_mul_right _ hcap
          have hlo := ho.length
          have hln := hn.length
          have hnl' : olds.length + news.length = need * ei.size := by rw [← hnl]; simp
          rw [Addr.add_is]
          have hst : (storeCells ⟨p.blk, ao' + sl * ei.size, none⟩ news').run P w = .ok () (w.setCells p.blk (ao' + sl * ei.size) news') := by
            refine run_storeCells_cells (P := P) p.blk (ao' + sl * ei.size) news' 0 w (fun j hj => ?_) (fun j hj => ?_) hone
            · rw [Gp hwc]; simp; omega
            · exact KD hwc R.hard (by omega)
          obtain ⟨cs', e1, e2, e3, e4, e5, e6, e7, e8⟩ := Em p.blk t fr news' (ao' + sl * ei.size) cs w hwc (by omega)
          unfold CJ at hr
          rw [Ao] at hr
          obtain ⟨bl2, hbl2, hk2⟩ := F2 hr
          cases hk2
          let p' : Pl := { blk := p.blk, off := ao', sz := need * ei.size, room := p.off + p.room - ao', es := ei.size }
          have hB : RelB ty (φ.put h.next p') p' (.cells tr n (e0 + 1)) ((w.setCells p.blk (ao' + sl * ei.size) news').heap[p'.blk]?) := by
            show RelB ty (φ.put h.next p') p' _ ((w.setCells p.blk (ao' + sl * ei.size) news').heap[p.blk]?)
            rw [e1, hN, hnl]
            refine .cells {
              kind := ⟨rfl, .inr ⟨e0, ei, rfl, hty, rfl⟩⟩, room := (by show need * ei.size ≤ p.off + p.room - ao'; omega), fits := (by show ao' + (p.off + p.room - ao') ≤ cs'.size; omega),
              loose := .inl (by rw [e2]; exact R.hard), cell := fun j hj => ?_ }
            have hj2 : j < (olds ++ news).length := by omega
            rw [hT j hj2]
            show ∃ v, cs'[ao' + j]? = some v ∧ _
            have hD : (olds ++ news).getD j undef = (olds ++ news)[j] := by
              rw [List.getD_eq_getElem?_getD, List.getElem?_eq_getElem hj2]; rfl
            rw [hD]
            obtain ⟨u', hu, hru⟩ := hrel.get j _ (List.getElem?_eq_getElem hj2)
            refine ⟨u', ?_, hru.mono (Phi.put_le H.none_next)⟩
            rw [e3]
            rcases Nat.lt_or_ge j olds.length with hjo | hjo
            · rw [if_neg (by omega)]
              rw [List.getElem?_append_left (by omega)] at hu
              have hsc0 : 0 < sc := by
                rcases Nat.eq_zero_or_pos sc with q | q
                · have : sl = 0 := by omega
                  rw [this, Nat.zero_mul] at hol; omega
                · exact q
              obtain ⟨p1, cs1, t1, fr1, hp1, hw1, hc1⟩ := hcell a _ rfl rfl hsc0
              rw [hp] at hp1; cases hp1
              rw [hwc] at hw1; cases hw1
              rw [hcap'.2.2 hsc0]
              exact hc1 j u' hu
            · rw [if_pos (by omega)]
              rw [List.getElem?_append_right (by omega)] at hu
              rw [← hu]; congr 1; omega
          have hnlive : ∀ j q, φ j = some q → Live ({ next := h.next, low := Bh h.low a.block, high := CS h.high a.block, mark := h.mark, bl := bl } : Hp) j → q.blk ≠ p'.blk := by
            intro j q hq hl hqb
            have hl' : bl.get j ≠ .dead := hl
            rw [BT.live_set hkill] at hl'
            split at hl'
            · exact hl' rfl
            · rename_i hjb
              exact hjb (H.inj j a.block q p hq hp (hE _) (hE _) hl' hlive (.inr (H.notInp hp h256)) hqb)
          have H2 := Hk.new (lo := Bh h.low a.block) (hi := CS h.high a.block) (mk := h.mark) (w' := w.setCells p.blk (ao' + sl * ei.size) news') (p := p') hbl2 (Nat.le_of_eq e4.symm) (by rw [e4]; exact (H.dom _ _ hp).2) hnlive (fun k _ hk => e5 k hk) hB
          refine ⟨_, _, hst, ?_, H2, Evo.grow H (H.notInp hp h256) rfl hp hlive hkill hbl2 rfl e4 e5 e6 e7 e8⟩
          refine .slice (Nat.le_refl _) ⟨rfl, rfl, p', Phi.put_self _ _ _, rfl, .inl ⟨hneed0, rfl, .inr ⟨?_, hcap, ?_⟩⟩⟩
          · show 0 + need * ei.size = need * ei.size; omega
          · show 0 + sc' * ei.size ≤ p.off + p.room - ao'; omega
      · rename_i hend
        refine real ?_ hr
        rcases hor with ⟨q3, q4, q5 | ⟨q5, q6, q7⟩⟩ | ⟨q3, _⟩
        · exact q5
        · exfalso
          unfold J0 at hend
          cases sc with
          | zero => omega
          | succ n =>
            simp only at hend
            have : Nat.beq (Nat.add a.off (Nat.mul (n + 1) ei.size)) s = true := AZ.2 (by rw [← hkind.1, ← q5, hpes]; rfl)
            rw [this] at hend; cases hend
        · exfalso
          subst q3
          cases hend
end
end
end Go.Proofs.YtfeldadhbnmklaaGreat
set_option linter.unusedSimpArgs false
set_option linter.unusedVariables false
namespace Go.Proofs.YtfeldadhbnmklaaGreat
noncomputable section
open Go
section
variable {P : Program} {ty : TTy} {φ : Phi} {E : Nat → Prop} {h h' : Hp} {w : World} {F : CallF} {e : Env} {v : Value}
theorem SK {esize en : Nat} {base : Option Addr} {sc need : Nat} {cs : List Value} (hr : H4 esize en base sc need cs h = .ok v h') :
    ∃ (t : VT) (m : Nat), (∀ j, j < cs.length → t.get j = cs.getD j undef) ∧ m = cs.length ∧ EU esize en base sc need t m h = .ok v h' := by
  unfold H4 at hr
  split at hr
  case h_2 => cases hr
  rename_i c hset
  exact ⟨c, _, Jh hset, BD _, hr⟩
open Classical in
theorem MG {esize en : Nat} {base : Option Addr} {sl sc need : Nat} {news : List Value}
    (hr : Gz esize en base sl sc need news h (BX h esize (.slice base sl sc) sl fun olds => H4 esize en base sc need (olds ++ news) h) = .ok v h') :
    ∃ G : List Value → R, BX h esize (.slice base sl sc) sl G = .ok v h' ∧ ∀ olds, G olds = .ok v h' → ∃ (t : VT) (m : Nat), (∀ j, j < (olds ++ news).length → t.get j = (olds ++ news).getD j undef) ∧
      m = (olds ++ news).length ∧ EU esize en base sc need t m h = .ok v h' := by
  have slow : BX h esize (.slice base sl sc) sl (fun olds => H4 esize en base sc need (olds ++ news) h) = .ok v h' →
      ∃ G : List Value → R, BX h esize (.slice base sl sc) sl G = .ok v h' ∧ ∀ olds, G olds = .ok v h' → ∃ (t : VT) (m : Nat), (∀ j, j < (olds ++ news).length → t.get j = (olds ++ news).getD j undef) ∧
        m = (olds ++ news).length ∧ EU esize en base sc need t m h = .ok v h' := fun hr => ⟨_, hr, fun olds h => SK h⟩
  unfold Gz at hr
  split at hr
  · exact slow hr
  · rename_i _ a
    split at hr
    · rename_i hoff
      split at hr
      · rename_i c sz ec hrow
        split at hr
        · rename_i hb
          have hsz : sz = sl * esize := AZ.1 hb
          split at hr
          case h_2 => cases hr
          rename_i t hset
          refine ⟨fun olds => if olds = rowL c 0 sz then EU esize en (some a) sc need t (Nat.add sz (BR news)) h else .no, ?_, fun olds ho => ?_⟩
          · unfold BX
            simp only [hrow, hoff]
            have hle : Nat.ble (Nat.add 0 (Nat.mul sl esize)) sz = true := Ap.2 (by show 0 + sl * esize ≤ sz; omega)
            rw [hle, E9, List.append_nil]
            have : Nat.mul sl esize = sz := hsz.symm
            rw [this]
            simp only [cond_true, if_true]
            exact hr
          · by_cases he : olds = rowL c 0 sz
            · simp only [he, if_true] at ho
              subst he
              refine ⟨t, _, fun j hj => ?_, ?_, ho⟩
              · have hl : (rowL c 0 sz).length = sz := EW c 0 sz
                rw [FM _ _ _ _ hset j, List.getD_eq_getElem?_getD (l := rowL c 0 sz ++ news)]
                rw [List.length_append, hl] at hj
                rcases Nat.lt_or_ge j sz with hjs | hjs
                · rw [if_neg (by omega), List.getElem?_append_left (by omega)]
                  simp [rowL, hjs]
                · rw [if_pos (by omega), List.getElem?_append_right (by omega), hl, ← List.getD_eq_getElem?_getD]
              · rw [List.length_append, EW, BD]; rfl
            · simp only [he, if_false] at ho; cases ho
        · exact slow hr
      · exact slow hr
    · exact slow hr
def Bq (elem : TypeId) (size : Nat) (base : Option Addr) (s : Value) (sLen sCap n : Nat) (zeros : Bool) (x : Value) (appended : Sem (Array Value)) : Sem Value := do
  let need := sLen + n
  if need ≤ sCap then
    let new ← appended
    if let some a := base then storeCells (a.add (sLen * size)) new.toList
    pure (.slice base need sCap)
  else
    if (need : Int) > IntKind.i64.max ∧ (zeros ∨ (← typeInfo elem).bytes = 0) then runtimePanic (.error "growslice: len out of range")
    if Builtin.nextslicecap need sCap * (← typeInfo elem).bytes > 2 ^ 48 then (if zeros then runtimePanic (.error "growslice: len out of range") else do
      if !(← Builtin.mayShare size sLen n base x) then mark .noRoom
      unsupported (.resourceLimit "append: a slice or a string whose bytes no memory bears"))
    let newCap ← choose (.appendCap need sCap elem)
    askRoom (newCap * (← typeInfo elem).bytes)
    let old ← Builtin.firstCells size sLen s
    let new ← appended
    let rest := Builtin.zeroCells (← zeroValue elem).cells (newCap - need)
    pure (.slice (some (← Go.newRow elem (old ++ new ++ rest))) need newCap)
theorem GH (H : RelW ty φ E h w) (hE : ∀ b, ¬ E b) {en : Nat} {ei : TI} (hty : ty.get en = some ei) (TE : TyOk P en ei) (hes : 0 < ei.size) (hz : ei.zero.length = ei.size)
    {base base' : Option Addr} {sl sc sc' n : Nat} (hs : RelV φ (.slice base sl sc) (.slice base' sl sc')) {zeros : Bool} {x' : Value} {appended : Sem (Array Value)} {news news' : List Value}
    (hn : RelL φ news news') (hnl : news.length = n * ei.size) (happ : ∀ w' : World, w'.heap = w.heap → appended.run P w' = .ok ⟨news'⟩ w')
    (hr : (∃ k, sl + n ≤ sc ∧ k = (match base with
        | none => (.ok (.slice none (sl + n) sc) h : R)
        | some a => Ci (E3 a (sl * ei.size)) news h fun h => .ok (.slice (some a) (sl + n) sc) h) ∧ k = .ok v h') ∨
      (sc < sl + n ∧ Nat.ble (Nat.mul (Nat.succ (sl + n)) (Nat.succ ei.bytes)) most = true ∧ B6 news = true ∧
        ∃ G : List Value → R, BX h ei.size (.slice base sl sc) sl G = .ok v h' ∧ ∀ olds, G olds = .ok v h' → ∃ (t : VT) (m : Nat), (∀ j, j < (olds ++ news).length → t.get j = (olds ++ news).getD j undef) ∧
          m = (olds ++ news).length ∧ EU ei.size en base sc (sl + n) t m h = .ok v h')) :
    A8 ty φ E h w v h' ((Bq en ei.size base' (.slice base' sl sc') sl sc' n zeros x' appended).run P w) := by
  obtain ⟨inf, hinf, hsz, hbt, _⟩ := TE.info
  obtain ⟨z, _, hzr, hzc, hzp⟩ := TE.zeroOk hz
  have hzs : z.cells.size = ei.size := by rw [← hz, ← hzc]; simp
  rcases hr with ⟨k, hle, rfl, hr⟩ | ⟨hlt, hmost, hone, G, hr, hG⟩
  · cases hs with
    | slice0 =>
      cases hr
      have : n = 0 := by omega
      subst this
      have key : (Bq en ei.size none (.slice none 0 0) 0 0 0 zeros x' appended).run P w = .ok (.slice none 0 0) w := by
        simp only [Bq, Nat.le_refl, if_true, Sem.run_bind, happ w rfl, Result.andThen_ok, Sem.run_pure]
      rw [key]; exact .same H .slice0
    | @slice a a' _ _ _ hlc hs =>
      simp only at hr
      have h0 : sc = 0 → news = [] := fun h0 => List.length_eq_zero_iff.1 (by
        have : n = 0 := by omega
        rw [hnl, this, Nat.zero_mul])
      obtain ⟨h1, w1, hk, hrun, H1, ev⟩ := Qz (P := P) H hE hs h0 hr hn
      cases hk
      have hcc : sl + n ≤ sc' := Nat.le_trans hle hs.le
      have key : (Bq en ei.size (some a') (.slice (some a') sl sc') sl sc' n zeros x' appended).run P w = .ok (.slice (some a') (sl + n) sc') w1 := by
        simp only [Bq, hcc, if_true, Sem.run_bind, happ w rfl, Result.andThen_ok, hrun, Sem.run_pure]
      rw [key]
      exact ⟨_, _, φ, rfl, .slice hle hs, H1, ev⟩
  · have hs0 := hs
    obtain ⟨olds, olds', hr, ho, hrun, hl1, hl2, hcell⟩ := EZ (P := P) H (fun _ _ _ _ => hE _) hs hr (fun m hm => by cases hm; exact Nat.le_refl _)
    obtain ⟨tr, tn, hT, hN, hr⟩ := hG olds hr
    have hone' := GO hn hone
    obtain ⟨hm1, hm2⟩ := LF hmost
    have hol : olds.length = sl * ei.size := by
      rw [← ho.length]
      cases base' with
      | none => cases hs; have := hrun w rfl; simp only [Builtin.firstCells, Sem.run_pure] at this; cases this; simp
      | some a' => exact hl1 a' sl sc' rfl
    have hnl2 : (olds ++ news).length = (sl + n) * ei.size := by rw [List.length_append, hol, hnl, Nat.add_mul]
    obtain ⟨hfar, hnear⟩ := SL (P := P) H hE hty hes hs hlt ho hn hol hnl2 hone' (fun a a' ha ha' hpos => hcell a sl sc (by rw [ha]) hpos) hT hN hr
    rcases Nat.lt_or_ge sc' (sl + n) with hroom | hroom
    ·
      let q : Question := .appendCap (sl + n) sc' en
      let c : Nat := q.cut (w.tape w.drawn q)
      let w1 : World := { w with drawn := w.drawn + 1 }
      have hc : sl + n ≤ c := Nat.le_add_right _ _
      have hrl : (A6 z.cells.toList (c - (sl + n))).length = (c - (sl + n)) * ei.size := by rw [EV]; simp [hzs]
      obtain ⟨ψ, hv, H2, ev⟩ := hfar c (A6 z.cells.toList (c - (sl + n))) hc hrl { w1 with heap := w.heap.push (.cells ⟨(olds' ++ news') ++ A6 z.cells.toList (c - (sl + n))⟩ en) } hroom rfl rfl rfl rfl
      have hbig : ¬ ((sl + n : Nat) : Int) > IntKind.i64.max := by
        have : IntKind.i64.max = 9223372036854775807 := by decide
        rw [this]; omega
      have hnx : ¬ (Builtin.nextslicecap (sl + n) sc' * ei.bytes > 2 ^ 48) := by
        have h1 := V7 hroom
        have h2 : Builtin.nextslicecap (sl + n) sc' * ei.bytes ≤ (2 * (sl + n) + 192) * ei.bytes := Nat.mul_le_mul_right _ h1
        have h3 : (2 * (sl + n) + 192) * ei.bytes ≤ (192 * (sl + n + 1)) * (ei.bytes + 1) := Nat.mul_le_mul (by omega) (by omega)
        have h4 : (192 * (sl + n + 1)) * (ei.bytes + 1) = 192 * ((sl + n + 1) * (ei.bytes + 1)) := by rw [Nat.mul_assoc]
        omega
      have hnle : ¬ (sl + n ≤ sc') := by omega
      have key : (Bq en ei.size base' (.slice base' sl sc') sl sc' n zeros x' appended).run P w = .ok (.slice (some ⟨w.heap.size, 0, none⟩) (sl + n) c)
          { w1 with heap := w.heap.push (.cells ⟨(olds' ++ news') ++ A6 z.cells.toList (c - (sl + n))⟩ en) } := by
        have ho1 := hrun w1 rfl
        have hn1 := happ w1 rfl
        have hforced : q.forced = false := rfl
        simp only [Bq, hnle, if_false, Sem.run_bind, run_typeInfo _ hinf, Result.andThen_ok, hbig, false_and, Sem.run_pure, hbt, hnx, Sem.run_ite, run_choose, hforced, Bool.false_eq_true, run_askRoom]
        show ((Builtin.firstCells ei.size sl (.slice base' sl sc')).run P w1).andThen _ = _
        rw [ho1]
        simp only [Result.andThen_ok]
        show (appended.run P w1).andThen _ = _
        rw [hn1]
        have earr : ∀ a b : List Value, (⟨a⟩ : Array Value) ++ (⟨b⟩ : Array Value) = ⟨a ++ b⟩ := fun a b => by apply Array.ext'; simp
        simp only [Result.andThen_ok, hzr, FQ, Go.newRow, Sem.run_bind, run_newObj, Sem.run_pure, earr]
        rfl
      rw [key]
      exact ⟨_, _, ψ, rfl, hv, H2, ev⟩
    ·
      cases base' with
      | none => cases hs; omega
      | some a' =>
        obtain ⟨w', ψ, hst, hv, H2, ev⟩ := hnear a' rfl hroom
        have key : (Bq en ei.size (some a') (.slice (some a') sl sc') sl sc' n zeros x' appended).run P w = .ok (.slice (some a') (sl + n) sc') w' := by
          simp only [Bq, hroom, if_true, Sem.run_bind, happ w rfl, Result.andThen_ok, hst, Sem.run_pure]
        rw [key]
        exact ⟨_, _, ψ, rfl, hv, H2, ev⟩
theorem HV {ats : Array TypeId} {dt st t el : TypeId} (h0 : ats[0]? = some dt) (h1 : ats[1]? = some st) {ti xi : TI} (T : TyOk P dt ti) (hk : ti.k = .slice el) (TX : TyOk P st xi) (hx : (∃ q, xi.k = .slice q) ∨ xi.k = .string) {ei : TI} (TE : TyOk P el ei) {base : Option Addr} {sl sc n : Nat} {x : Value}
    (hn : (Builtin.lenOf x).run P w = .ok n w) :
    (Builtin.append_ ats t #[.slice base sl sc, x]).run P w = (Bq el ei.size base (.slice base sl sc) sl sc n false x (Builtin.firstCells ei.size n x)).run P w := by
  obtain ⟨d, hd, hkd⟩ := T.desc
  rw [hk] at hkd
  cases hkd
  obtain ⟨dx, hdx, hkx⟩ := TX.desc
  rcases hx with ⟨q, hx⟩ | hx <;> rw [hx] at hkx <;> cases hkx <;>
  · unfold Builtin.append_ Bq
    simp only [Sem.run_bind, hd, Result.andThen_ok, TE.size, Sem.run_pure, h0, h1, List.getElem?_toArray, List.getElem?_cons_zero, List.getElem?_cons_succ, hdx, Bool.false_eq_true, if_false, hn, Bool.not_false, if_true]
    rfl
theorem JP (H : RelW ty φ E h w) (hE : ∀ b, ¬ E b) {s x : O} {s' x' : Value} {ats : Array TypeId} {dt st t el : TypeId} (h0 : ats[0]? = some dt) (h1 : ats[1]? = some st) {ti xi ei : TI} (T : TyOk P dt ti) (hk : ti.k = .slice el) (TX : TyOk P st xi) (hxk : (∃ q, xi.k = .slice q) ∨ xi.k = .string)
    (hty : ty.get el = some ei) (TE : TyOk P el ei) (hes : 0 < ei.size) (hz : ei.zero.length = ei.size)
    (hs : RelV φ (s e) s') (hx : RelV φ (x e) x') (hr : BB ei.size ei.bytes el s x F e h = .ok v h') : A8 ty φ E h w v h' ((Builtin.append_ ats t #[s', x']).run P w) := by
  unfold BB EO at hr
  split at hr
  case h_2 => cases hr
  rename_i base sl sc hse
  rw [hse] at hs
  split at hr
  case h_2 => cases hr
  rename_i n hn
  obtain ⟨news, news', hr, hnr, hrun, hl1, hl2, _⟩ := EZ (P := P) H (fun _ _ _ _ => hE _) hx hr (fun m hm => by rw [hn] at hm; cases hm; exact Nat.le_refl _)
  rw [Ao] at hr
  have hlen := MS (P := P) (w := w) hx hn
  have hb : ∃ base' sc', s' = .slice base' sl sc' := by
    cases hs
    · exact ⟨_, _, rfl⟩
    · exact ⟨_, _, rfl⟩
  obtain ⟨base', sc', rfl⟩ := hb
  rw [HV h0 h1 T hk TX hxk TE hlen]
  have hnl : news.length = n * ei.size := by
    rw [← hnr.length]
    cases x' with
    | string s => obtain ⟨q1, q2⟩ := hl2 s rfl; rw [q1, q2, Nat.mul_one]
    | slice a l c =>
      cases a with
      | some a => exact hl1 a l c rfl
      | none =>
        have := hrun w rfl
        simp only [Builtin.firstCells, Sem.run_pure] at this
        cases this
        have hn0 : n = 0 := by
          generalize x e = xv at hx hn
          cases hx
          · unfold lenV at hn; cases hn; rfl
          · unfold lenV at hn; cases hn
        rw [hn0]; simp
    | _ => have := hrun w rfl; simp only [Builtin.firstCells] at this; cases this
  refine GH (P := P) H hE hty TE hes hz hs hnr hnl hrun ?_
  split at hr
  · rename_i hb
    refine .inl ⟨_, Ap.1 hb, rfl, ?_⟩
    exact hr
  · rename_i hb
    obtain ⟨hm, hr⟩ := BM hr
    obtain ⟨hone, hr⟩ := BM hr
    refine .inr ⟨?_, hm, hone, MG hr⟩
    rcases Nat.lt_or_ge sc (sl + n) with h | h
    · exact h
    · exact absurd (Ap.2 (show Nat.add sl n ≤ sc from h)) (by rw [hb]; simp)
theorem IE {ats : Array TypeId} {dt st t el : TypeId} (h0 : ats[0]? = some dt) (h1 : ats[1]? = some st) {ti xi : TI} (T : TyOk P dt ti) (hk : ti.k = .slice el) (TX : TyOk P st xi) {q : IntKind} (hx : xi.k = .int q) {ei : TI} (TE : TyOk P el ei) {base : Option Addr} {sl sc n : Nat} {q' : IntKind}
    (hn1 : n ≤ 1099511627776) (hn2 : n * ei.bytes ≤ 1099511627776) :
    (Builtin.append_ ats t #[.slice base sl sc, .int q' (n : Nat)]).run P w = (Bq el ei.size base (.slice base sl sc) sl sc n true (.int q' (n : Nat))
      (if n * ei.size = 0 then pure #[] else do pure (Builtin.zeroCells (← zeroValue el).cells n))).run P w := by
  obtain ⟨d, hd, hkd⟩ := T.desc
  rw [hk] at hkd
  cases hkd
  obtain ⟨dx, hdx, hkx⟩ := TX.desc
  rw [hx] at hkx; cases hkx
  obtain ⟨inf, hinf, hsz, hbt, _⟩ := TE.info
  have w1 : IntKind.i64.wrap (n : Int) = n := HS (by omega)
  have q0 : ¬ ((n : Int) < 0) := by omega
  have q1 : ¬ ((n : Int) * (ei.bytes : Int) > 2 ^ 48) := by rw [← Int.natCast_mul]; omega
  unfold Builtin.append_ Bq
  simp only [Sem.run_bind, hd, Result.andThen_ok, TE.size, Sem.run_pure, List.getElem?_toArray, List.getElem?_cons_zero, List.getElem?_cons_succ, h0, h1, hdx, if_true, asInt, asIntOf, w1, q0, if_false, run_typeInfo _ hinf, hbt, q1, Int.toNat_natCast, Bool.not_true, Bool.false_eq_true]
  rfl
theorem Mg (H : RelW ty φ E h w) (hE : ∀ b, ¬ E b) {s x : O} {s' x' : Value} {ats : Array TypeId} {dt st t el : TypeId} (h0 : ats[0]? = some dt) (h1 : ats[1]? = some st) {ti xi ei : TI} (T : TyOk P dt ti) (hk : ti.k = .slice el) (TX : TyOk P st xi) {q : IntKind} (hxk : xi.k = .int q)
    (hty : ty.get el = some ei) (TE : TyOk P el ei) (hes : 0 < ei.size) (hz : ei.zero.length = ei.size)
    (hs : RelV φ (s e) s') (hx : RelV φ (x e) x') (hr : DH ei.size ei.bytes el ei.zero s x F e h = .ok v h') : A8 ty φ E h w v h' ((Builtin.append_ ats t #[s', x']).run P w) := by
  unfold DH Fy at hr
  split at hr
  case h_2 => cases hr
  rename_i base sl sc hse
  rw [hse] at hs
  split at hr
  case h_2 => cases hr
  rename_i n hn
  obtain ⟨q', rfl⟩ := DG hx hn
  rw [Ao] at hr
  have hb : ∃ base' sc', s' = .slice base' sl sc' := by
    cases hs
    · exact ⟨_, _, rfl⟩
    · exact ⟨_, _, rfl⟩
  obtain ⟨base', sc', rfl⟩ := hb
  obtain ⟨hm, hr⟩ := BM hr
  obtain ⟨hone, hr⟩ := BM hr
  obtain ⟨hm1, hm2⟩ := LF hm
  have hm1' : sl + n ≤ 1099511627776 := hm1
  have hm2' : (sl + n + 1) * (ei.bytes + 1) ≤ 1099511627776 := hm2
  have hnb : n * ei.bytes ≤ (sl + n + 1) * (ei.bytes + 1) := Nat.mul_le_mul (by omega) (by omega)
  rw [IE h0 h1 T hk TX hxk TE (by omega) (by omega)]
  obtain ⟨z, _, hzr, hzc, hzp⟩ := TE.zeroOk hz
  have hzs : z.cells.size = ei.size := by rw [← hz, ← hzc]; simp
  have hrel : RelL φ (A6 ei.zero n) (A6 ei.zero n) := Fq (.plain hzp) n
  have hnl : (A6 ei.zero n).length = n * ei.size := by rw [EV, hz]
  have hones : B6 (A6 ei.zero n) = true := by
    have app : ∀ a b : List Value, B6 a = true → B6 b = true → B6 (a ++ b) = true := by
      intro a
      induction a with
      | nil => intro b _ h; exact h
      | cons u a ih =>
        intro b h1 h2
        unfold B6 at h1
        cases hu : Dr u with
        | false => rw [hu] at h1; cases h1
        | true =>
          rw [hu] at h1
          show (bif Dr u then B6 (a ++ b) else false) = true
          rw [hu]; exact ih b h1 h2
    have : ∀ n, B6 (A6 ei.zero n) = true := by
      intro n
      induction n with
      | zero => rfl
      | succ n ih => exact app _ _ hone ih
    exact this n
  refine GH (P := P) H hE hty TE hes hz hs hrel hnl (fun w' _ => ?_) ?_
  · by_cases h0 : n * ei.size = 0
    · rw [if_pos h0]
      have : A6 ei.zero n = [] := List.length_eq_zero_iff.1 (by rw [hnl, h0])
      rw [this]; rfl
    · rw [if_neg h0]
      simp only [Sem.run_bind, hzr, Result.andThen_ok, FQ, hzc, Sem.run_pure]
  · split at hr
    · rename_i hb
      exact .inl ⟨_, Ap.1 hb, rfl, hr⟩
    · rename_i hb
      refine .inr ⟨?_, hm, hones, MG hr⟩
      rcases Nat.lt_or_ge sc (sl + n) with h | h
      · exact h
      · exact absurd (Ap.2 (show Nat.add sl n ≤ sc from h)) (by rw [hb]; simp)
end
end
end Go.Proofs.YtfeldadhbnmklaaGreat
set_option linter.unusedSimpArgs false
set_option linter.unusedVariables false
namespace Go.Proofs.YtfeldadhbnmklaaGreat
noncomputable section
open Go
section
variable {P : Program} {ty : TTy} {φ : Phi} {E : Nat → Prop} {h h' : Hp} {w : World} {F : CallF} {e : Env} {v : Value}
theorem Im : ∀ {cs cs' : List Value} {bs : List UInt8}, RelL φ cs cs' → DZ cs = some bs →
    ∃ ns : List Int, cs' = ns.map (Value.int .u8) ∧ ∀ s : ByteArray, (ns.foldl (fun r n => r.push (UInt8.ofNat n.toNat)) s).data.toList = s.data.toList ++ bs
  | _, _, bs, .nil, hb => by
    cases hb
    exact ⟨[], rfl, fun s => by simp⟩
  | _, _, bs, .cons (v := u) (v' := u') (l := l) (l' := l') hu t, hb => by
    unfold DZ at hb
    split at hb
    · cases ‹_ :: _ = []›
    · rename_i n l2 heq
      injection heq with h1 h2
      subst h1; subst h2
      split at hb
      · rename_i bs' hbs
        rw [Ao] at hb
        cases hb
        obtain ⟨ns, hns, hf⟩ := Im t hbs
        have := hu.int_inv
        subst this
        refine ⟨(n : Int) :: ns, by rw [hns]; rfl, fun s => ?_⟩
        rw [List.foldl_cons, hf]
        simp
      · cases hb
    · cases hb
theorem Qn (H : RelW ty φ E h w) {x : O} (hE : ∀ a l c, x e = .slice (some a) l c → ¬ E a.block) {x' : Value} {src dst el : TypeId} {si di ei : TI} (TS : TyOk P src si) (hs : si.k = .slice el) (TD : TyOk P dst di) (hd : di.k = .string) (TE : TyOk P el ei) (he : ei.k = .int .u8)
    (hx : RelV φ (x e) x') (hr : Cb x F e h = .ok v h') : A8 ty φ E h w v h' ((convert src dst x').run P w) := by
  obtain ⟨d1, h1, k1⟩ := TS.und
  obtain ⟨d2, h2, k2⟩ := TD.und
  obtain ⟨d3, h3, k3⟩ := TE.und
  rw [hs] at k1; cases k1
  rw [hd] at k2; cases k2
  rw [he] at k3; cases k3
  unfold Cb at hr
  split at hr
  case h_2 => cases hr
  rename_i a n c hxe
  rw [hxe] at hx
  have hx0 := hx
  obtain ⟨cs, cs', hr, hcs, hrun, hl1, hl2, _⟩ := EZ (P := P) H (fun a l c heq => by cases heq; exact hE _ _ _ hxe) hx hr (fun m hm => by cases hm; exact Nat.le_refl _)
  split at hr
  case h_2 => cases hr
  rename_i bs hbs
  cases hr
  obtain ⟨ns, hns, hf⟩ := Im hcs hbs
  have hempty := hf ByteArray.empty
  have hdat := Fb (a := ns.foldl (fun r n => r.push (UInt8.ofNat n.toNat)) ByteArray.empty) (l := bs) (by rw [hempty]; rfl)
  cases hx with
  | slice0 =>
    rw [run_convert_bytes_string w src dst el none 0 0 h1 h3 h2]
    have := hrun w rfl
    simp only [Builtin.firstCells, Sem.run_pure] at this
    have hcs0 : cs' = [] := by cases this; rfl
    have hns0 : ns = [] := by
      rw [hcs0] at hns
      cases ns with
      | nil => rfl
      | cons _ _ => cases hns
    subst hns0
    rw [← hdat]
    exact .same H (.string _)
  | @slice _ a' _ _ c' hlc hsl =>
    rw [run_convert_bytes_string w src dst el (some a') n c' h1 h3 h2]
    have hld : (loadCells a' n).run P w = .ok (ns.map (Value.int .u8)).toArray w := by
      have := hrun w rfl
      rw [hns] at this
      simp only [Builtin.firstCells, Nat.mul_one] at this
      exact this
    rw [run_bytesToString w a' n c' ns hld, hdat]
    exact .same H (.string _)
theorem MX (A : Array Obj) (x : Obj) (f : Obj → Obj) : (A.push x).modify A.size f = A.push (f x) := by
  apply Array.ext_getElem?
  intro i
  rw [Array.getElem?_modify, Array.getElem?_push, Array.getElem?_push]
  by_cases hi : i = A.size
  · subst hi; simp
  · rw [if_neg (Ne.symm hi), if_neg hi, if_neg hi]
theorem Sb (w : World) (A : Array Value) (el : TypeId) : (markStringish ⟨w.heap.size, 0, none⟩).run P { w with heap := w.heap.push (.cells A el) } =
    .ok () { w with heap := w.heap.push (.cells A el (A.size, A.size + 1)) } := by
  have hs : World.shape? { w with heap := w.heap.push (.cells A el) } w.heap.size = some (el, A.size) := by simp [World.shape?]
  simp only [markStringish, Sem.run_bind, run_shape, Result.andThen_ok, hs, run_freeze, World.freeze, Nat.one_ne_zero, if_false, MX]
  rfl
theorem Ms (H : RelW ty φ E h w) {x : O} {x' : Value} {src dst el : TypeId} {si di ei : TI} (TS : TyOk P src si) (hs : si.k = .string) (TD : TyOk P dst di) (hd : di.k = .slice el) (TE : TyOk P el ei) (he : ei.k = .int .u8)
    (hty : ty.get el = some ei) (hz : ei.size = 1) (hx : RelV φ (x e) x') (hr : Dg el x F e h = .ok v h') : A8 ty φ E h w v h' ((convert src dst x').run P w) := by
  obtain ⟨d1, h1, k1⟩ := TS.und
  obtain ⟨d2, h2, k2⟩ := TD.und
  obtain ⟨d3, h3, k3⟩ := TE.und
  rw [hs] at k1; cases k1
  rw [hd] at k2; cases k2
  rw [he] at k3; cases k3
  unfold Dg at hr
  split at hr
  case h_2 => cases hr
  rename_i s hxe
  rw [hxe] at hx
  obtain rfl := hx.string_inv
  rw [Ao, BD] at hr
  obtain ⟨hb, hr⟩ := BM hr
  let q : Question := .appendCap s.size 0 el
  let c : Nat := q.cut (w.tape w.drawn q)
  have hc : s.size ≤ c := Nat.le_add_right _ _
  let cells : List Value := s.data.toList.map fun b => .int .u8 (b.toNat : Int)
  let rest : List Value := List.replicate (c - s.size) (.int .u8 0)
  have hcl : cells.length = s.size := by simp [cells]
  let w' : World := { w with drawn := w.drawn + 1, heap := w.heap.push (.cells ⟨cells ++ rest⟩ el (c, c + 1)) }
  have hsz : (⟨cells ++ rest⟩ : Array Value).size = c := by simp [rest, hcl]; omega
  have hrel : RelL φ (Bk s.data.toList) cells := Hz _
  have hlen : (Bk s.data.toList).length = s.size := by rw [← hrel.length, hcl]
  obtain ⟨hh1, hk, H1, ev⟩ := KY (cs' := ⟨cells ++ rest⟩) (t := el) (fr := (c, c + 1)) (w' := w')
    (p := { blk := w.heap.size, off := 0, sz := (Bk s.data.toList).length, room := (⟨cells ++ rest⟩ : Array Value).size, es := 1 }) H hr rfl ⟨rfl, .inr ⟨el, ei, rfl, hty, hz.symm⟩⟩ (by rw [hlen, hsz]; exact hc) (.inr (by rw [hsz]; exact Nat.le_refl _))
    (fun j u hj => by
      obtain ⟨u', hu, hru⟩ := hrel.get j u hj
      refine ⟨u', ?_, hru⟩
      have hj' : j < cells.length := by
        rcases Nat.lt_or_ge j cells.length with h | h
        · exact h
        · rw [List.getElem?_eq_none h] at hu; cases hu
      simp only [List.getElem?_toArray]
      rw [List.getElem?_append_left hj']; exact hu) rfl rfl rfl rfl
  cases hk
  have key : (convert src dst (.string s)).run P w = .ok (.slice (some ⟨w.heap.size, 0, none⟩) s.size c) w' := by
    have hforced : (Question.appendCap s.size 0 el).forced = false := rfl
    have harr : (s.data.map fun b => (Value.int .u8 (b.toNat : Int))) ++ Array.replicate (c - s.size) (Value.int .u8 0) = ⟨cells ++ rest⟩ := by
      apply Array.ext'; simp [cells, rest]
    have hm := Sb (P := P) { w with drawn := w.drawn + 1 } ⟨cells ++ rest⟩ el
    rw [hsz] at hm
    simp only [convert, Sem.run_bind, run_underlying h1, run_underlying h2, run_underlying h3, Result.andThen_ok, Conv.stringToBytes, run_choose, hforced, Bool.false_eq_true, if_false, Go.newRow, run_newObj, Sem.run_pure]
    show (((markStringish ⟨w.heap.size, 0, none⟩).run P { w with drawn := w.drawn + 1, heap := w.heap.push (.cells ((s.data.map fun b => (Value.int .u8 (b.toNat : Int))) ++ Array.replicate (c - s.size) (Value.int .u8 0)) el) }).andThen
      fun _ w'' => Result.ok (Value.slice (some ⟨w.heap.size, 0, none⟩) s.size c) w'') = _
    rw [harr]
    have hm' : (markStringish ⟨w.heap.size, 0, none⟩).run P { w with drawn := w.drawn + 1, heap := w.heap.push (.cells ⟨cells ++ rest⟩ el) } = .ok () w' := hm
    rw [hm']; rfl
  rw [key]
  refine ⟨_, _, _, rfl, ?_, H1, ev⟩
  have e1 : s.data.toList.length = s.size := rfl
  rw [e1]
  refine .slice (Nat.le_refl _) ⟨rfl, rfl, _, Phi.put_self _ _ _, rfl, ?_⟩
  rcases Nat.eq_zero_or_pos s.size with h0 | h0
  · refine .inr ⟨h0, .inr ⟨?_, ?_⟩⟩
    · simp only [hlen, h0]
    · simp only [hlen, hsz, h0]; omega
  · refine .inl ⟨h0, rfl, .inr ⟨?_, hc, ?_⟩⟩
    · simp only [hlen]; omega
    · simp only [hsz]; omega
end
end
end Go.Proofs.YtfeldadhbnmklaaGreat
set_option linter.unusedSimpArgs false
set_option linter.unusedVariables false
namespace Go.Proofs.YtfeldadhbnmklaaGreat
noncomputable section
open Go
section
variable {P : Program} {ty : TTy} {φ : Phi} {E : Nat → Prop} {h h' : Hp} {w : World} {F : CallF} {e : Env} {v : Value} {f : Fr}
def EE : Value → Lit
  | .bool b => .bool b
  | .int q n => .int q n
  | .string s => .string s.data.toList
  | _ => .bool false
theorem ag {k : IntKind} {n : Int} (h : inK k n = true) : (Lit.int k n).wf = true := by
  unfold Lit.wf
  simp only [Bool.and_eq_true, decide_eq_true_eq]
  cases n with
  | ofNat m =>
    have h : Nat.ble m (AQ k) = true := h
    have := Ap.1 h
    cases k <;> simp [IntKind.min, IntKind.max, IntKind.signed, IntKind.bits, AQ] at this ⊢ <;> omega
  | negSucc m =>
    cases k <;> simp only [inK] at h <;> first | (cases h; done) | skip
    all_goals
      have := Ap.1 h
      simp [IntKind.min, IntKind.max, IntKind.signed, IntKind.bits, AQ] at this ⊢
      omega
theorem Fc {k : IntKind} {v : Value} (h : IF (.i k) v = true) : ∃ n, v = .int k n ∧ (Lit.int k n).wf = true := by
  unfold IF at h
  simp only at h
  split at h
  · split at h
    · rename_i hq
      exact ⟨_, by rw [Dh hq], ag h⟩
    · cases h
  · cases h
theorem Es {v : Value} (h : IF .b v = true) : ∃ b, v = .bool b := by
  unfold IF at h
  simp only at h
  split at h
  · exact ⟨_, rfl⟩
  · cases h
theorem Fd {v : Value} (h : IF .s v = true) : ∃ s, v = .string s ∧ s.size ≤ maxLen := by
  unfold IF at h
  simp only at h
  split at h
  · rename_i s
    refine ⟨s, rfl, ?_⟩
    have := Ap.1 h
    rw [BD] at this
    have e : s.data.toList.length = s.size := by simp
    have hm : most ≤ maxLen := by unfold most maxLen; omega
    omega
  · cases h
theorem Cd {l : List Value} (h : DV [] l = true) : l = [] := by
  cases l with
  | nil => rfl
  | cons => cases h
theorem CC {c : CK} {ks : List CK} {l : List Value} (h : DV (c :: ks) l = true) : ∃ v r, l = v :: r ∧ IF c v = true ∧ DV ks r = true := by
  cases l with
  | nil => cases h
  | cons v r =>
    unfold DV at h
    split at h
    · rename_i hc; exact ⟨v, r, rfl, hc, h⟩
    · cases h
theorem Gx : ∀ {ks : List CK} {l : List Value}, DV ks l = true → l.length = ks.length
  | [], l, h => by rw [Cd h]; rfl
  | c :: ks, l, h => by
    obtain ⟨v, r, rfl, _, hr⟩ := CC h
    simp [Gx hr]
theorem Fe : ∀ {a b : List CK} {l : List Value}, DV (a ++ b) l = true → DV a (l.take a.length) = true ∧ DV b (l.drop a.length) = true
  | [], b, l, h => ⟨rfl, h⟩
  | c :: a, b, l, h => by
    obtain ⟨v, r, rfl, hc, hr⟩ := CC h
    obtain ⟨h1, h2⟩ := Fe hr
    refine ⟨?_, by simpa using h2⟩
    show DV (c :: a) (v :: r.take a.length) = true
    unfold DV
    rw [hc]; exact h1
theorem GS {c : CK} {v : Value} (h : IF c v = true) : ∃ l : Lit, EE v = l ∧ v = l.toCell ∧ l.keyWf := by
  cases c with
  | i k => obtain ⟨n, rfl, hw⟩ := Fc h; exact ⟨.int k n, rfl, rfl, hw⟩
  | b => obtain ⟨b, rfl⟩ := Es h; exact ⟨.bool b, rfl, rfl, trivial⟩
  | s => obtain ⟨s, rfl, hs⟩ := Fd h; exact ⟨.string s.data.toList, rfl, rfl, by show s.data.toList.length ≤ maxLen; simpa using hs⟩
theorem L4 {ks : List CK} : ∀ {l l' : List Value}, DV ks l = true → RelL φ l l' → l' = l := by
  induction ks with
  | nil => intro l l' h hr; rw [Cd h] at hr ⊢; cases hr; rfl
  | cons c ks ih =>
    intro l l' h hr
    obtain ⟨v, r, rfl, hc, hr'⟩ := CC h
    cases hr with
    | cons hv ht =>
      rw [ih hr' ht]
      congr 1
      cases c with
      | i k => obtain ⟨n, rfl, _⟩ := Fc hc; exact hv.int_inv
      | b => obtain ⟨n, rfl⟩ := Es hc; exact hv.bool_inv
      | s => obtain ⟨n, rfl, _⟩ := Fd hc; exact hv.string_inv
theorem EQ {x : Value} (hne : ∀ l, x ≠ .agg l) : cellsOf x = [x] := by
  unfold cellsOf
  split
  · rename_i l; exact absurd rfl (hne l)
  · rfl
theorem Ca {K : KS} {x : Value} (h : Ef K x = true) : DV K.ks (cellsOf x) = true ∧ cellsOf x = x.cells.toList ∧ ((K.agg = true ∧ ∃ l, x = .agg ⟨l⟩) ∨ (K.agg = false ∧ (∀ l, x ≠ .agg l) ∧ ∀ l, x ≠ .tuple l)) := by
  unfold Ef at h
  split at h
  · rename_i cs
    split at h
    · rename_i ha
      exact ⟨h, rfl, .inl ⟨ha, cs.toList, rfl⟩⟩
    · cases h
  · rename_i hne
    split at h
    · cases h
    · rename_i ha
      have hne' : ∀ l, x ≠ .agg l := fun l e => hne l e
      have hc : cellsOf x = [x] := by
        unfold cellsOf
        split
        · rename_i l; exact absurd rfl (hne' l)
        · rfl
      have hnt : ∀ l, x ≠ .tuple l := by
        intro l e
        subst e
        cases hk : K.ks with
        | nil => rw [hk] at h; cases h
        | cons c ks =>
          rw [hk] at h
          obtain ⟨v, r, e, hc, _⟩ := CC h
          cases e
          cases c <;> cases hc
      refine ⟨by rw [hc]; exact h, ?_, .inr ⟨ha, hne', hnt⟩⟩
      rw [hc]
      cases x <;> first | rfl | exact absurd rfl (hne' _) | exact absurd rfl (hnt _)
theorem Gw {K : KS} {x x' : Value} (h : Ef K x = true) (hr : RelV φ x x') : x' = x := by
  obtain ⟨h1, h2, h3⟩ := Ca h
  rcases h3 with ⟨_, l, rfl⟩ | ⟨_, hne, hnt⟩
  · cases hr with
    | agg hr => rw [L4 h1 hr]; rfl
  · have hc : cellsOf x = [x] := EQ hne
    rw [hc] at h1
    have := L4 h1 (.cons hr .nil)
    exact List.cons.inj this |>.1
theorem JI {α β : Type} {f : α → Option β} {g : α → β} : ∀ {L : List α}, (∀ x ∈ L, f x = some (g x)) → L.mapM f = some (L.map g)
  | [], _ => rfl
  | x :: L, h => by
    rw [List.mapM_cons, h x (by simp), JI fun y hy => h y (by simp [hy])]; rfl
theorem L5 {ks : List CK} : ∀ {m : Nat} {cs : List Value}, DV (A6 ks m) cs = true → cs.length = m * ks.length ∧ ∀ i, i < m → DV ks ((cs.drop (i * ks.length)).take ks.length) = true
  | 0, cs, h => by
    refine ⟨?_, fun i hi => absurd hi (Nat.not_lt_zero _)⟩
    rw [Cd h]; simp
  | m + 1, cs, h => by
    have h : DV (ks ++ A6 ks m) cs = true := h
    obtain ⟨h1, h2⟩ := Fe h
    obtain ⟨h3, h4⟩ := L5 h2
    have hl := Gx h1
    refine ⟨?_, fun i hi => ?_⟩
    · simp only [List.length_take, List.length_drop] at hl h3
      rw [Nat.succ_mul]; omega
    · cases i with
      | zero => simpa using h1
      | succ i =>
        have := h4 i (by omega)
        rw [List.drop_drop] at this
        rw [Nat.succ_mul, Nat.add_comm]
        exact this
theorem L7 {P : Program} {rec : Nat → Option (List CK)} : ∀ {L : List Field} {off : Nat} {ks : List CK}, flatK.flatF rec off (L.map fun f => (f.offset, P.cellsOf f.type, f.type)) = some ks →
    (∀ f ∈ L, ∃ kf, rec f.type = some kf) ∧
    ∀ cs : List Value, DV ks (cs.drop off) = true → (∀ f ∈ L, ∀ kf, rec f.type = some kf → DV kf ((cs.drop f.offset).take (P.cellsOf f.type)) = true) ∧
      ((L.map fun f => (cs.drop f.offset).take (P.cellsOf f.type)).flatten = cs.drop off)
  | [], off, ks, hk => by
    cases hk
    refine ⟨(fun f hf => by cases hf), fun cs h => ⟨(fun f hf => by cases hf), ?_⟩⟩
    rw [Cd h]; rfl
  | f :: L, off, ks, hk => by
    rw [List.map_cons] at hk
    unfold flatK.flatF at hk
    split at hk
    case h_2 => cases hk
    rename_i ho
    split at hk
    case h_2 => cases hk
    rename_i kf hkf
    split at hk
    case h_2 => cases hk
    rename_i hl
    split at hk
    case h_2 => cases hk
    rename_i r hr
    cases hk
    have ho : f.offset = off := AZ.1 ho
    have hl : kf.length = P.cellsOf f.type := by rw [← AZ.1 hl, BD]
    obtain ⟨i1, i2⟩ := L7 hr
    refine ⟨fun g hg => ?_, fun cs h => ?_⟩
    · rcases List.mem_cons.1 hg with rfl | hg
      · exact ⟨kf, hkf⟩
      · exact i1 g hg
    · obtain ⟨h1, h2⟩ := Fe h
      rw [hl] at h1 h2
      rw [List.drop_drop] at h2
      obtain ⟨i3, i4⟩ := i2 cs h2
      refine ⟨fun g hg kg hkg => ?_, ?_⟩
      · rcases List.mem_cons.1 hg with rfl | hg
        · rw [hkf] at hkg; cases hkg
          rw [ho]; exact h1
        · exact i3 g hg kg hkg
      · rw [List.map_cons, List.flatten_cons, i4, ho]
        have : cs.drop (Nat.add off (P.cellsOf f.type)) = (cs.drop off).drop (P.cellsOf f.type) := by rw [List.drop_drop]; rfl
        rw [this, List.take_append_drop]
theorem Kz {t : Nat} {fs : Array Field} (hu : P.underlying t = some (.struct fs)) (hf : fineS P t = true) :
    (∀ f ∈ fs.toList, (f.name != "_") = true) ∧ (!(P.cutTypes.any (·.2 == t)) && !P.stoodInHeld t) = true := by
  unfold fineS at hf
  rw [hu] at hf
  simp only [Bool.and_eq_true, Array.all_eq_true_iff_forall_mem] at hf
  obtain ⟨⟨h1, h2⟩, h3⟩ := hf
  exact ⟨fun f hm => h1 f (Array.mem_toList_iff.1 hm), by rw [h2, h3]; rfl⟩
theorem De (hT : CL P ty) : ∀ (n t : Nat) (ks : List CK), flatK ty n t = some ks →
    P.keyTypeAt n t = true ∧ (∀ d, n ≤ d → P.eqGuardType d t = false) ∧ (∀ ti, ty.get t = some ti → ti.k.agg = true → ks.length = ti.size) ∧
    ∀ cs, DV ks cs = true → P.keyLits n t cs = some (cs.map EE)
  | 0, t, ks, h => by cases h
  | n + 1, t, ks, h => by
    unfold flatK at h
    cases hg : ty.get t with
    | none => rw [hg] at h; cases h
    | some ti =>
      simp only [hg] at h
      have T := hT t ti hg
      obtain ⟨d, hd, hk⟩ := T.und
      have hcell := T.cells
      have plain : ∀ {d : TypeDesc}, (match d with | .interface _ => true | .struct _ => true | .array _ _ => true | _ => false) = false → P.underlying t = some d → ∀ q, n + 1 ≤ q → P.eqGuardType q t = false := by
        intro d h1 hd q hq
        cases q with
        | zero => omega
        | succ q => unfold Program.eqGuardType; rw [hd]; cases d <;> first | rfl | cases h1
      cases hkk : ti.k with
      | int k =>
        simp only [hkk] at h; rw [hkk] at hk; cases hk; cases h
        refine ⟨by unfold Program.keyTypeAt; rw [hd], plain rfl hd, (fun ti' ht' ha => by cases ht'; rw [hkk] at ha; cases ha), fun cs hf => ?_⟩
        obtain ⟨v, r, rfl, hc, hr⟩ := CC hf
        obtain rfl := Cd hr
        obtain ⟨m, rfl, hw⟩ := Fc hc
        unfold Program.keyLits; rw [hd]
        simp [hw, EE]
      | bool =>
        simp only [hkk] at h; rw [hkk] at hk; cases hk; cases h
        refine ⟨by unfold Program.keyTypeAt; rw [hd], plain rfl hd, (fun ti' ht' ha => by cases ht'; rw [hkk] at ha; cases ha), fun cs hf => ?_⟩
        obtain ⟨v, r, rfl, hc, hr⟩ := CC hf
        obtain rfl := Cd hr
        obtain ⟨m, rfl⟩ := Es hc
        unfold Program.keyLits; rw [hd]
        simp [EE]
      | string =>
        simp only [hkk] at h; rw [hkk] at hk; cases hk; cases h
        refine ⟨by unfold Program.keyTypeAt; rw [hd], plain rfl hd, (fun ti' ht' ha => by cases ht'; rw [hkk] at ha; cases ha), fun cs hf => ?_⟩
        obtain ⟨v, r, rfl, hc, hr⟩ := CC hf
        obtain rfl := Cd hr
        obtain ⟨m, rfl, hw⟩ := Fd hc
        unfold Program.keyLits; rw [hd]
        simp [hw, EE]
      | arr m el =>
        simp only [hkk] at h; rw [hkk] at hk; cases hk
        split at h
        case h_2 => cases h
        rename_i ei hei
        split at h
        case h_2 => cases h
        rename_i ke hke
        split at h
        case h_2 => cases h
        rename_i hl
        split at h
        case h_2 => cases h
        rename_i hm
        cases h
        obtain ⟨i1, i2, _, i3⟩ := De hT n el ke hke
        have hce := (hT el ei hei).cells
        have hl : ke.length = ei.size := by rw [← AZ.1 hl, BD]
        have hm : m * ei.size = ti.size := AZ.1 hm
        have hrep : ∀ m, (A6 ke m).length = m * ke.length := by
          intro m
          induction m with
          | zero => simp [A6]
          | succ m ih => rw [A6, List.length_append, ih, Nat.succ_mul]; omega
        refine ⟨by unfold Program.keyTypeAt; rw [hd]; exact i1, fun q hq => ?_, (fun ti' ht' ha => by cases ht'; rw [hrep, hl, hm]), fun cs hf => ?_⟩
        · cases q with
          | zero => omega
          | succ q => unfold Program.eqGuardType; rw [hd]; exact i2 q (by omega)
        · obtain ⟨f1, f2⟩ := L5 hf
          have hlen : cs.length = P.cellsOf t := by rw [hcell, ← hm, f1, hl]
          have hmap : (List.range m).mapM (fun i => P.keyLits n el ((cs.drop (i * P.cellsOf el)).take (P.cellsOf el))) = some ((List.range m).map fun i => ((cs.drop (i * P.cellsOf el)).take (P.cellsOf el)).map EE) :=
            JI fun i hi => by
              rw [hce, ← hl]
              exact i3 _ (f2 i (List.mem_range.1 hi))
          unfold Program.keyLits
          rw [hd]
          simp only [hlen, if_true, hmap, Option.map_some]
          congr 1
          have := chunks_flatten (P.cellsOf el) m cs (by rw [hce, ← hl]; exact f1)
          conv => rhs; rw [← this]
          rw [List.map_flatten, List.map_map]; rfl
      | struct fs =>
        simp only [hkk] at h; rw [hkk] at hk
        cases hk with
        | @struct _ fields hfs _ =>
          split at h
          case h_2 => cases h
          rename_i ks' hks
          split at h
          case h_2 => cases h
          rename_i hl
          cases h
          have hl : ks.length = ti.size := by rw [← AZ.1 hl, BD]
          rw [← hfs] at hks
          obtain ⟨j1, j2⟩ := L7 hks
          obtain ⟨n1, n2⟩ := Kz hd T.fine
          refine ⟨?_, fun q hq => ?_, (fun ti' ht' ha => by cases ht'; exact hl), fun cs hf => ?_⟩
          · unfold Program.keyTypeAt
            rw [hd]
            simp only [Bool.and_assoc, n2, Bool.and_true]
            rw [Array.all_eq_true_iff_forall_mem]
            intro f hm
            obtain ⟨kf, hkf⟩ := j1 f (Array.mem_toList_iff.2 hm)
            rw [n1 f (Array.mem_toList_iff.2 hm), (De hT n f.type kf hkf).1]; rfl
          · cases q with
            | zero => omega
            | succ q =>
              unfold Program.eqGuardType; rw [hd]
              simp only
              rw [Array.any_eq_false]
              intro i hi
              obtain ⟨kf, hkf⟩ := j1 fields[i] (Array.mem_toList_iff.2 (Array.getElem_mem hi))
              rw [(De hT n _ kf hkf).2.1 q (by omega)]; simp
          · have hf0 : DV ks (cs.drop 0) = true := hf
            obtain ⟨k1, k2⟩ := j2 cs hf0
            have hlen : cs.length = P.cellsOf t := by rw [hcell, ← hl, Gx hf]
            have hmap : fields.toList.mapM (fun f => P.keyLits n f.type ((cs.drop f.offset).take (P.cellsOf f.type))) = some (fields.toList.map fun f => ((cs.drop f.offset).take (P.cellsOf f.type)).map EE) :=
              JI fun f hm => by
                obtain ⟨kf, hkf⟩ := j1 f hm
                exact (De hT n f.type kf hkf).2.2.2 _ (k1 f hm kf hkf)
            have hall : fields.all (·.name != "_") = true := by
              rw [Array.all_eq_true_iff_forall_mem]
              intro f hm
              exact n1 f (Array.mem_toList_iff.2 hm)
            unfold Program.keyLits
            rw [hd]
            simp only [hlen, hall, and_self, if_true, hmap, Option.map_some]
            congr 1
            have : cs = cs.drop 0 := rfl
            conv => rhs; rw [this, ← k2]
            rw [List.map_flatten, List.map_map]; rfl
      | _ => simp only [hkk] at h; cases h
theorem Hb {c : CK} {a b : Value} (ha : IF c a = true) (hb : IF c b = true) {r : Bool} (hr : Iq a b = some r) : r = true ↔ EE a = EE b := by
  cases c with
  | i k =>
    obtain ⟨m, rfl, _⟩ := Fc ha
    obtain ⟨n, rfl, _⟩ := Fc hb
    unfold Iq at hr
    simp only at hr
    split at hr
    · cases hr; rw [Cp]; simp [EE]
    · cases hr
  | b =>
    obtain ⟨m, rfl⟩ := Es ha
    obtain ⟨n, rfl⟩ := Es hb
    unfold Iq at hr
    cases hr; simp [EE]
  | s =>
    obtain ⟨m, rfl, _⟩ := Fd ha
    obtain ⟨n, rfl, _⟩ := Fd hb
    unfold Iq at hr
    cases hr; rw [GP]; simp [EE]
theorem It : ∀ {ks : List CK} {a b : List Value}, DV ks a = true → DV ks b = true → ∀ {r : Bool}, E6 a b = some r → (r = true ↔ a.map EE = b.map EE)
  | [], a, b, ha, hb, r, hr => by
    rw [Cd ha, Cd hb] at *
    cases hr; simp
  | c :: ks, a, b, ha, hb, r, hr => by
    obtain ⟨x, a, rfl, hx, ha⟩ := CC ha
    obtain ⟨y, b, rfl, hy, hb⟩ := CC hb
    unfold E6 at hr
    split at hr
    · rename_i h1
      have i1 := (Hb hx hy h1).1 rfl
      rw [It ha hb hr]
      simp [i1]
    · rename_i h1
      cases hr
      have i1 := Hb hx hy h1
      simp only [List.map_cons, List.cons.injEq]
      constructor
      · intro h; cases h
      · intro h; exact i1.2 h.1
    · cases hr
structure KeyOf (P : Program) (ty : TTy) (t : Nat) (K : KS) : Prop where
  ti : ∃ ti, ty.get t = some ti ∧ K.agg = ti.k.agg
  flat : flatK ty 8 t = some K.ks
theorem KeyOf.formed (hT : CL P ty) {t : Nat} {K : KS} (hK : KeyOf P ty t K) {x : Value} (hx : Ef K x = true) : x.formed P t = true ∧ P.keyLits 8 t x.cells.toList = some ((cellsOf x).map EE) := by
  obtain ⟨ti, hti, ha⟩ := hK.ti
  obtain ⟨_, _, f3, f4⟩ := De hT 8 t K.ks hK.flat
  obtain ⟨h1, h2, h3⟩ := Ca hx
  have T := hT t ti hti
  obtain ⟨d, hd, hk⟩ := T.und
  refine ⟨?_, by rw [← h2]; exact f4 _ h1⟩
  rcases h3 with ⟨hag, l, rfl⟩ | ⟨hag, hne, hnt⟩
  · rw [ha] at hag
    have hs := f3 ti hti hag
    have hl := Gx h1
    unfold Value.formed
    rw [hd]
    have hsz : (Array.mk l).size = P.cellsOf t := by
      have : l.length = K.ks.length := hl
      rw [T.cells, ← hs, ← this]; rfl
    generalize ti.k = kk at hk hag
    cases hk <;> first | (cases hag; done) | (simp only [hsz]; exact beq_self_eq_true _)
  · rw [ha] at hag
    have : (match P.underlying t with | some (.struct _) => false | some (.array _ _) => false | _ => true) = true := by
      rw [hd]
      generalize ti.k = kk at hk hag
      cases hk <;> first | rfl | (cases hag; done) | skip
      rename_i ho
      cases d <;> first | rfl | cases ho
    unfold Value.formed
    cases x <;> first | exact absurd rfl (hne _) | exact absurd rfl (hnt _) | exact this
theorem KeyOf.equal (hT : CL P ty) {t : Nat} {K : KS} (hK : KeyOf P ty t K) {x y : Value} (hx : Ef K x = true) (hy : Ef K y = true) {r : Bool} (hr : E6 (cellsOf x) (cellsOf y) = some r) (w : World) :
    (Op.equal t x y).run P w = .ok r w := by
  obtain ⟨f1, f2⟩ := hK.formed hT hx
  obtain ⟨g1, g2⟩ := hK.formed hT hy
  obtain ⟨k1, _⟩ := De hT 8 t K.ks hK.flat
  obtain ⟨r', hr', hiff⟩ := run_equalIn_deep (P := P) 9992 8 t k1 w _ _ x y _ _ f1 g1 f2 g2
  have := It (Ca hx).1 (Ca hy).1 hr
  have e : r' = r := by
    rw [Bool.eq_iff_iff, hiff, this]
  rw [← e]; exact hr'
theorem KeyOf.check (hT : CL P ty) {t : Nat} {K : KS} (hK : KeyOf P ty t K) {x : Value} (hx : Ef K x = true) (em : Bool) (w : World) : (Instr.checkKey em 10000 t x).run P w = .ok () w := by
  obtain ⟨f1, f2⟩ := hK.formed hT hx
  obtain ⟨k1, _⟩ := De hT 8 t K.ks hK.flat
  exact run_checkKey_deep (P := P) em 9992 8 t k1 w _ x _ f1 f2
theorem Kx {t : Nat} {d : TypeDesc} (hd : P.underlying t = some d) (n : Nat) {a b : Value} {c : Bool} (hs : Instr.sameNow d a b = some c) (w : World) : (Op.equalIn (n + 1) t a b).run P w = .ok c w := by
  unfold Instr.sameNow at hs
  split at hs
  · split at hs
    · rename_i hkk
      cases hs
      simp [Op.equalIn, run_underlying hd, hkk]
    · cases hs
  · cases hs; simp [Op.equalIn, run_underlying hd]
  · cases hs; simp [Op.equalIn, run_underlying hd]
  · cases hs
theorem Gv {t : Nat} {d : TypeDesc} (hd : P.underlying t = some d) {k : Value} : ∀ {es : List MapEntry} {i : Nat} {r : Option (Nat × Value)}, Instr.findNow d k es i = some r → ∀ w : World, (Instr.findAsking t k es i).run P w = .ok r w
  | [], i, r, h, w => by cases h; simp [Instr.findAsking]
  | e :: es, i, r, h, w => by
    have same : ∀ {a b : Value} {c : Bool}, Instr.sameNow d a b = some c → (Op.equal t a b).run P w = .ok c w := fun hs => Kx hd 9999 hs w
    unfold Instr.findNow at h
    split at h
    · rename_i hs
      cases h
      simp [Instr.findAsking, same hs]
    · rename_i hs
      have := Gv hd h w
      simp [Instr.findAsking, same hs, this]
    · cases h
theorem C5 {t : Nat} {d : TypeDesc} (hd : P.underlying t = some d) {k : Value} {es : List MapEntry} {r : Option (Nat × Value)} (hr : (Instr.findAsking t k es 0).run P w = .ok r w) : (Instr.findKey t k es).run P w = .ok r w := by
  unfold Instr.findKey
  simp only [Sem.run_bind, run_underlying hd, Result.andThen_ok]
  cases hn : Instr.findNow d k es 0 with
  | none => exact hr
  | some r' =>
    have := Gv hd hn w
    rw [hr] at this
    cases this
    simp
theorem D5 (hT : CL P ty) {t : Nat} {K : KS} (hK : KeyOf P ty t K) {x y y' : Value} (hx : Ef K x = true) (hy : RelV φ y y') {r : Bool} (hr : H9 K x y = some r) (w : World) : (Op.equal t x y').run P w = .ok r w ∧ Ef K y = true ∧ y' = y := by
  unfold H9 at hr
  split at hr
  · rename_i hf
    have := Gw hf hy
    subst this
    exact ⟨hK.equal hT hx hf hr w, hf, rfl⟩
  · cases hr
theorem I3 (hT : CL P ty) {t : Nat} {K : KS} (hK : KeyOf P ty t K) {x : Value} (hx : Ef K x = true) (w : World) : ∀ {es : List Ent} {es' : List MapEntry} (i : Nat), RelE φ es es' → ∀ {r : Option Ent}, J9 K x es = some r →
    match r with
    | none => (Instr.findAsking t x es' i).run P w = .ok none w
    | some e => ∃ j v', (Instr.findAsking t x es' i).run P w = .ok (some (j, v')) w ∧ RelV φ e.val v'
  | _, _, i, .nil, r, h => by cases h; simp [Instr.findAsking]
  | _, _, i, .cons (k := k) (k' := k') (v := v) (v' := v') (b := b) (l := l) (l' := l') hk hv ht, r, h => by
    unfold J9 at h
    split at h
    · rename_i he
      cases h
      obtain ⟨h1, _⟩ := D5 hT hK hx hk he w
      exact ⟨i, v', by simp [Instr.findAsking, h1], hv⟩
    · rename_i he
      obtain ⟨h1, _⟩ := D5 hT hK hx hk he w
      have ih := I3 hT hK hx w (i + 1) ht h
      cases r with
      | none => simpa [Instr.findAsking, h1] using ih
      | some e =>
        obtain ⟨j, u, hj, hu⟩ := ih
        exact ⟨j, u, by simp [Instr.findAsking, h1, hj], hu⟩
    · cases h
theorem L6 {c : CK} {x : Value} (h : IF c x = true) (n : Nat) : Instr.sameBits n x x = true := by
  obtain ⟨l, _, rfl, hw⟩ := GS h
  exact sameBits_toCell hw n
theorem QB {ks : List CK} (n : Nat) : ∀ {l : List Value}, DV ks l = true → (l.zip l).all (fun (x, y) => Instr.sameBits n x y) = true := by
  induction ks with
  | nil => intro l h; rw [Cd h]; rfl
  | cons c ks ih =>
    intro l h
    obtain ⟨v, r, rfl, hc, hr⟩ := CC h
    simp only [List.zip_cons_cons, List.all_cons, L6 hc, ih hr, Bool.and_self]
theorem QA {K : KS} {x : Value} (h : Ef K x = true) (n : Nat) : Instr.sameBits (n + 1) x x = true := by
  obtain ⟨h1, _, h3⟩ := Ca h
  rcases h3 with ⟨_, l, rfl⟩ | ⟨_, hne, hnt⟩
  · unfold Instr.sameBits
    simp only [beq_self_eq_true, Bool.true_and]
    exact QB n h1
  · have hc : cellsOf x = [x] := EQ hne
    rw [hc] at h1
    cases hk : K.ks with
    | nil => rw [hk] at h1; cases h1
    | cons c ks =>
      rw [hk] at h1
      obtain ⟨v, r, e, hcc, _⟩ := CC h1
      cases e
      exact L6 hcc _
theorem Ir : ∀ {ks : List CK} {a b : List Value}, DV ks a = true → DV ks b = true → E6 a b = some true → a = b
  | [], a, b, ha, hb, _ => by rw [Cd ha, Cd hb]
  | c :: ks, a, b, ha, hb, hr => by
    obtain ⟨x, a, rfl, hx, ha⟩ := CC ha
    obtain ⟨y, b, rfl, hy, hb⟩ := CC hb
    unfold E6 at hr
    split at hr
    · rename_i h1
      have i1 := (Hb hx hy h1).1 rfl
      rw [Ir ha hb hr]
      obtain ⟨l, e1, e2, _⟩ := GS hx
      obtain ⟨m, e3, e4, _⟩ := GS hy
      rw [e2, e4, ← e1, ← e3, i1]
    · cases hr
    · cases hr
theorem OI {K : KS} {x y : Value} (hx : Ef K x = true) (hr : H9 K x y = some true) : x = y := by
  unfold H9 at hr
  split at hr
  · rename_i hf
    obtain ⟨h1, h2, h3⟩ := Ca hx
    obtain ⟨g1, g2, g3⟩ := Ca hf
    have := Ir h1 g1 hr
    rcases h3 with ⟨ha, l, rfl⟩ | ⟨ha, hne, hnt⟩
    · rcases g3 with ⟨_, m, rfl⟩ | ⟨hb, _⟩
      · have : l = m := this
        rw [this]
      · rw [ha] at hb; cases hb
    · rcases g3 with ⟨hb, _⟩ | ⟨_, gne, gnt⟩
      · rw [ha] at hb; cases hb
      · have c1 : cellsOf x = [x] := EQ hne
        have c2 : cellsOf y = [y] := EQ gne
        rw [c1, c2] at this
        exact List.cons.inj this |>.1
  · cases hr
theorem Ia (hT : CL P ty) {t : Nat} {K : KS} (hK : KeyOf P ty t K) {x : Value} (hx : Ef K x = true) {u u' : Value} (hu : RelV φ u u') (hxx : RelV φ x x) (w : World) : ∀ {es : List Ent} {es' : List MapEntry} (i : Nat), RelE φ es es' → ∀ {r : Option (List Ent)}, NJ K x u es = some r →
    match r with
    | none => (Instr.findAsking t x es' i).run P w = .ok none w
    | some es2 => ∃ j v' en, (Instr.findAsking t x es' i).run P w = .ok (some (i + j, v')) w ∧ es'[j]? = some en ∧ en.key = x ∧ RelE φ es2 (es'.modify j fun e => { e with key := x, val := u' })
  | _, _, i, .nil, r, h => by cases h; simp [Instr.findAsking]
  | _, _, i, .cons (k := k) (k' := k') (v := v) (v' := v') (b := b) (l := l) (l' := l') hk hv ht, r, h => by
    unfold NJ at h
    split at h
    · rename_i he
      cases h
      obtain ⟨h1, _, h2⟩ := D5 hT hK hx hk he w
      have h3 := OI hx he
      exact ⟨0, v', ⟨k', v', b⟩, by simp [Instr.findAsking, h1], rfl, by simp only; rw [h2]; exact h3.symm, by simpa using RelE.cons hxx hu ht⟩
    · rename_i he
      obtain ⟨h1, _⟩ := D5 hT hK hx hk he w
      split at h
      · rename_i es2 hs
        cases h
        obtain ⟨j, v2, en, e1, e2, e3, e4⟩ := Ia hT hK hx hu hxx w (i + 1) ht hs
        refine ⟨j + 1, v2, en, ?_, by simpa using e2, e3, by simpa using RelE.cons hk hv e4⟩
        simp only [Instr.findAsking, Sem.run_bind, h1, Result.andThen_ok, Bool.false_eq_true, if_false]
        rw [e1]; congr 3; omega
      · rename_i hs
        cases h
        have := Ia hT hK hx hu hxx w (i + 1) ht hs
        simpa [Instr.findAsking, h1] using this
      · cases h
    · cases h
theorem O5 (hT : CL P ty) {t : Nat} {K : KS} (hK : KeyOf P ty t K) {x : Value} (hx : Ef K x = true) (w : World) : ∀ {es : List Ent} {es' : List MapEntry} (i : Nat), RelE φ es es' → ∀ {es2 : List Ent}, VV K x es = some es2 →
    ((Instr.findAsking t x es' i).run P w = .ok none w ∧ es2 = es) ∨ ∃ j v', (Instr.findAsking t x es' i).run P w = .ok (some (i + j, v')) w ∧ RelE φ es2 (es'.eraseIdx j)
  | _, _, i, .nil, es2, h => by cases h; exact .inl ⟨by simp [Instr.findAsking], rfl⟩
  | _, _, i, .cons (k := k) (k' := k') (v := v) (v' := v') (b := b) (l := l) (l' := l') hk hv ht, es2, h => by
    unfold VV at h
    split at h
    · rename_i he
      cases h
      obtain ⟨h1, _⟩ := D5 hT hK hx hk he w
      exact .inr ⟨0, v', by simp [Instr.findAsking, h1], by simpa using ht⟩
    · rename_i he
      obtain ⟨h1, _⟩ := D5 hT hK hx hk he w
      split at h
      · rename_i l2 hs
        cases h
        rcases O5 hT hK hx w (i + 1) ht hs with ⟨e1, e2⟩ | ⟨j, v2, e1, e2⟩
        · exact .inl ⟨by simp [Instr.findAsking, h1, e1], by rw [e2]⟩
        · refine .inr ⟨j + 1, v2, ?_, by simpa using RelE.cons hk hv e2⟩
          simp only [Instr.findAsking, Sem.run_bind, h1, Result.andThen_ok, Bool.false_eq_true, if_false]
          rw [e1]; congr 3; omega
      · cases h
    · cases h
theorem Ox {x : Ent} : ∀ {es : List Ent}, UN x es = es ++ [x]
  | [] => rfl
  | e :: es => by unfold UN; rw [Ox]; rfl
theorem RelE.append {x : Ent} {x' : MapEntry} (hx : RelE φ [x] [x']) : ∀ {es : List Ent} {es' : List MapEntry}, RelE φ es es' → RelE φ (es ++ [x]) (es' ++ [x'])
  | _, _, .nil => hx
  | _, _, .cons hk hv t => .cons hk hv (RelE.append hx t)
theorem I5 {K : KS} {x x' : Value} (h : Ef K x = true) (hr : RelV φ x x') : x' = x ∧ RelV φ x x := by
  have := Gw h hr
  subst this
  exact ⟨rfl, hr⟩
end
end
end Go.Proofs.YtfeldadhbnmklaaGreat
set_option linter.unusedSimpArgs false
set_option linter.unusedVariables false
namespace Go.Proofs.YtfeldadhbnmklaaGreat
noncomputable section
open Go
section
variable {P : Program} {ty : TTy} {φ : Phi} {E : Nat → Prop} {h h' : Hp} {w : World} {F : CallF} {e : Env} {v : Value} {f : Fr}
def PJ : Value → Bool
  | .bool _ | .pointer _ | .slice _ _ _ | .map _ | .func _ _ _ | .nilFunc => true
  | _ => false
theorem RS {op : BinOp} {neg : Bool} (hop : (op = .eql ∧ neg = false) ∨ (op = .neq ∧ neg = true)) {t : TypeId} {X Y : Operand} {a b : Value} (ha : PJ a = true ∨ ∃ l, a = .agg l) (hg : (eqGuard op t X Y a b).run P w = .ok () w)
    {r : Bool} (hr : (Op.equal t a b).run P w = .ok r w) : (BP op t X Y a b).run P w = .ok (.bool (neg != r)) w := by
  unfold BP
  rw [Sem.run_bind, hg, Result.andThen_ok]
  have : binOp op t a b = (do pure (.bool (neg != (← Op.equal t a b)))) := by
    rcases hop with ⟨rfl, rfl⟩ | ⟨rfl, rfl⟩
    · rcases ha with ha | ⟨l, rfl⟩
      · cases a <;> first | (cases ha; done) | skip
        all_goals (simp [binOp]; try rfl)
      · simp [binOp]
    · rcases ha with ha | ⟨l, rfl⟩
      · cases a <;> first | (cases ha; done) | skip
        all_goals (simp [binOp]; try rfl)
      · simp [binOp]
  rw [this, Sem.run_bind, hr, Result.andThen_ok, Sem.run_pure]
theorem N7 {op : BinOp} {t : TypeId} {X Y : Operand} {a b : Value} (ha : PJ a = true) : (eqGuard op t X Y a b).run P w = .ok () w := by
  cases op <;> first | rfl | skip
  all_goals (cases a <;> first | (cases ha; done) | rfl)
theorem QL {op : BinOp} {t : TypeId} {X Y : Operand} {a b : Array Value} (hg : P.eqGuardType P.depth t = false) : (eqGuard op t X Y (.agg a) (.agg b)).run P w = .ok () w := by
  cases op <;> first | rfl | skip
  all_goals (simp [eqGuard, hg])
theorem aJ (n : Nat) {k : TK} {x y x' y' : Value} {r : Bool} (hr : eqV k x y = some r) (hx : RelV φ x x') (hy : RelV φ y y') {t : Nat} {d : TypeDesc} (hd : P.underlying t = some d) (hk : KOk P k d) (w : World) :
    PJ x' = true ∧ (Op.equalIn (n + 1) t x' y').run P w = .ok r w := by
  unfold eqV at hr
  split at hr
  case h_11 => cases hr
  all_goals (cases hr; cases hk; first | skip | (rename_i ho; cases ho))
  all_goals (cases hx; cases hy)
  all_goals (refine ⟨rfl, ?_⟩; simp [Op.equalIn, run_underlying hd])
theorem aK {k : TK} {x y x' y' : Value} {r : Bool} (hr : eqV k x y = some r) (hx : RelV φ x x') (hy : RelV φ y y') {t : Nat} {d : TypeDesc} (hd : P.underlying t = some d) (hk : KOk P k d) (w : World) :
    PJ x' = true ∧ (Op.equal t x' y').run P w = .ok r w := aJ 9999 hr hx hy hd hk w
theorem Sq (H : RelW ty φ E h w) {k : TK} {op : BinOp} {neg : Bool} (hop : (op = .eql ∧ neg = false) ∨ (op = .neq ∧ neg = true)) {t : Nat} {ti : TI} (T : TyOk P t ti) (hk : ti.k = k) {X Y : Operand} {x y : O} {x' y' : Value}
    (hx : RelV φ (x e) x') (hy : RelV φ (y e) y') (hr : oEq k neg x y F e h = .ok v h') : A8 ty φ E h w v h' ((BP op t X Y x' y').run P w) := by
  obtain ⟨d, hd, hkd⟩ := T.und
  rw [hk] at hkd
  unfold oEq at hr
  split at hr
  case h_2 => cases hr
  rename_i r hq
  obtain ⟨rfl, rfl⟩ := Gc hr
  obtain ⟨h1, h2⟩ := aK hq hx hy hd hkd w
  rw [RS hop (.inl h1) (N7 h1) h2]
  exact .same H (.bool _)
theorem Mo (H : RelW ty φ E h w) {op : BinOp} {neg : Bool} (hop : (op = .eql ∧ neg = false) ∨ (op = .neq ∧ neg = true)) {t : Nat} {ti : TI} (T : TyOk P t ti) (hk : ti.k = .iface) {X : Operand} {x : O} {x' : Value}
    (hx : RelV φ (x e) x') (hr : Kb neg x F e h = .ok v h') : A8 ty φ E h w v h' ((BP op t X (.const .nilIface) x' .nilIface).run P w) := by
  obtain ⟨d, hd, hkd⟩ := T.und
  rw [hk] at hkd
  have main : ∀ (a : Value) (r : Bool), ((a = .nilIface ∧ r = true) ∨ ((∃ t v, a = .iface t v) ∧ r = false)) → (BP op t X (.const .nilIface) a .nilIface).run P w = .ok (.bool (neg != r)) w := by
    intro a r ha
    cases hkd with
    | iface ms =>
    unfold BP
    have hg : (eqGuard op t X (.const .nilIface) a .nilIface).run P w = .ok () w := by
      cases op <;> first | rfl | skip
      all_goals (rcases ha with ⟨rfl, _⟩ | ⟨⟨t, v, rfl⟩, _⟩ <;> simp [eqGuard])
    have he1 : ∀ n, (Op.equalIn (n + 1) t a .nilIface).run P w = .ok r w := fun n => by
      rcases ha with ⟨rfl, rfl⟩ | ⟨⟨t, v, rfl⟩, rfl⟩ <;> simp [Op.equalIn, run_underlying hd]
    have he : (Op.equal t a .nilIface).run P w = .ok r w := he1 9999
    have hb : binOp op t a .nilIface = (do pure (.bool (neg != (← Op.equal t a .nilIface)))) := by
      rcases hop with ⟨rfl, rfl⟩ | ⟨rfl, rfl⟩ <;> rcases ha with ⟨rfl, rfl⟩ | ⟨⟨t, v, rfl⟩, rfl⟩ <;> (simp [binOp]; try rfl)
    rw [Sem.run_bind, hg, Result.andThen_ok, hb, Sem.run_bind, he, Result.andThen_ok, Sem.run_pure]
  have hr : Sf neg (x e) h = .ok v h' := hr
  generalize x e = u at hx hr
  unfold Sf at hr
  split at hr
  · obtain ⟨rfl, rfl⟩ := Gc hr
    cases hx
    rw [main _ true (.inl ⟨rfl, rfl⟩)]; exact .same H (.bool _)
  · obtain ⟨rfl, rfl⟩ := Gc hr
    cases hx with
    | iface t h => rw [main _ false (.inr ⟨⟨_, _, rfl⟩, rfl⟩)]; exact .same H (.bool _)
  · cases hr
theorem IW (hT : CL P ty) (H : RelW ty φ E h w) {K : KS} {op : BinOp} {neg : Bool} (hop : (op = .eql ∧ neg = false) ∨ (op = .neq ∧ neg = true)) {t : Nat} {ti : TI} (hti : ty.get t = some ti) (hk : ti.k.agg = true) (hf : flatK ty 8 t = some K.ks) (ha : K.agg = true)
    {X Y : Operand} {x y : O} {x' y' : Value} (hx : RelV φ (x e) x') (hy : RelV φ (y e) y') (hr : Mh K neg x y F e h = .ok v h') : A8 ty φ E h w v h' ((BP op t X Y x' y').run P w) := by
  have T := hT t ti hti
  have hK : KeyOf P ty t K := ⟨⟨ti, hti, by rw [ha, hk]⟩, hf⟩
  unfold Mh eqC at hr
  split at hr
  case h_2 => cases hr
  rename_i r hq
  split at hq
  case h_2 => cases hq
  rename_i hfx
  obtain ⟨rfl, rfl⟩ := Gc hr
  have e1 := Gw hfx hx
  obtain ⟨h1, hfy, e2⟩ := D5 hT hK hfx hy hq w
  rw [← e1] at hfx
  have hgt := (De hT 8 t K.ks hf).2.1 P.depth T.deep
  obtain ⟨_, _, g1⟩ := Ca hfx
  obtain ⟨_, _, g2⟩ := Ca hfy
  rw [← e2] at g2
  rcases g1 with ⟨_, l, hl⟩ | ⟨hb, _⟩
  · rcases g2 with ⟨_, m, hm⟩ | ⟨hb, _⟩
    · rw [← e1] at h1
      have hg : (eqGuard op t X Y x' y').run P w = .ok () w := by rw [hl, hm]; exact QL hgt
      rw [RS hop (.inr ⟨_, hl⟩) hg h1]
      exact .same H (.bool _)
    · rw [ha] at hb; cases hb
  · rw [ha] at hb; cases hb
end
end
end Go.Proofs.YtfeldadhbnmklaaGreat
set_option linter.unusedSimpArgs false
set_option linter.unusedVariables false
namespace Go.Proofs.YtfeldadhbnmklaaGreat
noncomputable section
open Go
section
variable {P : Program} {ty : TTy} {φ : Phi} {E : Nat → Prop} {h h' : Hp} {w : World} {F : CallF} {e : Env} {v : Value} {f : Fr}
theorem BE {t : Nat} {k : TI → OpF} (hr : wTy ty t k F e h = .ok v h') : ∃ ti, ty.get t = some ti ∧ k ti F e h = .ok v h' := by
  unfold wTy at hr
  cases hg : ty.get t with
  | none => rw [hg] at hr; cases hr
  | some ti => rw [hg] at hr; exact ⟨ti, rfl, hr⟩
theorem CX {x : Operand} {k : O → OpF} (hr : w1 f x k F e h = .ok v h') : ∃ y, cO f x = some y ∧ k y F e h = .ok v h' := by
  unfold w1 at hr
  cases hg : cO f x with
  | none => rw [hg] at hr; cases hr
  | some y => rw [hg] at hr; exact ⟨y, rfl, hr⟩
theorem HO {x y : Operand} {k : O → O → OpF} (hr : w2 f x y k F e h = .ok v h') : ∃ x' y', cO f x = some x' ∧ cO f y = some y' ∧ k x' y' F e h = .ok v h' := by
  unfold w2 at hr
  obtain ⟨x', hx, hr⟩ := CX hr
  obtain ⟨y', hy, hr⟩ := CX hr
  exact ⟨x', y', hx, hy, hr⟩
theorem GN {ti : TI} {k : OpF} (hr : wZ ti k F e h = .ok v h') : ti.zero.length = ti.size ∧ k F e h = .ok v h' := by
  unfold wZ at hr
  cases hg : Nat.beq (BR ti.zero) ti.size with
  | false => rw [hg] at hr; cases hr
  | true => rw [hg] at hr; exact ⟨by rw [← AZ.1 hg, BD], hr⟩
def CY (P : Program) (ty : TTy) (F : CallF) : Prop := ∀ g args h v h', F g args h = .ok v h' →
  (∃ fn, P.funcs[g]? = some fn ∧ fn.name ≠ "runtime.NumGoroutine" ∧ fn.body.isNone = false) ∧
  ∀ φ w args', RelL φ args args' → RelW ty φ (fun _ => False) h w →
    Calls P g ⟨args'⟩ w fun en w' => ∃ v' ψ, en = .returned v' ∧ RelV ψ v v' ∧ RelW ty ψ (fun _ => False) h' w' ∧ Evo φ h w ψ h' w'
def DR (P : Program) (ty : TTy) (φ : Phi) (E : Nat → Prop) (h : Hp) (v : Value) (h' : Hp) (o : Oper) (a : Act) (w : World) : Prop :=
  ∀ (next : Act → World → Prop) (Q : Exit → Act → World → Prop),
    (∀ ψ v' w', RelV ψ v v' → RelW ty ψ E h' w' → Evo φ h w ψ h' w' → next (a.put o.dst v') w') → o.wp P a w next Q
theorem DR.of_gives {o : Oper} {a : Act} {s : Sem Value} (hx : execOp a.eval o = (do pure (.value (← s)))) (hg : A8 ty φ E h w v h' (s.run P w)) : DR P ty φ E h v h' o a w := by
  intro next Q hn
  obtain ⟨v', w', ψ, hs, hv, H, ev⟩ := hg
  unfold Oper.wp
  rw [hx, Sem.run_bind, hs, Result.andThen_ok, Sem.run_pure, Oper.upon_value]
  exact hn ψ v' w' hv H ev
theorem DR.of_skips {o : Oper} {a : Act} {s : Sem Unit} (hx : execOp a.eval o = (do s; pure .skip)) (hg : RJ ty φ E h w v h' (s.run P w)) : DR P ty φ E h v h' o a w := by
  intro next Q hn
  obtain ⟨rfl, w', hs, H, ev⟩ := hg
  unfold Oper.wp
  rw [hx, Sem.run_bind, hs, Result.andThen_ok, Sem.run_pure, Oper.upon_skip]
  exact hn φ undef w' (.tuple .nil) H ev
theorem HC {place : Nat → Option (Nat × Nat)} {ρ : Operand → Value} : ∀ {l : List (Nat × Operand)} {ps : List (Nat × Nat × O)}, FH f place l = some ps →
    (∀ p ∈ l, ∀ y, cO f p.2 = some y → RelV φ (y e) (ρ p.2)) → RelP φ e place ps (l.map fun (i, x) => (i, ρ x))
  | [], ps, hp, _ => by cases hp; exact .nil
  | (i, x) :: l, ps, hp, hst => by
    unfold FH at hp
    split at hp
    · rename_i off size hpl
      split at hp
      · rename_i y hy
        split at hp
        · rename_i r hr
          cases hp
          exact .cons hpl (hst (i, x) (by simp) y hy) (HC hr fun p hp => hst p (by simp [hp]))
        · cases hp
      · cases hp
    · cases hp
theorem Kt {ρ : Operand → Value} : ∀ {l : List Operand} {ys : List O}, cOs f l = some ys → (∀ x ∈ l, ∀ y, cO f x = some y → RelV φ (y e) (ρ x)) → RelL φ (vals e ys) (l.map ρ)
  | [], ys, h, _ => by cases h; exact .nil
  | x :: l, ys, h, hst => by
    unfold cOs at h
    split at h
    · rename_i y hy
      split at h
      · rename_i r hr
        cases h
        exact .cons (hst x (by simp) y hy) (Kt hr fun x hx => hst x (by simp [hx]))
      · cases h
    · cases h
theorem Nr {ρ : Operand → Value} {x : Option Operand} {y : Option O} (h : cOo f x = some y) (hst : ∀ z, x = some z → ∀ y, cO f z = some y → RelV φ (y e) (ρ z)) : RelO φ e y (x.map ρ) := by
  unfold cOo at h
  split at h
  · cases h; exact .none
  · rename_i x
    split at h
    · rename_i y hy; cases h; exact .some (hst x rfl y hy)
    · cases h
def XX (φ : Phi) (f : Fr) (e : Env) (ρ : Operand → Value) (op : Op) : Prop := ∀ x ∈ op.operands.toList, ∀ y, cO f x = some y → RelV φ (y e) (ρ x)
def FX (ty : TTy) (f : Fr) (e : Env) (E : Nat → Prop) (op : Op) : Prop := match kd ty op with
  | .p => True
  | .a => True
  | .r x => ∀ y, cO f x = some y → ∀ b, blkOf (y e) = .ok b → ¬ E b
  | .w _ => ∀ b, ¬ E b
  | .q => ∀ b, ¬ E b
theorem Zg (hT : CL P ty) (H : RelW ty φ E h w) {op : BinOp} {t yt : TypeId} {x y : Operand} {o : Oper} {a : Act} (ho : o.op = .binOp op t x y yt) (hst : XX φ f e a.eval o.op) (hr : RR ty f op t x y F e h = .ok v h') : DR P ty φ E h v h' o a w := by
  have hx : execOp a.eval o = (do pure (.value (← BP op t x y (a.eval x) (a.eval y)))) := by unfold execOp; rw [ho]; rfl
  unfold RR at hr
  obtain ⟨ti, hti, hr⟩ := BE hr
  obtain ⟨x', y', hx', hy', hr⟩ := HO hr
  have r1 := hst x (by rw [ho]; simp [Op.operands]) x' hx'
  have r2 := hst y (by rw [ho]; simp [Op.operands]) y' hy'
  cases hk : ti.k with
  | int k =>
    rw [hk] at hr
    cases op with
    | add => exact .of_gives hx (WC H r1 r2 hr)
    | sub => exact .of_gives hx (Ph H (.inl ⟨rfl, rfl⟩) r1 r2 hr)
    | mul => exact .of_gives hx (Ph H (.inr ⟨rfl, rfl⟩) r1 r2 hr)
    | quo => exact .of_gives hx (WT H r1 r2 hr)
    | rem => exact .of_gives hx (Wn H r1 r2 hr)
    | and => exact .of_gives hx (LG H (.inl ⟨rfl, rfl⟩) r1 r2 hr)
    | or => exact .of_gives hx (LG H (.inr (.inl ⟨rfl, rfl⟩)) r1 r2 hr)
    | xor => exact .of_gives hx (LG H (.inr (.inr ⟨rfl, rfl⟩)) r1 r2 hr)
    | shl => exact .of_gives hx (Wp H r1 r2 hr)
    | shr => exact .of_gives hx (Ws H r1 r2 hr)
    | andNot => cases hr
    | eql => exact .of_gives hx (F4 H (.inl ⟨rfl, rfl⟩) r1 r2 hr)
    | neq => exact .of_gives hx (F4 H (.inr (.inl ⟨rfl, rfl⟩)) r1 r2 hr)
    | lss => exact .of_gives hx (F4 H (.inr (.inr (.inl ⟨rfl, rfl⟩))) r1 r2 hr)
    | leq => exact .of_gives hx (F4 H (.inr (.inr (.inr (.inl ⟨rfl, rfl⟩)))) r1 r2 hr)
    | gtr => exact .of_gives hx (F4 H (.inr (.inr (.inr (.inr (.inl ⟨rfl, rfl⟩))))) r1 r2 hr)
    | geq => exact .of_gives hx (F4 H (.inr (.inr (.inr (.inr (.inr ⟨rfl, rfl⟩))))) r1 r2 hr)
  | string =>
    rw [hk] at hr
    cases op with
    | add => exact .of_gives hx (WL H r1 r2 hr)
    | eql => exact .of_gives hx (F7 H (.inl ⟨rfl, rfl⟩) r1 r2 hr)
    | neq => exact .of_gives hx (F7 H (.inr (.inl ⟨rfl, rfl⟩)) r1 r2 hr)
    | lss => exact .of_gives hx (F7 H (.inr (.inr (.inl ⟨rfl, rfl⟩))) r1 r2 hr)
    | gtr => exact .of_gives hx (F7 H (.inr (.inr (.inr (.inl ⟨rfl, rfl⟩)))) r1 r2 hr)
    | leq => exact .of_gives hx (F7 H (.inr (.inr (.inr (.inr (.inl ⟨rfl, rfl⟩))))) r1 r2 hr)
    | geq => exact .of_gives hx (F7 H (.inr (.inr (.inr (.inr (.inr ⟨rfl, rfl⟩))))) r1 r2 hr)
    | _ => cases hr
  | struct fs =>
    rw [hk] at hr
    simp only at hr
    cases hf : flatK ty 8 t with
    | none => rw [hf] at hr; cases hr
    | some ks =>
      rw [hf] at hr
      have hag : ti.k.agg = true := by rw [hk]; rfl
      cases op with
      | eql => exact .of_gives hx (IW hT H (K := ⟨true, ks⟩) (.inl ⟨rfl, rfl⟩) hti hag hf rfl r1 r2 hr)
      | neq => exact .of_gives hx (IW hT H (K := ⟨true, ks⟩) (.inr ⟨rfl, rfl⟩) hti hag hf rfl r1 r2 hr)
      | _ => cases hr
  | arr n el =>
    rw [hk] at hr
    simp only at hr
    cases hf : flatK ty 8 t with
    | none => rw [hf] at hr; cases hr
    | some ks =>
      rw [hf] at hr
      have hag : ti.k.agg = true := by rw [hk]; rfl
      cases op with
      | eql => exact .of_gives hx (IW hT H (K := ⟨true, ks⟩) (.inl ⟨rfl, rfl⟩) hti hag hf rfl r1 r2 hr)
      | neq => exact .of_gives hx (IW hT H (K := ⟨true, ks⟩) (.inr ⟨rfl, rfl⟩) hti hag hf rfl r1 r2 hr)
      | _ => cases hr
  | iface =>
    rw [hk] at hr
    have hr : (match LC y with | true => (match op with | .eql => Kb false x' | .neq => Kb true x' | _ => oNo) | false => oNo) F e h = .ok v h' := hr
    cases hn : LC y with
    | false => rw [hn] at hr; cases hr
    | true =>
      rw [hn] at hr
      have hy : y = .const .nilIface := by
        unfold LC at hn
        split at hn
        · split at hn
          · rfl
          · cases hn
        · cases hn
      subst hy
      cases op with
      | eql => exact .of_gives hx (Mo H (.inl ⟨rfl, rfl⟩) (hT t ti hti) hk r1 hr)
      | neq => exact .of_gives hx (Mo H (.inr ⟨rfl, rfl⟩) (hT t ti hti) hk r1 hr)
      | _ => cases hr
  | _ =>
    rw [hk] at hr
    cases op with
    | eql => exact .of_gives hx (Sq H (.inl ⟨rfl, rfl⟩) (hT t ti hti) hk r1 r2 hr)
    | neq => exact .of_gives hx (Sq H (.inr ⟨rfl, rfl⟩) (hT t ti hti) hk r1 r2 hr)
    | _ => cases hr
end
end
end Go.Proofs.YtfeldadhbnmklaaGreat
set_option linter.unusedSimpArgs false
set_option linter.unusedVariables false
namespace Go.Proofs.YtfeldadhbnmklaaGreat
noncomputable section
open Go
section
variable {P : Program} {ty : TTy} {φ : Phi} {E : Nat → Prop} {h h' : Hp} {w : World} {F : CallF} {e : Env} {v : Value} {f : Fr}
theorem RelW.less (H : RelW ty φ E h w) (hE : ∀ b, ¬ E b) {E' : Nat → Prop} : RelW ty φ E' h w where
  dom := H.dom
  inj := fun i j p q ei ej _ _ => H.inj i j p q ei ej (hE i) (hE j)
  row := fun i p hp _ => H.row i p hp (hE i)
  fresh := H.fresh
  kind := H.kind
  inp := H.inp
theorem Ku (hF : CY P ty F) (H : RelW ty φ E h w) (hE : ∀ b, ¬ E b) {g : Nat} {args args' : List Value} (ha : RelL φ args args') (hr : F g args h = .ok v h') {o : Oper} {a : Act}
    (hx : (execOp a.eval o).run P w = (callFunc g ⟨args'⟩).run P w) : DR P ty φ E h v h' o a w := by
  intro next Q hn
  obtain ⟨⟨fn, hfn, hnm, hb⟩, hc⟩ := hF g args h v h' hr
  have hcall : (callFunc g ⟨args'⟩).run P w = .ok (.enter g ⟨args'⟩) w := by
    have hnm' : (fn.name == "runtime.NumGoroutine") = false := by simpa using hnm
    simp only [callFunc, Sem.run_bind, run_program, Result.andThen_ok, hfn, hnm', Bool.false_eq_true, if_false, hb, Sem.run_pure, Sem.run_ite]
  unfold Oper.wp
  rw [hx, hcall, Oper.upon_enter]
  refine (hc φ w args' ha (H.less hE)).mono fun en w' ⟨v', ψ, he, hv, H', ev⟩ => ?_
  subst he
  exact hn ψ v' w' hv (H'.less (fun _ h => h)) ev
theorem Sj (hF : CY P ty F) (H : RelW ty φ E h w) (hE : ∀ b, ¬ E b) {g : Nat} {c : Call} (hc : c.callee = .value (.func g)) {o : Oper} {a : Act} (ho : o.op = .call c) {args : List O}
    (ha : RelL φ (vals e args) (c.args.toList.map a.eval)) (hr : AL g args F e h = .ok v h') : DR P ty φ E h v h' o a w := by
  unfold AL at hr
  rw [CN] at hr
  refine Ku hF H hE ha hr ?_
  have e1 : c.args.map a.eval = ⟨c.args.toList.map a.eval⟩ := by apply Array.ext'; simp
  unfold execOp
  rw [ho]
  simp only [resolve, hc, e1, Act.eval, Deferred.ofValue, Sem.run_bind, Sem.run_pure, Result.andThen_ok, invoke]
  congr 2
  apply Array.ext'; simp
theorem Hl (hF : CY P ty F) (H : RelW ty φ E h w) (hE : ∀ b, ¬ E b) {x : Operand} {g : O} {c : Call} (hc : c.callee = .value x) {o : Oper} {a : Act} (ho : o.op = .call c) {args : List O}
    (hg : RelV φ (g e) (a.eval x)) (ha : RelL φ (vals e args) (c.args.toList.map a.eval)) (hr : B8 g args F e h = .ok v h') : DR P ty φ E h v h' o a w := by
  unfold B8 at hr
  split at hr
  case h_2 => cases hr
  rename_i k first cap hge
  rw [hge] at hg
  rw [CN] at hr
  generalize hxe : a.eval x = xv at hg
  cases hg with
  | func _ h1 h2 =>
    refine Ku hF H hE (h1.append (ha.append h2)) hr ?_
    have e1 : c.args.map a.eval = ⟨c.args.toList.map a.eval⟩ := by apply Array.ext'; simp
    unfold execOp
    rw [ho]
    simp only [resolve, hc, e1, hxe, Deferred.ofValue, Sem.run_bind, Sem.run_pure, Result.andThen_ok, invoke]
    congr 2
    apply Array.ext'; simp
theorem JL {name : String} : ∀ {t : TTy} {ix : Nat → Nat} {u f : Nat}, (u, f) ∈ t.meths name ix → ∃ k ti, u = ix k ∧ t.get k = some ti ∧ findM name ti.ms = some f
  | .mt, ix, u, f, h => by cases h
  | .nd t l r, ix, u, f, h => by
    have sub : (u, f) ∈ l.meths name (fun k => ix (Nat.succ (Nat.mul 2 k))) ++ r.meths name (fun k => ix (Nat.succ (Nat.succ (Nat.mul 2 k)))) → ∃ k ti, u = ix k ∧ (TTy.nd t l r).get k = some ti ∧ findM name ti.ms = some f := fun h => by
      rcases List.mem_append.1 h with h | h
      · obtain ⟨k, ti, h1, h2, h3⟩ := JL h
        refine ⟨Nat.succ (Nat.mul 2 k), ti, h1, ?_, h3⟩
        show (match Nat.mod (Nat.mul 2 k) 2 with | 0 => l.get (Nat.div (Nat.mul 2 k) 2) | Nat.succ _ => r.get (Nat.div (Nat.mul 2 k) 2)) = _
        have e1 : Nat.mod (Nat.mul 2 k) 2 = 0 := by show (2 * k) % 2 = 0; omega
        have e2 : Nat.div (Nat.mul 2 k) 2 = k := by show (2 * k) / 2 = k; omega
        rw [e1, e2]; exact h2
      · obtain ⟨k, ti, h1, h2, h3⟩ := JL h
        refine ⟨Nat.succ (Nat.succ (Nat.mul 2 k)), ti, h1, ?_, h3⟩
        show (match Nat.mod (Nat.succ (Nat.mul 2 k)) 2 with | 0 => l.get (Nat.div (Nat.succ (Nat.mul 2 k)) 2) | Nat.succ _ => r.get (Nat.div (Nat.succ (Nat.mul 2 k)) 2)) = _
        have e1 : Nat.mod (Nat.succ (Nat.mul 2 k)) 2 = 1 := by show (2 * k + 1) % 2 = 1; omega
        have e2 : Nat.div (Nat.succ (Nat.mul 2 k)) 2 = k := by show (2 * k + 1) / 2 = k; omega
        rw [e1, e2]; exact h2
    unfold TTy.meths at h
    split at h
    · rename_i g hg
      rcases List.mem_cons.1 h with h | h
      · cases h
        cases t with
        | none => cases hg
        | some ti => exact ⟨0, ti, rfl, rfl, hg⟩
      · exact sub h
    · exact sub h
theorem L3 {t f : Nat} : ∀ {l : List (Nat × Nat)}, PE t l = some f → (t, f) ∈ l
  | [], h => by cases h
  | (u, g) :: l, h => by
    have h : (bif Nat.beq u t then some g else PE t l) = some f := h
    cases hb : Nat.beq u t with
    | true =>
      rw [hb] at h
      cases h
      rw [AZ.1 hb]; exact List.mem_cons_self
    | false =>
      rw [hb] at h
      exact List.mem_cons_of_mem _ (L3 h)
theorem OV (hT : CL P ty) (hF : CY P ty F) (H : RelW ty φ E h w) (hE : ∀ b, ¬ E b) {recv : Operand} {name : String} {x : O} {c : Call} (hc : c.callee = .invoke recv name) {o : Oper} {a : Act} (ho : o.op = .call c) {args : List O}
    (hg : RelV φ (x e) (a.eval recv)) (ha : RelL φ (vals e args) (c.args.toList.map a.eval)) (hr : IX (ty.meths name fun k => k) x args F e h = .ok v h') : DR P ty φ E h v h' o a w := by
  unfold IX at hr
  split at hr
  case h_2 => cases hr
  rename_i t u hxe
  split at hr
  case h_2 => cases hr
  rename_i f hf
  rw [A7, CN] at hr
  rw [hxe] at hg
  generalize hxe' : a.eval recv = xv at hg
  cases hg with
  | @iface _ _ u' hu =>
    obtain ⟨k, ti, hk, h2, h3⟩ := JL (L3 hf)
    have hk : t = k := hk
    subst hk
    have hm := (hT t ti h2).ms name f h3 u' w
    refine Ku hF H hE (.cons hu ha) hr ?_
    have e1 : c.args.map a.eval = ⟨c.args.toList.map a.eval⟩ := by apply Array.ext'; simp
    unfold execOp
    rw [ho]
    have e2 : (#[Value.iface t u'] ++ (⟨c.args.toList.map a.eval⟩ : Array Value))[0]? = some (.iface t u') := by simp
    have e3 : (#[Value.iface t u'] ++ (⟨c.args.toList.map a.eval⟩ : Array Value)).extract 1 (#[Value.iface t u'] ++ (⟨c.args.toList.map a.eval⟩ : Array Value)).size = ⟨c.args.toList.map a.eval⟩ := by apply Array.ext'; simp; exact List.take_of_length_le (by simp)
    have e4 : #[u'] ++ (⟨c.args.toList.map a.eval⟩ : Array Value) = ⟨u' :: c.args.toList.map a.eval⟩ := by apply Array.ext'; simp
    simp only [resolve, hc, e1, hxe', Sem.run_bind, Sem.run_pure, Result.andThen_ok, invoke, e2, e3, callMethod, run_program, hm, e4]
theorem BW {b : Nat} {ob : Obj} (h1 : w.heap[b]? = some ob) (h2 : (match ob with | .cells .. => true | _ => false) = false) : (getObj b).run P w = .ok ob w := by
  unfold getObj
  simp only [Sem.run, h1]
  cases ob <;> first | rfl | cases h2
theorem RelE.length : ∀ {l : List Ent} {l' : List MapEntry}, RelE φ l l' → l'.length = l.length
  | _, _, .nil => rfl
  | _, _, .cons _ _ t => congrArg (· + 1) t.length
theorem Dn {r : Nat} {es : List Ent} {c : Nat} (hr : Bv h r = .ok es c) : h.bl.get r = .map es c := by
  unfold Bv aE at hr
  split at hr
  · cases hr; assumption
  · cases hr
theorem RelW.entsAt (H : RelW ty φ E h w) {r : Nat} {p : Pl} (hp : φ r = some p) (hE : ¬ E r) {es : List Ent} {c : Nat} (hr : Bv h r = .ok es c) :
    ∃ es', w.heap[p.blk]? = some (.map ⟨es'⟩ c) ∧ RelE φ es es' := by
  have := H.row r p hp hE
  rw [Dn hr] at this
  generalize w.heap[p.blk]? = o at this
  cases this with
  | map h => exact ⟨_, rfl, h⟩
theorem Sw (H : RelW ty φ E h w) {x : O} {x' : Value} {ats : Array TypeId} {t t' el : TypeId} (h0 : ats[0]? = some t) {ti : TI} (T : TyOk P t ti) (hk : ti.k = .slice el) (hx : RelV φ (x e) x') (hr : Aw x F e h = .ok v h') :
    A8 ty φ E h w v h' ((Builtin.len_ ats t' #[x']).run P w) := by
  unfold Aw at hr
  split at hr
  case h_3 => cases hr
  case h_2 =>
    rename_i r hxe
    rw [hxe] at hx
    cases hr
    obtain ⟨d, hd, hkd⟩ := T.desc
    rw [hk] at hkd; cases hkd
    have key : (Builtin.len_ ats t' #[x']).run P w = .ok (goInt ((0 : Nat) : Int)) w := by
      cases hx <;> simp only [Builtin.len_, h0, Sem.run_bind, hd, Result.andThen_ok, Sem.run_pure, List.getElem?_toArray, List.getElem?_cons_zero]
    rw [key]; exact .same H (.int _ _)
  rename_i a n c hxe
  rw [hxe] at hx
  cases hr
  obtain ⟨d, hd, hkd⟩ := T.desc
  rw [hk] at hkd; cases hkd
  have key : (Builtin.len_ ats t' #[x']).run P w = .ok (goInt n) w := by
    cases hx <;> simp only [Builtin.len_, h0, Sem.run_bind, hd, Result.andThen_ok, Sem.run_pure, List.getElem?_toArray, List.getElem?_cons_zero]
  rw [key]; exact .same H (.int _ _)
theorem Sl (H : RelW ty φ E h w) {x : O} {x' : Value} {ats : Array TypeId} {t t' el : TypeId} (h0 : ats[0]? = some t) {ti : TI} (T : TyOk P t ti) (hk : ti.k = .slice el) (hx : RelV φ (x e) x') (hr : Sk x F e h = .ok v h') :
    A8 ty φ E h w v h' ((Builtin.cap_ ats t' #[x']).run P w) := by
  unfold Sk at hr
  split at hr
  case h_2 => cases hr
  rename_i hxe
  rw [hxe] at hx
  cases hr
  obtain ⟨d, hd, hkd⟩ := T.desc
  rw [hk] at hkd; cases hkd
  have key : (Builtin.cap_ ats t' #[x']).run P w = .ok (goInt 0) w := by
    cases hx <;> simp only [Builtin.cap_, h0, Sem.run_bind, hd, Result.andThen_ok, Sem.run_pure, List.getElem?_toArray, List.getElem?_cons_zero] <;> rfl
  rw [key]; exact .same H (.int _ _)
theorem Sy (H : RelW ty φ E h w) {x : O} {x' : Value} {ats : Array TypeId} {t t' : TypeId} (h0 : ats[0]? = some t) {ti : TI} (T : TyOk P t ti) (hk : ti.k = .string) (hx : RelV φ (x e) x') (hr : Mm x F e h = .ok v h') :
    A8 ty φ E h w v h' ((Builtin.len_ ats t' #[x']).run P w) := by
  unfold Mm at hr
  split at hr
  case h_2 => cases hr
  rename_i s hxe
  rw [hxe] at hx
  rw [Ao, BD] at hr
  cases hr
  obtain ⟨d, hd, hkd⟩ := T.desc
  rw [hk] at hkd; cases hkd
  obtain rfl := hx.string_inv
  have key : (Builtin.len_ ats t' #[.string s]).run P w = .ok (goInt s.size) w := by
    simp only [Builtin.len_, h0, Sem.run_bind, hd, Result.andThen_ok, Sem.run_pure, List.getElem?_toArray, List.getElem?_cons_zero]
  rw [key]; exact .same H (.int _ _)
theorem Su (H : RelW ty φ E h w) {x : O} {x' : Value} {ats : Array TypeId} {t t' kt el : TypeId} (h0 : ats[0]? = some t) {ti : TI} (T : TyOk P t ti) (hk : ti.k = .map kt el) (hx : RelV φ (x e) x')
    (hE : ∀ r, x e = .map (some r) → ¬ E r) (hr : Ml x F e h = .ok v h') : A8 ty φ E h w v h' ((Builtin.len_ ats t' #[x']).run P w) := by
  obtain ⟨d, hd, hkd⟩ := T.desc
  rw [hk] at hkd; cases hkd
  unfold Ml at hr
  split at hr
  · rename_i hxe
    rw [hxe] at hx
    cases hr; cases hx
    have key : (Builtin.len_ ats t' #[.map none]).run P w = .ok (goInt 0) w := by
      simp only [Builtin.len_, h0, Sem.run_bind, hd, Result.andThen_ok, Sem.run_pure, List.getElem?_toArray, List.getElem?_cons_zero]
    rw [key]; exact .same H (.int _ _)
  · rename_i r hxe
    rw [hxe] at hx
    cases hx with
    | @map _ p hp =>
      split at hr
      case h_2 => cases hr
      rename_i es c hes
      rw [Ao, BD] at hr
      cases hr
      obtain ⟨es', hw, hrel⟩ := H.entsAt hp (hE r hxe) hes
      have key : (Builtin.len_ ats t' #[.map (some p.blk)]).run P w = .ok (goInt es.length) w := by
        simp only [Builtin.len_, h0, Sem.run_bind, hd, Result.andThen_ok, Sem.run_pure, List.getElem?_toArray, List.getElem?_cons_zero, BW hw rfl]
        rw [← hrel.length]; rfl
      rw [key]; exact .same H (.int _ _)
  · cases hr
theorem Vz {x' : Value} {ats : Array TypeId} {t t' el : TypeId} {n : Nat} (h0 : ats[0]? = some t) {ti : TI} (T : TyOk P t ti) (hk : ti.k = .arr n el) : (Builtin.len_ ats t' #[x']).run P w = .ok (goInt n) w := by
  obtain ⟨d, hd, hkd⟩ := T.desc
  rw [hk] at hkd; cases hkd
  simp only [Builtin.len_, h0, Sem.run_bind, hd, Result.andThen_ok, Sem.run_pure, List.getElem?_toArray, List.getElem?_cons_zero]
theorem C6 {b : Nat} {ob ob' : Obj} (h1 : w.heap[b]? = some ob) (h2 : (match ob with | .cells .. => true | _ => false) = false) :
    (setObj b ob').run P w = .ok () { w with heap := w.heap.setIfInBounds b ob' } := by
  unfold setObj
  simp only [Sem.run, h1]
  cases ob <;> first | rfl | cases h2
theorem Dy (H : RelW ty φ E h w) {r : Nat} {p : Pl} (hEr : ¬ E r) (hp : φ r = some p) (hl : Live h r) {o : Blk} {ob : Obj} {k : Hp → R} (hr : DI h r o k = .ok v h') (hsh : ShapeLe (h.bl.get r) o) (hB : RelB ty φ p o (some ob)) :
    ∃ h1, k h1 = .ok v h' ∧ RelW ty φ E h1 { w with heap := w.heap.setIfInBounds p.blk ob } ∧ Evo φ h w φ h1 { w with heap := w.heap.setIfInBounds p.blk ob } := by
  obtain ⟨bl, h256, hbl, hk⟩ := Dx hr
  have hlt := (H.dom r p hp).2
  have e1 : (w.heap.setIfInBounds p.blk ob).size = w.heap.size := by simp
  have e2 : ∀ k, k ≠ p.blk → (w.heap.setIfInBounds p.blk ob)[k]? = w.heap[k]? := fun k hk => by
    rw [Array.getElem?_setIfInBounds, if_neg (Ne.symm hk)]
  have e3 : (w.heap.setIfInBounds p.blk ob)[p.blk]? = some ob := by rw [Array.getElem?_setIfInBounds, if_pos rfl, if_pos hlt]
  exact ⟨_, hk, H.put hEr h256 hp hl hbl e1 e2 (by show RelB ty φ p o ((w.heap.setIfInBounds p.blk ob)[p.blk]?); rw [e3]; exact hB), .put (H.notInp hp h256) hp hl hbl hsh e1 e2 rfl rfl rfl⟩
theorem Ev {r : Nat} {es : List Ent} {c : Nat} (hr : Bv h r = .ok es c) : Live h r := by
  unfold Live; rw [Dn hr]; intro hd; cases hd
theorem LJ (H : RelW ty φ E h w) (hE : ∀ b, ¬ E b) {x : O} {x' : Value} {ats : Array TypeId} {t t' : TypeId} {ti : TI} (h0 : ats[0]? = some t) (T : TyOk P t ti) (hx : RelV φ (x e) x') (hr : F3 x F e h = .ok v h') :
    A8 ty φ E h w v h' ((Builtin.clear_ ats t' #[x']).run P w) := by
  obtain ⟨d, hd, _⟩ := T.desc
  unfold F3 at hr
  split at hr
  · rename_i hxe
    rw [hxe] at hx
    cases hr; cases hx
    have key : (Builtin.clear_ ats t' #[.map none]).run P w = .ok noRes w := by
      simp only [Builtin.clear_, h0, Sem.run_bind, hd, Result.andThen_ok, Sem.run_pure, List.getElem?_toArray, List.getElem?_cons_zero]; rfl
    rw [key]; exact .same H (.tuple .nil)
  · rename_i r hxe
    rw [hxe] at hx
    cases hx with
    | @map _ p hp =>
      split at hr
      case h_2 => cases hr
      rename_i es c hes
      obtain ⟨es', hw, hrel⟩ := H.entsAt hp (hE r) hes
      obtain ⟨h1, hk, H1, ev⟩ := Dy (ob := .map #[] c) H (hE _) hp (Ev hes) hr (by rw [Dn hes]; exact .inr trivial) (.map .nil)
      cases hk
      have key : (Builtin.clear_ ats t' #[.map (some p.blk)]).run P w = .ok noRes { w with heap := w.heap.setIfInBounds p.blk (.map #[] c) } := by
        simp only [Builtin.clear_, h0, Sem.run_bind, hd, Result.andThen_ok, Sem.run_pure, List.getElem?_toArray, List.getElem?_cons_zero, BW hw rfl, C6 hw rfl]; rfl
      rw [key]; exact ⟨_, _, φ, rfl, .tuple .nil, H1, ev⟩
  · cases hr
theorem QZ (H : RelW ty φ E h w) (hE : ∀ b, ¬ E b) {x : O} {x' : Value} {ats : Array TypeId} {t t' el : TypeId} {ti ei : TI} (h0 : ats[0]? = some t) (T : TyOk P t ti) (hk : ti.k = .slice el) (TE : TyOk P el ei) (hz : ei.zero.length = ei.size)
    (hx : RelV φ (x e) x') (hr : LI ei.zero x F e h = .ok v h') : A8 ty φ E h w v h' ((Builtin.clear_ ats t' #[x']).run P w) := by
  obtain ⟨d, hd, hkd⟩ := T.desc
  rw [hk] at hkd; cases hkd
  obtain ⟨z, _, hzr, hzc, hzp⟩ := TE.zeroOk hz
  unfold LI at hr
  split at hr
  · rename_i hxe
    rw [hxe] at hx
    cases hr; cases hx
    have key : (Builtin.clear_ ats t' #[.slice none 0 0]).run P w = .ok noRes w := by
      simp only [Builtin.clear_, h0, Sem.run_bind, hd, Result.andThen_ok, Sem.run_pure, List.getElem?_toArray, List.getElem?_cons_zero]; rfl
    rw [key]; exact .same H (.tuple .nil)
  · rename_i a n c hxe
    rw [hxe] at hx
    cases hx with
    | @slice _ a' _ _ c' hlc hs =>
      cases n with
      | zero =>
        cases hr
        have key : (Builtin.clear_ ats t' #[.slice (some a') 0 c']).run P w = .ok noRes w := by
          simp only [Builtin.clear_, h0, Sem.run_bind, hd, Result.andThen_ok, Sem.run_pure, List.getElem?_toArray, List.getElem?_cons_zero]; rfl
        rw [key]; exact .same H (.tuple .nil)
      | succ n =>
        have hrel : RelL φ (A6 ei.zero (n + 1)) (A6 ei.zero (n + 1)) := Fq (.plain hzp) (n + 1)
        obtain ⟨h1, w1, hk2, hrun, H1, ev⟩ := GB (P := P) H hr (Hu hlc hs (Nat.succ_pos n)) hrel (hE _)
        cases hk2
        have hc : (Builtin.zeroCells z.cells (n + 1)).toList = A6 ei.zero (n + 1) := by rw [FQ, hzc]
        have key : (Builtin.clear_ ats t' #[.slice (some a') (n + 1) c']).run P w = .ok noRes w1 := by
          simp only [Builtin.clear_, h0, Sem.run_bind, hd, Result.andThen_ok, Sem.run_pure, List.getElem?_toArray, List.getElem?_cons_zero, hzr, hc, hrun]; rfl
        rw [key]; exact ⟨_, _, φ, rfl, .tuple .nil, H1, ev⟩
  · cases hr
theorem QY (H : RelW ty φ E h w) (hE : ∀ b, ¬ E b) {x : O} {x' : Value} {t el : TypeId} {ti ei : TI} (T : TyOk P t ti) (hk : ti.k = .slice el) (TE : TyOk P el ei) (he : ei.k = .int .u8) (hx : RelV φ (x e) x') (hr : Hq x F e h = .ok v h') :
    A8 ty φ E h w v h' ((convert t t x').run P w) := by
  obtain ⟨d, hd, hkd⟩ := T.und
  rw [hk] at hkd; cases hkd
  obtain ⟨d3, h3, k3⟩ := TE.und
  rw [he] at k3; cases k3
  unfold Hq at hr
  split at hr
  case h_2 => cases hr
  rename_i a n c hxe
  rw [hxe] at hx
  have hx0 := hx
  cases hx with
  | @slice _ a' _ _ c' hlc hs =>
    split at hr
    case h_2 => cases hr
    rename_i ct s en hrow
    obtain ⟨s1, s2, p, hp, hbl, hor⟩ := hs
    obtain ⟨cs, tt, fr, hw, R⟩ := H.rowAt hp (hE _) hrow
    have hlive : Live h a.block := by unfold Live; rw [Cf hrow]; intro hd; cases hd
    obtain ⟨bl, h256, hbl2, hk2⟩ := Dx hr
    cases hk2
    let fr' : Nat × Nat := if fr.1 == fr.2 then (cs.size, cs.size + 1) else (min fr.1 cs.size, max fr.2 (cs.size + 1))
    let w' : World := w.freeze ⟨a'.block, cs.size, none⟩ 1
    have hf : ∃ g : Obj → Obj, w'.heap = w.heap.modify p.blk g ∧ g (.cells cs tt fr) = .cells cs tt fr' := by
      obtain ⟨lo, hi⟩ := fr
      refine ⟨_, by show (w.freeze ⟨a'.block, cs.size, none⟩ 1).heap = _; unfold World.freeze; rw [if_neg Nat.one_ne_zero, hbl], rfl⟩
    obtain ⟨g, hheap, hg⟩ := hf
    have e1 : w'.heap.size = w.heap.size := by rw [hheap]; simp
    have e2 : ∀ k, k ≠ p.blk → w'.heap[k]? = w.heap[k]? := fun k hk => by
      rw [hheap, Array.getElem?_modify, if_neg (Ne.symm hk)]
    have e3 : w'.heap[p.blk]? = some (.cells cs tt fr') := by
      rw [hheap, Array.getElem?_modify, if_pos rfl, hw, Option.map_some, hg]
    have e4 : w'.tape = w.tape ∧ w'.os = w.os ∧ w'.output = w.output := by
      show (w.freeze ⟨a'.block, cs.size, none⟩ 1).tape = _ ∧ (w.freeze ⟨a'.block, cs.size, none⟩ 1).os = _ ∧ (w.freeze ⟨a'.block, cs.size, none⟩ 1).output = _
      unfold World.freeze
      rw [if_neg Nat.one_ne_zero]
      exact ⟨rfl, rfl, rfl⟩
    have hB : RelB ty φ p (.cells ct s en) w'.heap[p.blk]? := by
      rw [e3]
      refine .cells { R with loose := .inl ?_ }
      have := R.firm (H.notInp hp h256)
      show fr'.1 = fr'.2 ∨ cs.size ≤ fr'.1
      refine .inr ?_
      simp only [fr']
      split
      · exact Nat.le_refl _
      · rename_i hne
        have hne' : fr.1 ≠ fr.2 := by simpa using hne
        rcases this with h | h
        · exact absurd h hne'
        · show cs.size ≤ min fr.1 cs.size
          omega
    have key : (convert t t (.slice (some a') n c')).run P w = .ok (.slice (some a') n c') w' := by
      have hsh : w.shape? a'.block = some (tt, cs.size) := by rw [hbl]; simp [World.shape?, hw]
      simp only [convert, Sem.run_bind, run_underlying hd, run_underlying h3, Result.andThen_ok, beq_self_eq_true, markStringish, run_shape, hsh, run_freeze, Sem.run_pure]
      rfl
    rw [key]
    exact ⟨_, w', φ, rfl, hx0, H.put (hE _) h256 hp hlive hbl2 e1 e2 hB, .put (H.notInp hp h256) hp hlive hbl2 (by rw [Cf hrow]; exact .inr ⟨rfl, rfl⟩) e1 e2 e4.1 e4.2.1 e4.2.2⟩
end
end
end Go.Proofs.YtfeldadhbnmklaaGreat
