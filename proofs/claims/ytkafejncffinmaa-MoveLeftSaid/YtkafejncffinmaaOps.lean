/-
  The operations, one by one: what the machine says is what the model does.
-/
import Derived.Test.YtkafejncffinmaaSem
import Derived.Laws.Entries
namespace Go.Proofs.Ytkafejncffinmaa
open Go

/-- a result of the model that is as the machine says -/
def Gives (ty : TTy) (φ : Phi) (E : Nat → Prop) (h : Hp) (w : World) (v : Value) (h' : Hp) (r : Result Value) : Prop :=
  ∃ v' w' φ', r = .ok v' w' ∧ RelV φ' v v' ∧ RelW ty φ' E h' w' ∧ Evo φ h w φ' h' w'

section
variable {P : Program} {ty : TTy} {φ : Phi} {E : Nat → Prop} {h h' : Hp} {w : World} {F : CallF} {e : Env} {v : Value}

theorem Gives.same (H : RelW ty φ E h w) {v v' : Value} (hv : RelV φ v v') : Gives ty φ E h w v h (.ok v' w) := ⟨v', w, φ, rfl, hv, H, .refl _ _ _⟩

theorem TyOk.size {t : Nat} {ti : TI} (T : TyOk P t ti) (w : World) : (sizeOf t).run P w = .ok ti.size w := by
  obtain ⟨i, hi, hs, _⟩ := T.info
  rw [run_sizeOf w hi]; simp [Program.cellsOf, hi, hs]
theorem TyOk.cells {t : Nat} {ti : TI} (T : TyOk P t ti) : P.cellsOf t = ti.size := by
  obtain ⟨i, hi, hs, _⟩ := T.info
  simp [Program.cellsOf, hi, hs]
theorem TyOk.desc {t : Nat} {ti : TI} (T : TyOk P t ti) : ∃ d, (∀ w, (underlying t).run P w = .ok d w) ∧ KOk P ti.k d := by
  obtain ⟨d, hd, hk⟩ := T.und
  exact ⟨d, run_underlying hd, hk⟩
theorem TyOk.zeroOk {t : Nat} {ti : TI} (T : TyOk P t ti) (hz : ti.zero.length = ti.size) :
    ∃ z, zeroV ti = some z ∧ (∀ w, (zeroValue t).run P w = .ok z w) ∧ z.cells.toList = ti.zero ∧ ti.zero.all plainV = true := by
  obtain ⟨i, hi, hs, _, hzz⟩ := T.info
  rcases hzz with ⟨h0, h1⟩ | ⟨z, hz1, hz2, hz3, _⟩
  · rw [h0] at hz; simp at hz; omega
  · refine ⟨z, hz1, fun w => ?_, ?_, hz3⟩
    · simp [zeroValue, run_typeInfo (w := w) hi, hz2]
    · unfold zeroV at hz1
      split at hz1
      · cases hz1; rfl
      · split at hz1
        · rename_i u hu
          cases hz1
          rw [hu] at hz3
          simp only [List.all_cons, List.all_nil, Bool.and_true] at hz3
          rw [hu]
          cases z <;> first | rfl | (simp [plainV] at hz3)
        · cases hz1
theorem TyOk.agg {t : Nat} {ti : TI} (T : TyOk P t ti) (w : World) : (isAgg t).run P w = .ok ti.k.agg w := by
  obtain ⟨d, hd, hk⟩ := T.desc
  unfold isAgg
  simp only [Sem.run_bind, hd, Result.andThen_ok]
  generalize ti.k = kk at hk
  cases hk <;> first | rfl | skip
  rename_i ho
  cases d <;> first | rfl | cases ho

theorem cells_rel {v v' : Value} (h : RelV φ v v') (hk : known v = true) : RelL φ (cellsOf v) v'.cells.toList := by
  cases h with
  | unk => cases hk
  | agg h => exact h
  | bool b => exact .cons (.bool b) .nil
  | int k n => exact .cons (.int k n) .nil
  | string s => exact .cons (.string s) .nil
  | ptr0 => exact .cons .ptr0 .nil
  | ptr h => exact .cons (.ptr h) .nil
  | slice0 => exact .cons .slice0 .nil
  | slice hn h => exact .cons (.slice hn h) .nil
  | map0 => exact .cons .map0 .nil
  | map h => exact .cons (.map h) .nil
  | func fn h h2 => exact .cons (.func fn h h2) .nil
  | nilFunc => exact .cons .nilFunc .nil
  | iface t h => exact .cons (.iface t h) .nil
  | nilIface => exact .cons .nilIface .nil
  | tuple h => exact .cons (.tuple h) .nil
theorem oneCell_rel {v v' : Value} (h : RelV φ v v') (h1 : oneCell v = true) : v'.oneCell' = true := by
  cases h <;> first | rfl | cases h1
theorem allOne_rel : ∀ {l l' : List Value}, RelL φ l l' → allOne l = true → ∀ v ∈ l', v.oneCell' = true
  | _, _, .nil, _, v, hm => by cases hm
  | _, _, .cons (v := u) h t, h1, v, hm => by
    unfold allOne at h1
    cases hu : oneCell u with
    | false => rw [hu] at h1; cases h1
    | true =>
      rw [hu] at h1
      cases hm with
      | head => exact oneCell_rel h hu
      | tail _ hm => exact allOne_rel t h1 v hm

theorem putBlk_ok {b : Nat} {o : Blk} {k : Hp → R} (hr : putBlk h b o k = .ok v h') :
    ∃ bl, 256 ≤ b ∧ h.bl.set b o = some bl ∧ k { next := h.next, low := minN h.low b, high := maxN h.high b, mark := h.mark, bl := bl } = .ok v h' := by
  unfold putBlk at hr
  cases hb : Nat.ble 256 b with
  | false => rw [hb] at hr; cases hr
  | true =>
    rw [hb, cond_true] at hr
    split at hr
    · rename_i bl hs
      rw [forceN_is, forceN_is] at hr
      exact ⟨bl, nat_ble.1 hb, hs, hr⟩
    · cases hr
theorem newBlk_ok {o : Blk} {k : Nat → Hp → R} (hr : newBlk h o k = .ok v h') :
    ∃ bl, h.bl.set h.next o = some bl ∧ k h.next { next := Nat.succ h.next, low := h.low, high := h.high, mark := h.mark, bl := bl } = .ok v h' := by
  unfold newBlk at hr
  split at hr
  · rename_i bl hs
    rw [forceN_is] at hr
    exact ⟨bl, hs, hr⟩
  · cases hr
theorem bif_ok {c : Bool} {x : R} (hr : (bif c then x else .no) = .ok v h') : c = true ∧ x = .ok v h' := by
  cases c
  · cases hr
  · exact ⟨rfl, hr⟩

/-- cells are stored -/
theorem storeL_ok (H : RelW ty φ E h w) {a a' : Addr} {vs vs' : List Value} {k : Hp → R} (hr : storeL a vs h k = .ok v h') (ha : RelA φ a a') (hv : RelL φ vs vs') (hE : ¬ E a.block) :
    ∃ h1 w1, k h1 = .ok v h' ∧ (storeCells a' vs').run P w = .ok () w1 ∧ RelW ty φ E h1 w1 ∧ Evo φ h w φ h1 w1 := by
  obtain ⟨p, hp, rfl⟩ := ha.eq
  unfold storeL at hr
  split at hr
  case h_2 => cases hr
  rename_i c s e hrow
  obtain ⟨cs, t, fr, hw, R⟩ := H.rowAt hp hE hrow
  obtain ⟨hle, hr⟩ := bif_ok hr
  obtain ⟨hone, hr⟩ := bif_ok hr
  split at hr
  case h_2 => cases hr
  rename_i c' hset
  obtain ⟨bl, h256, hbl, hk⟩ := putBlk_ok hr
  have hle' : a.off + vs.length ≤ s := by
    have := nat_ble.1 hle; rw [lenL_is] at this; exact this
  have hlen := hv.length
  have hsz := R.sz
  have hroom := R.room
  have hfits := R.fits
  obtain ⟨cs', e1, e2, e3, e4, e5, e6, e7, e8⟩ := setCells_heap p.blk t fr vs' (p.off + a.off) cs w hw (by omega)
  have hrun : (storeCells ⟨p.blk, p.off + a.off, none⟩ vs').run P w = .ok () (w.setCells p.blk (p.off + a.off) vs') := by
    refine run_storeCells_cells (P := P) p.blk (p.off + a.off) vs' 0 w (fun j hj => ?_) (fun j hj => ?_) (allOne_rel hv hone)
    · rw [cell_of hw]; simp; omega
    · exact R.free hw (by omega) (by omega)
  have hl : Live h a.block := by
    unfold Live; rw [rowOf_ok hrow]; intro hd; cases hd
  have hB : RelB ty φ p (.cells c' s e) ((w.setCells p.blk (p.off + a.off) vs').heap[p.blk]?) := by
    rw [e1]
    refine .cells { kind := R.kind, room := R.room, fits := by rw [e2]; exact R.fits, loose := by rw [e2]; exact R.loose, cell := fun j hj => ?_ }
    rw [setAll_get vs c a.off c' hset j, e3]
    by_cases hin : a.off ≤ j ∧ j < a.off + vs.length
    · rw [if_pos hin, if_pos (by omega)]
      have hj' : p.off + j - (p.off + a.off) = j - a.off := by omega
      rw [hj']
      obtain ⟨v', hv1, hv2⟩ := hv.get (j - a.off) (vs[j - a.off]'(by omega)) (List.getElem?_eq_getElem (by omega))
      refine ⟨v', hv1, ?_⟩
      have : vs.getD (j - a.off) undef = vs[j - a.off]'(by omega) := by
        rw [List.getD_eq_getElem?_getD, List.getElem?_eq_getElem (by omega)]; rfl
      rw [this]; exact hv2
    · rw [if_neg hin, if_neg (by omega)]
      exact R.cell j hj
  exact ⟨_, _, hk, hrun, H.put hE h256 hp hl hbl e4 e5 hB, .put (H.notInp hp h256) hp hl hbl (by rw [rowOf_ok hrow]; exact .inr ⟨rfl, rfl⟩) e4 e5 e6 e7 e8⟩

/-- a row is made of a tree's cells -/
theorem newRowT_ok (H : RelW ty φ E h w) {en : Nat} {cs : List Value} {c : VT} {n : Nat} {k : Nat → Hp → R} (hr : newRowT h en c n k = .ok v h') (hc : ∀ j, j < cs.length → c.get j = cs.getD j undef) (hn : n = cs.length)
    {cs' : Array Value} {t : TypeId} {fr : Nat × Nat} {p : Pl}
    (hp : p = { blk := w.heap.size, off := 0, sz := cs.length, room := cs'.size, es := p.es }) (hk : Kind ty p cs.length en) (hsz : cs.length ≤ cs'.size)
    (hfr : fr.1 = fr.2 ∨ cs'.size ≤ fr.1) (hrel : ∀ (j : Nat) (u : Value), cs[j]? = some u → ∃ u', cs'[j]? = some u' ∧ RelV φ u u') {w' : World} (hw' : w'.heap = w.heap.push (.cells cs' t fr))
    (ht : w'.tape = w.tape) (ho : w'.os = w.os) (hout : w'.output = w.output) :
    ∃ h1, k h.next h1 = .ok v h' ∧ RelW ty (φ.put h.next p) E h1 w' ∧ Evo φ h w (φ.put h.next p) h1 w' := by
  subst hn
  unfold newRowT at hr
  rw [forceN_is] at hr
  obtain ⟨bl, hbl, hk'⟩ := newBlk_ok hr
  have hb : p.blk = w.heap.size := by rw [hp]
  have hs : w'.heap.size = w.heap.size + 1 := by rw [hw']; simp
  have hsame : ∀ k, k < w.heap.size → w'.heap[k]? = w.heap[k]? := fun k hk => by
    rw [hw', Array.getElem?_push_lt hk, Array.getElem?_eq_getElem hk]
  refine ⟨_, hk', H.new hbl (by omega) (by omega) (fun j q e _ => by have := (H.dom j q e).2; omega) (fun k hk _ => hsame k hk) ?_ (hin := by rw [hp]),
    .made H hbl (by omega) (by omega) hsame ht ho hout⟩
  have hpush : w'.heap[p.blk]? = some (.cells cs' t fr) := by rw [hw', hb]; simp
  rw [hpush]
  refine .cells { kind := hk, room := by rw [hp]; exact hsz, fits := by rw [hp]; simp, loose := .inl hfr, cell := fun j hj => ?_ }
  rw [hc j hj]
  obtain ⟨u', hu1, hu2⟩ := hrel j (cs[j]) (List.getElem?_eq_getElem hj)
  refine ⟨u', by rw [hp]; simpa using hu1, ?_⟩
  have : cs.getD j undef = cs[j] := by
    rw [List.getD_eq_getElem?_getD, List.getElem?_eq_getElem hj]; rfl
  rw [this]; exact hu2.mono (Phi.put_le H.none_next)
theorem setAll_new {cs : List Value} {c : VT} (hset : setAll .mt 0 cs = some c) : ∀ j, j < cs.length → c.get j = cs.getD j undef := fun j hj => by
  rw [setAll_get cs .mt 0 c hset j, if_pos (by omega)]; rfl

/-- a row is made -/
theorem newRow_ok (H : RelW ty φ E h w) {en : Nat} {cs : List Value} {k : Nat → Hp → R} (hr : newRow h en cs k = .ok v h') {cs' : Array Value} {t : TypeId} {fr : Nat × Nat} {p : Pl}
    (hp : p = { blk := w.heap.size, off := 0, sz := cs.length, room := cs'.size, es := p.es }) (hk : Kind ty p cs.length en) (hsz : cs.length ≤ cs'.size)
    (hfr : fr.1 = fr.2 ∨ cs'.size ≤ fr.1) (hrel : ∀ (j : Nat) (u : Value), cs[j]? = some u → ∃ u', cs'[j]? = some u' ∧ RelV φ u u') {w' : World} (hw' : w'.heap = w.heap.push (.cells cs' t fr))
    (ht : w'.tape = w.tape) (ho : w'.os = w.os) (hout : w'.output = w.output) :
    ∃ h1, k h.next h1 = .ok v h' ∧ RelW ty (φ.put h.next p) E h1 w' ∧ Evo φ h w (φ.put h.next p) h1 w' := by
  unfold newRow at hr
  split at hr
  case h_2 => cases hr
  rename_i c hset
  exact newRowT_ok H hr (setAll_new hset) (lenL_is _) hp hk hsz hfr hrel hw' ht ho hout
end
end Go.Proofs.Ytkafejncffinmaa
