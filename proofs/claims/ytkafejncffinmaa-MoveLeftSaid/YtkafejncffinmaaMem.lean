/-
  Operations on memory: addresses, loads, stores, new rows, parts of structs and arrays.
-/
import Derived.Test.YtkafejncffinmaaStr
set_option linter.unusedSimpArgs false
set_option linter.unusedVariables false
namespace Go.Proofs.Ytkafejncffinmaa
open Go

section
variable {P : Program} {ty : TTy} {φ : Phi} {E : Nat → Prop} {h h' : Hp} {w : World} {F : CallF} {e : Env} {v : Value}

theorem adr_rel {x : O} {x' : Value} (hx : RelV φ (x e) x') {a : Addr} (h : adrV (x e) = .ok a) : ∃ a', x' = .pointer (some a') ∧ RelA φ a a' := by
  rw [adrV_ok h] at hx; exact hx.ptr_inv
theorem sure_run (a : Addr) : (Instr.sureAddr (.pointer (some a))).run P w = .ok a w := rfl

theorem oLoad1_ok (H : RelW ty φ E h w) {x : O} {x' : Value} {t : TypeId} {ti : TI} (T : TyOk P t ti) (hagg : ti.k.agg = false) (hx : RelV φ (x e) x')
    (hE : ∀ a, x e = .pointer (some a) → ¬ E a.block) (hr : oLoad1 x F e h = .ok v h') : Gives ty φ E h w v h' ((Instr.loadAt t x').run P w) := by
  unfold oLoad1 at hr
  cases ha : adrV (x e) with
  | no => rw [ha] at hr; cases hr
  | ok a =>
    rw [ha] at hr
    obtain ⟨a', rfl, hra⟩ := adr_rel hx ha
    obtain ⟨rfl, v', hc, hv⟩ := load1_ok H hr hra (hE a (adrV_ok ha))
    have key : (Instr.loadAt t (.pointer (some a'))).run P w = .ok v' w := by
      simp only [Instr.loadAt, Sem.run_bind, sure_run, Result.andThen_ok, loadVar, T.agg, hagg, run_load, hc, Bool.false_eq_true, if_false]
    rw [key]; exact .same H hv
theorem loadN_ok (H : RelW ty φ E h w) {n : Nat} {a a' : Addr} (hr : loadN n a h = .ok v h') (ha : RelA φ a a') (hE : ¬ E a.block) :
    h' = h ∧ ∃ l, RelV φ v (.agg ⟨l⟩) ∧ (loadCells a' n).run P w = .ok l.toArray w := by
  unfold loadN at hr
  split at hr
  case h_2 => cases hr
  rename_i c s en hrow
  obtain ⟨hb, hr⟩ := bif_ok hr
  rw [getN_is, List.append_nil] at hr
  cases hr
  obtain ⟨l, hl, _, hrun, _⟩ := loads_ok H ha hE hrow (nat_ble.1 hb)
  exact ⟨rfl, l, .agg hl, hrun w rfl⟩
theorem oLoadN_ok (H : RelW ty φ E h w) {x : O} {x' : Value} {t : TypeId} {ti : TI} (T : TyOk P t ti) (hagg : ti.k.agg = true) (hx : RelV φ (x e) x')
    (hE : ∀ a, x e = .pointer (some a) → ¬ E a.block) (hr : oLoadN ti.size x F e h = .ok v h') : Gives ty φ E h w v h' ((Instr.loadAt t x').run P w) := by
  unfold oLoadN at hr
  split at hr
  case h_2 => cases hr
  rename_i a ha
  obtain ⟨a', rfl, hra⟩ := adr_rel hx ha
  obtain ⟨rfl, l, hv, hrun⟩ := loadN_ok (P := P) H hr hra (hE a (adrV_ok ha))
  have key : (Instr.loadAt t (.pointer (some a'))).run P w = .ok (.agg l.toArray) w := by
    simp only [Instr.loadAt, Sem.run_bind, sure_run, Result.andThen_ok, loadVar, T.agg, hagg, T.size, hrun, if_true, Sem.run_pure]
  rw [key]; exact .same H hv

/-- what is done without an answer -/
def Skips (ty : TTy) (φ : Phi) (E : Nat → Prop) (h : Hp) (w : World) (v : Value) (h' : Hp) (r : Result Unit) : Prop :=
  v = noRes ∧ ∃ w', r = .ok () w' ∧ RelW ty φ E h' w' ∧ Evo φ h w φ h' w'

theorem storeL_known {a : Addr} {u : Value} {k : Hp → R} (hr : storeL a (cellsOf u) h k = .ok v h') : known u = true := by
  cases u <;> first | rfl | skip
  exfalso
  unfold storeL at hr
  cases hrow : rowOf h a.block with
  | no => rw [hrow] at hr; cases hr
  | ok c s e =>
    rw [hrow] at hr
    simp only at hr
    obtain ⟨_, hr⟩ := bif_ok hr
    have h1 := (bif_ok hr).1
    cases h1
theorem oStore_ok (H : RelW ty φ E h w) {x y : O} {x' y' : Value} {t : TypeId} {ti : TI} (T : TyOk P t ti) (hx : RelV φ (x e) x') (hy : RelV φ (y e) y')
    (hE : ∀ a, x e = .pointer (some a) → ¬ E a.block) (hr : oStore ti.size x y F e h = .ok v h') : Skips ty φ E h w v h' ((Instr.storeAt t x' y').run P w) := by
  unfold oStore at hr
  split at hr
  case h_2 => cases hr
  rename_i a ha
  obtain ⟨a', rfl, hra⟩ := adr_rel hx ha
  rw [forceV_is] at hr
  obtain ⟨hb, hr⟩ := bif_ok hr
  have hc := cells_rel hy (storeL_known hr)
  obtain ⟨h1, w1, hk, hrun, H1, ev⟩ := storeL_ok (P := P) H hr hra hc (hE a (adrV_ok ha))
  cases hk
  refine ⟨rfl, w1, ?_, H1, ev⟩
  have hsz : y'.cells.size = ti.size := by
    have := hc.length
    rw [← nat_beq.1 hb, lenL_is, ← this]; simp
  simp only [Instr.storeAt, Sem.run_bind, sure_run, Result.andThen_ok, storeVar, T.size, hsz, ne_eq, not_true_eq_false, if_false, hrun, Sem.run_pure]

theorem oNil_ok (H : RelW ty φ E h w) {x : O} {x' : Value} (hx : RelV φ (x e) x') (hr : oNil x F e h = .ok v h') :
    RelV φ v x' ∧ h' = h ∧ (x' ≠ .pointer none ∧ x' ≠ .nilIface ∧ x' ≠ .nilFunc ∧ ∀ nm f c, x' ≠ .func (.method nm) f c) := by
  unfold oNil nilF at hr
  split at hr
  · rename_i a ha
    cases hr; rw [ha] at hx
    obtain ⟨a', rfl, hra⟩ := hx.ptr_inv
    exact ⟨.ptr hra, rfl, by simp⟩
  · rename_i f a b ha
    cases hr; rw [ha] at hx
    cases hx with | func fn h1 h2 => exact ⟨.func _ h1 h2, rfl, by simp⟩
  · rename_i a n c ha
    cases hr; rw [ha] at hx
    refine ⟨hx, rfl, ?_⟩
    cases hx <;> simp
  · rename_i m ha
    cases hr; rw [ha] at hx
    refine ⟨hx, rfl, ?_⟩
    cases hx <;> simp
  · rename_i t u ha
    rw [forceV_is] at hr
    cases hr; rw [ha] at hx
    refine ⟨hx, rfl, ?_⟩
    cases hx <;> simp
  · cases hr

/-- a new row of so many cells, with no room behind it -/
theorem newRow0_ok (H : RelW ty φ E h w) {cs cs' : List Value} {k : Nat → Hp → R} (hr : newRow h 0 cs k = .ok v h') (hrel : RelL φ cs cs') (t : TypeId) :
    ∃ h1 ψ, k h.next h1 = .ok v h' ∧ ψ h.next = some { blk := w.heap.size, off := 0, sz := cs.length, room := cs.length, es := 1 } ∧
      RelW ty ψ E h1 { w with heap := w.heap.push (.cells ⟨cs'⟩ t) } ∧ Evo φ h w ψ h1 { w with heap := w.heap.push (.cells ⟨cs'⟩ t) } := by
  have hlen := hrel.length
  obtain ⟨h1, hk, H1, ev⟩ := newRow_ok (cs' := ⟨cs'⟩) (t := t) (fr := (0, 0)) (w' := { w with heap := w.heap.push (.cells ⟨cs'⟩ t) })
    (p := { blk := w.heap.size, off := 0, sz := cs.length, room := cs.length, es := 1 }) H hr (by simp [hlen]) ⟨rfl, .inl ⟨rfl, rfl, rfl, .inl rfl⟩⟩ (by simp [hlen]) (.inl rfl)
    (fun j u hj => by simpa using hrel.get j u hj) rfl rfl rfl rfl
  exact ⟨h1, _, hk, Phi.put_self _ _ _, H1, ev⟩

theorem ptr_new {ψ : Phi} {n : Nat} {p : Pl} (hp : ψ n = some p) (ho : p.off = 0) : RelV ψ (.pointer (some ⟨n, 0, none⟩)) (.pointer (some ⟨p.blk, 0, none⟩)) :=
  .ptr ⟨rfl, rfl, p, hp, rfl, by simp [ho]⟩

theorem oBox_ok (H : RelW ty φ E h w) {x : O} {x' : Value} {t : TypeId} (hx : RelV φ (x e) x') (hr : oBox x F e h = .ok v h') : Gives ty φ E h w v h' ((Instr.box t x').run P w) := by
  unfold oBox at hr; rw [forceV_is] at hr
  obtain ⟨hkn, hr⟩ := bif_ok hr
  obtain ⟨h1, ψ, hk, hp, H1, ev⟩ := newRow0_ok H hr (cells_rel hx hkn) t
  cases hk
  exact ⟨_, _, ψ, rfl, ptr_new hp rfl, H1, ev⟩
theorem oAlloc_ok (H : RelW ty φ E h w) {t : TypeId} {ti : TI} (T : TyOk P t ti) {c : VT} (hz : ti.zero.length = ti.size) (hc : setAll .mt 0 ti.zero = some c) (hr : oAlloc ti.size c F e h = .ok v h') :
    Gives ty φ E h w v h' ((Instr.alloc t true (.tuple #[])).run P w) := by
  obtain ⟨z, _, hzr, hzc, hzp⟩ := T.zeroOk hz
  have hr' : newRow h 0 ti.zero ptrNew = .ok v h' := by
    unfold newRow newRowT; rw [hc]; simp only [forceN_is, lenL_is, hz]; exact hr
  obtain ⟨h1, ψ, hk, hp, H1, ev⟩ := newRow0_ok H hr' (.plain hzp) t
  cases hk
  refine ⟨_, _, ψ, ?_, ptr_new hp rfl, H1, ev⟩
  have e1 : (⟨ti.zero⟩ : Array Value) = z.cells := by rw [← hzc]
  simp only [Instr.alloc, Sem.run_bind, hzr, Result.andThen_ok, newVar, Go.newRow, run_newObj, Sem.run_pure, e1]

theorem ptrTo_ok (H : RelW ty φ E h w) {a a' : Addr} {n : Nat} (ha : RelA φ a a') (hr : ptrTo a n h = .ok v h') : h' = h ∧ RelV φ v (.pointer (some (a'.add n))) := by
  unfold ptrTo at hr; rw [forceN_is] at hr; cases hr
  obtain ⟨p, hp, rfl⟩ := ha.eq
  rw [Addr.add_is]
  refine ⟨rfl, .ptr ⟨rfl, rfl, p, hp, rfl, ?_⟩⟩
  show p.off + a.off + n = p.off + (a.off + n)
  omega
theorem fields_get {fs : List (Nat × Nat × Nat)} {fields : Array Field} (hf : fields.toList.map (fun f => (f.offset, P.cellsOf f.type, f.type)) = fs) {i o s t : Nat} (hi : nth fs i = some (o, s, t)) :
    ∃ f, fields[i]? = some f ∧ f.offset = o ∧ P.cellsOf f.type = s ∧ f.type = t := by
  rw [nth_is, ← hf, List.getElem?_map] at hi
  cases hg : fields.toList[i]? with
  | none => rw [hg] at hi; cases hi
  | some f =>
    rw [hg] at hi
    simp only [Option.map_some, Option.some.injEq, Prod.mk.injEq] at hi
    exact ⟨f, by simpa using hg, hi.1, hi.2.1, hi.2.2⟩

theorem oFieldAddr_ok (H : RelW ty φ E h w) {x : O} {x' : Value} {t : TypeId} {ti : TI} (T : TyOk P t ti) {fs : List (Nat × Nat × Nat)} (hk : ti.k = .struct fs) {i o s ft : Nat} (hi : nth fs i = some (o, s + 1, ft))
    (hx : RelV φ (x e) x') (hr : oFieldAddr o x F e h = .ok v h') : Gives ty φ E h w v h' ((Instr.fieldAt t x' i).run P w) := by
  unfold oFieldAddr at hr
  cases ha : adrV (x e) with
  | no => rw [ha] at hr; cases hr
  | ok a =>
    rw [ha] at hr
    obtain ⟨a', rfl, hra⟩ := adr_rel hx ha
    obtain ⟨rfl, hv⟩ := ptrTo_ok H hra hr
    obtain ⟨d, hd, hkd⟩ := T.desc
    rw [hk] at hkd
    cases hkd with
    | struct hf hin =>
      obtain ⟨f, hf1, hf2, hf3, hf4⟩ := fields_get hf hi
      have hsome : (P.info? f.type).isSome = true := by
        have := List.all_eq_true.1 hin f (by simpa using Array.mem_of_getElem? hf1)
        exact this
      obtain ⟨inf, hinf⟩ := Option.isSome_iff_exists.1 hsome
      have key : (Instr.fieldAt t (.pointer (some a')) i).run P w = .ok (.pointer (some (a'.add o))) w := by
        simp only [Instr.fieldAt, Sem.run_bind, hd, Result.andThen_ok, hf1, sure_run, fieldPlace, run_sizeOf w hinf, hf3, hf2, Nat.succ_ne_zero, if_false, Sem.run_pure, Nat.add_eq_zero_iff, reduceCtorEq, and_false]
      rw [key]; exact .same H hv
theorem idxF_ok (H : RelW ty φ E h w) {n esize : Nat} {a a' : Addr} {ix : O} {ix' : Value} (hi : RelV φ (ix e) ix') (ha : RelA φ a a') (hr : idxF n esize (.ok a) (natV (ix e)) h = .ok v h') :
    ∃ k i, ix' = .int k (i : Nat) ∧ i < n ∧ h' = h ∧ RelV φ v (.pointer (some (a'.add (i * esize)))) := by
  unfold idxF at hr
  cases h1 : natV (ix e) with
  | no => rw [h1] at hr; cases hr
  | ok i =>
    rw [h1] at hr
    simp only at hr
    obtain ⟨k, rfl⟩ := natV_rel hi h1
    cases hb : Nat.blt i n with
    | false => rw [hb] at hr; cases hr
    | true =>
      rw [hb] at hr
      simp only at hr
      obtain ⟨r1, r2⟩ := ptrTo_ok H ha hr
      exact ⟨k, i, rfl, nat_blt.1 hb, r1, r2⟩
theorem oIdxArr_ok (H : RelW ty φ E h w) {x ix : O} {x' ix' : Value} {t el : TypeId} {ti ei : TI} (T : TyOk P t ti) {n : Nat} (hk : ti.k = .arr n el) (TE : TyOk P el ei)
    (hx : RelV φ (x e) x') (hi : RelV φ (ix e) ix') (hr : oIdxArr n ei.size x ix F e h = .ok v h') : Gives ty φ E h w v h' ((Instr.indexAt t x' ix').run P w) := by
  unfold oIdxArr at hr
  cases ha : adrV (x e) with
  | no =>
    rw [ha] at hr
    unfold idxF at hr
    cases h1 : natV (ix e) with
    | no => rw [h1] at hr; cases hr
    | ok i => rw [h1] at hr; simp only at hr; cases hb : Nat.blt i n <;> rw [hb] at hr <;> cases hr
  | ok a =>
    rw [ha] at hr
    obtain ⟨a', rfl, hra⟩ := adr_rel hx ha
    obtain ⟨k, i, rfl, hlt, rfl, hv⟩ := idxF_ok H hi hra hr
    obtain ⟨d, hd, hkd⟩ := T.desc
    rw [hk] at hkd
    cases hkd
    have key : (Instr.indexAt t (.pointer (some a')) (.int k (i : Nat))).run P w = .ok (.pointer (some (a'.add (i * ei.size)))) w := by
      have h2 : (0 : Int) ≤ (i : Int) ∧ (i : Int) < (n : Int) := by omega
      simp only [Instr.indexAt, asIntOf, Sem.run_bind, Sem.run_pure, hd, Result.andThen_ok, sure_run, h2, and_self, if_true, TE.size, Int.toNat_natCast, Sem.run_ite]
    rw [key]; exact .same H hv
theorem slice_adr {a a' : Addr} {n c c' : Nat} (hn : n ≤ c) (h : RelS φ a c a' c') (h0 : 0 < n) : RelA φ a a' := by
  obtain ⟨s1, s2, p, hp, hb, h | h⟩ := h
  · exact ⟨s1, s2, p, hp, hb, h.2.1⟩
  · omega
theorem oIdx_ok (H : RelW ty φ E h w) {x ix : O} {x' ix' : Value} {t el : TypeId} {ti ei : TI} (T : TyOk P t ti) (hk : ti.k = .slice el) (TE : TyOk P el ei)
    (hx : RelV φ (x e) x') (hi : RelV φ (ix e) ix') (hr : oIdx ei.size x ix F e h = .ok v h') : Gives ty φ E h w v h' ((Instr.indexAt t x' ix').run P w) := by
  unfold oIdx at hr
  split at hr
  case h_2 => cases hr
  rename_i a n c hxe
  rw [hxe] at hx
  cases hx with
  | @slice _ a' _ _ c' hn hs =>
    obtain ⟨d, hd, hkd⟩ := T.desc
    rw [hk] at hkd
    cases hkd
    cases h1 : natV (ix e) with
    | no => rw [h1] at hr; cases hr
    | ok i0 =>
      have hpos : 0 < n := by
        rw [h1] at hr
        unfold idxF at hr
        simp only at hr
        cases hb : Nat.blt i0 n with
        | false => rw [hb] at hr; cases hr
        | true => have := nat_blt.1 hb; omega
      obtain ⟨k, i, rfl, hlt, rfl, hv⟩ := idxF_ok H hi (slice_adr hn hs hpos) hr
      have key : (Instr.indexAt t (.slice (some a') n c') (.int k (i : Nat))).run P w = .ok (.pointer (some (a'.add (i * ei.size)))) w := by
        have h2 : (0 : Int) ≤ (i : Int) ∧ (i : Int) < (n : Int) := by omega
        simp only [Instr.indexAt, asIntOf, Sem.run_bind, Sem.run_pure, hd, Result.andThen_ok, h2, and_self, if_true, TE.size, Int.toNat_natCast, Sem.run_ite]
      rw [key]; exact .same H hv
theorem partL_ok (H : RelW ty φ E h w) {t : TypeId} {ti : TI} (T : TyOk P t ti) {l l' : List Value} (hl : RelL φ l l') {off : Nat} (hr : partL ti.k.agg ti.size l off h = .ok v h') :
    Gives ty φ E h w v h' ((part t ⟨l'⟩ off).run P w) := by
  unfold partL at hr
  split at hr
  · rename_i hagg
    rw [forceL_is, takeL_is, dropL_is] at hr
    cases hr
    have key : (part t ⟨l'⟩ off).run P w = .ok (.agg ⟨(l'.drop off).take ti.size⟩) w := by
      simp only [part, Sem.run_bind, T.agg, hagg, Result.andThen_ok, if_true, T.size, Sem.run_pure]
      congr 2
      apply Array.ext'
      simp [Array.toList_extract, List.extract_eq_take_drop]
    rw [key]; exact .same H (.agg ((hl.drop off).take ti.size))
  · rename_i hagg
    split at hr
    · rename_i u hu
      rw [forceV_is] at hr
      cases hr
      rw [nth_is] at hu
      obtain ⟨u', hu', hru⟩ := hl.get off _ hu
      have key : (part t ⟨l'⟩ off).run P w = .ok u' w := by
        have : (⟨l'⟩ : Array Value)[off]? = some u' := by simpa using hu'
        simp only [part, Sem.run_bind, T.agg, hagg, Result.andThen_ok, Bool.false_eq_true, if_false, this, Sem.run_pure]
      rw [key]; exact .same H hru
    · cases hr
theorem oField_ok (H : RelW ty φ E h w) {x : O} {x' : Value} {t : TypeId} {ti fi : TI} (T : TyOk P t ti) {fs : List (Nat × Nat × Nat)} (hk : ti.k = .struct fs) {i o s ft : Nat} (hi : nth fs i = some (o, s, ft)) (TF : TyOk P ft fi)
    (hx : RelV φ (x e) x') (hr : oField fi.k.agg fi.size o x F e h = .ok v h') : Gives ty φ E h w v h' ((Instr.field t x' i).run P w) := by
  unfold oField at hr
  split at hr
  case h_2 => cases hr
  rename_i cs hxe
  rw [hxe] at hx
  cases hx with
  | agg hl =>
    obtain ⟨d, hd, hkd⟩ := T.desc
    rw [hk] at hkd
    cases hkd with
    | struct hf hin =>
      obtain ⟨f, hf1, hf2, hf3, hf4⟩ := fields_get hf hi
      have := partL_ok (P := P) H TF hl hr
      simp only [Instr.field, Sem.run_bind, hd, Result.andThen_ok, hf1, asAgg, Sem.run_pure, hf2, hf4]
      exact this
theorem oAt_ok (H : RelW ty φ E h w) {x ix : O} {x' ix' : Value} {t el : TypeId} {ti ei : TI} (T : TyOk P t ti) {n : Nat} (hk : ti.k = .arr n el) (TE : TyOk P el ei)
    (hx : RelV φ (x e) x') (hi : RelV φ (ix e) ix') (hr : oAt ei.k.agg n ei.size x ix F e h = .ok v h') : Gives ty φ E h w v h' ((Instr.index t x' ix').run P w) := by
  unfold oAt atF at hr
  split at hr
  case h_2 => cases hr
  rename_i i h1
  obtain ⟨hb, hr⟩ := bif_ok hr
  obtain ⟨k, rfl⟩ := natV_rel hi h1
  split at hr
  case h_2 => cases hr
  rename_i cs hxe
  rw [hxe] at hx
  cases hx with
  | agg hl =>
    obtain ⟨d, hd, hkd⟩ := T.desc
    rw [hk] at hkd
    cases hkd
    have := partL_ok (P := P) H TE hl hr
    have hlt := nat_blt.1 hb
    have h2 : (0 : Int) ≤ (i : Int) ∧ (i : Int) < (n : Int) := by omega
    simp only [Instr.index, asIntOf, Sem.run_bind, Sem.run_pure, hd, Result.andThen_ok, h2, and_self, if_true, TE.size, Int.toNat_natCast, Sem.run_ite]
    exact this
theorem oAtStr_ok (H : RelW ty φ E h w) {x ix : O} {x' ix' : Value} {t : TypeId} {ti : TI} (T : TyOk P t ti) (hk : ti.k = .string)
    (hx : RelV φ (x e) x') (hi : RelV φ (ix e) ix') (hr : oAtStr x ix F e h = .ok v h') : Gives ty φ E h w v h' ((Instr.index t x' ix').run P w) := by
  unfold oAtStr atStrF at hr
  split at hr
  case h_2 => cases hr
  rename_i i h1
  obtain ⟨k, rfl⟩ := natV_rel hi h1
  split at hr
  case h_2 => cases hr
  rename_i s hxe
  rw [hxe] at hx
  obtain rfl := hx.string_inv
  split at hr
  case h_2 => cases hr
  rename_i b hb
  obtain ⟨rfl, rfl⟩ := okI_ok hr
  obtain ⟨d, hd, hkd⟩ := T.desc
  rw [hk] at hkd
  cases hkd
  rw [nth_is] at hb
  have hget : s[i]? = some b := by
    have h0 : i < s.data.toList.length := by
      rcases Nat.lt_or_ge i s.data.toList.length with h | h
      · exact h
      · rw [List.getElem?_eq_none h] at hb; cases hb
    have h1 : i < s.size := h0
    rw [getElem?_pos s i h1]
    rw [List.getElem?_eq_getElem h0] at hb
    rw [← Option.some.inj hb]; rfl
  have key : (Instr.index t (.string s) (.int k (i : Nat))).run P w = .ok (.int .u8 b.toNat) w := by
    have h0 : (0 : Int) ≤ (i : Int) := by omega
    simp only [Instr.index, asIntOf, Sem.run_bind, Sem.run_pure, hd, Result.andThen_ok, h0, if_true, Int.toNat_natCast, hget]
  rw [key]; exact .same H (.int _ _)
theorem oExtract_ok (H : RelW ty φ E h w) {x : O} {x' : Value} {i : Nat} (hx : RelV φ (x e) x') (hr : oExtract i x F e h = .ok v h') : Gives ty φ E h w v h' ((Instr.extract x' i).run P w) := by
  unfold oExtract at hr
  split at hr
  case h_2 => cases hr
  rename_i vs hxe
  rw [hxe] at hx
  cases hx with
  | @tuple l l' hl =>
    split at hr
    case h_2 => cases hr
    rename_i u hu
    rw [forceV_is] at hr
    cases hr
    rw [nth_is] at hu
    obtain ⟨u', hu', hru⟩ := hl.get i _ hu
    have : (⟨l'⟩ : Array Value)[i]? = some u' := by simpa using hu'
    simp only [Instr.extract, this, Sem.run_pure]
    exact .same H hru
theorem _root_.Go.Proofs.Ytkafejncffinmaa.KOk.noIface {k : TK} {d : TypeDesc} (hkd : KOk P k d) (hk : k ≠ .iface) (ms : Array (String × TypeId)) : d ≠ .interface ms := by
  cases hkd with
  | other ho => intro he; subst he; cases ho
  | iface ms' => exact absurd rfl hk
  | _ => intro he; cases he
theorem oIface_ok (H : RelW ty φ E h w) {x : O} {x' : Value} {t : TypeId} {ti : TI} (T : TyOk P t ti) (hk : ti.k ≠ .iface)
    (hx : RelV φ (x e) x') (hr : oIface t x F e h = .ok v h') : Gives ty φ E h w v h' ((Instr.makeInterface t x').run P w) := by
  unfold oIface at hr; rw [forceV_is] at hr; cases hr
  obtain ⟨d, hd, hkd⟩ := T.und
  have key : (Instr.makeInterface t x').run P w = .ok (.iface t x') w := by
    simp only [Instr.makeInterface, Sem.run_bind, run_underlying hd, Result.andThen_ok]
    cases d <;> first | rfl | exact absurd rfl (hkd.noIface hk _)
  rw [key]; exact .same H (.iface t hx)
theorem oMap_ok (H : RelW ty φ E h w) {t : TypeId} (hr : oMap F e h = .ok v h') : Gives ty φ E h w v h' ((Instr.makeMap t none).run P w) := by
  unfold oMap at hr
  obtain ⟨bl, hbl, hk⟩ := newBlk_ok hr
  cases hk
  let w' : World := { w with heap := w.heap.push (.map #[] 0) }
  have hs : w'.heap.size = w.heap.size + 1 := by simp [w']
  have hsame : ∀ k, k < w.heap.size → w'.heap[k]? = w.heap[k]? := fun k hk => by
    show (w.heap.push _)[k]? = _
    rw [Array.getElem?_push_lt hk, Array.getElem?_eq_getElem hk]
  refine ⟨.map (some w.heap.size), w', φ.put h.next { blk := w.heap.size, off := 0, sz := 0, room := 0, es := 1 }, rfl, .map (Phi.put_self _ _ _),
    H.new hbl (by omega) (by show w.heap.size < _; omega) (fun j q e _ => by have := (H.dom j q e).2; show _ ≠ w.heap.size; omega) (fun k hk _ => hsame k hk) ?_,
    .made H hbl (Nat.le_refl _) (by omega) hsame rfl rfl rfl⟩
  have : w'.heap[w.heap.size]? = some (.map #[] 0) := by show (w.heap.push _)[w.heap.size]? = _; simp
  rw [this]
  exact .map .nil
end
end Go.Proofs.Ytkafejncffinmaa
