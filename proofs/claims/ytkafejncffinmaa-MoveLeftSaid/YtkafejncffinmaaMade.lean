/-
  Structs and slices that are built, made, converted, copied.
-/
import Derived.Test.YtkafejncffinmaaRow
set_option linter.unusedSimpArgs false
set_option linter.unusedVariables false
namespace Go.Proofs.Ytkafejncffinmaa
open Go

section
variable {P : Program} {ty : TTy} {φ : Phi} {E : Nat → Prop} {h h' : Hp} {w : World} {F : CallF} {e : Env} {v : Value}

theorem oBuildS_ok (H : RelW ty φ E h w) {t : TypeId} {ti : TI} (T : TyOk P t ti) {fs : List (Nat × Nat × Nat)} (hk : ti.k = .struct fs) (hz : ti.zero.length = ti.size)
    {ps : List (Nat × Nat × O)} {ps' : Array (Nat × Value)} (hp : RelP φ e (placeS fs) ps ps'.toList)
    (hr : oBuild ti.zero ps F e h = .ok v h') : Gives ty φ E h w v h' ((Instr.build t ps').run P w) := by
  unfold oBuild at hr
  obtain ⟨z, _, hzr, hzc, hzp⟩ := T.zeroOk hz
  obtain ⟨r, r', hk2, hrr, hlen, hf⟩ := fillL_ok hp (.plain hzp) hr
  cases hk2
  obtain ⟨d, hd, hkd⟩ := T.desc
  rw [hk] at hkd
  cases hkd with
  | @struct fs fields hfl hin =>
    have hmap : ∀ w, (fields.mapM (fun f => (do pure (f.offset, ← sizeOf f.type) : Sem (Nat × Nat)))).run P w = .ok (fields.map fun f => (f.offset, P.cellsOf f.type)) w := by
      intro w
      rw [← Array.toArray_toList (xs := fields), List.mapM_toArray, List.map_toArray]
      have : ∀ l : List Field, l.all (fun f => (P.info? f.type).isSome) = true → (l.mapM (fun f => (do pure (f.offset, ← sizeOf f.type) : Sem (Nat × Nat)))).run P w = .ok (l.map fun f => (f.offset, P.cellsOf f.type)) w := by
        intro l
        induction l with
        | nil => intro _; rfl
        | cons f l ih =>
          intro hall
          simp only [List.all_cons, Bool.and_eq_true] at hall
          obtain ⟨inf, hinf⟩ := Option.isSome_iff_exists.1 hall.1
          simp only [List.mapM_cons, Sem.run_bind, run_sizeOf w hinf, Result.andThen_ok, Sem.run_pure, ih hall.2, List.map_cons]
      simp only [Sem.run_map, this _ hin, Result.andThen_ok]
    have hplace : placeS fs = fun i => (fields.map fun f => (f.offset, P.cellsOf f.type))[i]? := by
      funext i
      unfold placeS
      rw [nth_is, ← hfl, List.getElem?_map, Array.getElem?_map, ← Array.getElem?_toList]
      cases fields.toList[i]? <;> rfl
    rw [hplace] at hf
    have hz' : (⟨ti.zero⟩ : Array Value) = z.cells := by rw [← hzc]
    rw [hz'] at hf
    have key : (Instr.build t ps').run P w = .ok (.agg ⟨r'⟩) w := by
      simp only [Instr.build, Sem.run_bind, hzr, Result.andThen_ok, hd, hmap, hf, Sem.run_pure]
    rw [key]; exact .same H (.agg hrr)
theorem oBuildA_ok (H : RelW ty φ E h w) {t el : TypeId} {ti ei : TI} (T : TyOk P t ti) {n : Nat} (hk : ti.k = .arr n el) (TE : TyOk P el ei) (hz : ti.zero.length = ti.size)
    {ps : List (Nat × Nat × O)} {ps' : Array (Nat × Value)} (hp : RelP φ e (fun i => some (Nat.mul i ei.size, ei.size)) ps ps'.toList)
    (hr : oBuild ti.zero ps F e h = .ok v h') : Gives ty φ E h w v h' ((Instr.build t ps').run P w) := by
  unfold oBuild at hr
  obtain ⟨z, _, hzr, hzc, hzp⟩ := T.zeroOk hz
  obtain ⟨r, r', hk2, hrr, hlen, hf⟩ := fillL_ok hp (.plain hzp) hr
  cases hk2
  obtain ⟨d, hd, hkd⟩ := T.desc
  rw [hk] at hkd
  cases hkd
  have hz' : (⟨ti.zero⟩ : Array Value) = z.cells := by rw [← hzc]
  rw [hz'] at hf
  have hf' : Instr.fill (fun i => some (i * ei.size, ei.size)) z.cells ps'.toList = some ⟨r'⟩ := hf
  have key : (Instr.build t ps').run P w = .ok (.agg ⟨r'⟩) w := by
    simp only [Instr.build, Sem.run_bind, hzr, Result.andThen_ok, hd, TE.size, hf', Sem.run_pure]
  rw [key]; exact .same H (.agg hrr)

theorem slc_new {ψ : Phi} {n s l c : Nat} {p : Pl} (hp : ψ n = some p) (ho : p.off = 0) (hl : l ≤ c) (hc : c = 0 ∨ 0 < c) : RelV ψ (.slice (some ⟨n, 0, none⟩) l c) (.slice (some ⟨p.blk, 0, none⟩) l c) := by
  refine .slice hl ⟨rfl, rfl, p, hp, rfl, ?_⟩
  rcases hc with h | h
  · exact .inr ⟨h, .inl h⟩
  · exact .inl ⟨h, by simp [ho], .inl rfl⟩

theorem oBuildSlice_ok (H : RelW ty φ E h w) {t el : TypeId} {ti ei : TI} (T : TyOk P t ti) (hk : ti.k = .slice el) (TE : TyOk P el ei) (hz : ei.zero.length = ei.size)
    {len : Nat} (hlen : len * ei.size ≤ 16777216) {ps : List (Nat × Nat × O)} {ps' : Array (Nat × Value)} (hp : RelP φ e (fun i => some (Nat.mul i ei.size, ei.size)) ps ps'.toList)
    (hr : oBuildSlice len (repL ei.zero len) ps F e h = .ok v h') : Gives ty φ E h w v h' ((Instr.buildSlice t len ps').run P w) := by
  unfold oBuildSlice at hr
  obtain ⟨z, _, hzr, hzc, hzp⟩ := TE.zeroOk hz
  obtain ⟨r, r', hk2, hrr, hlr, hf⟩ := fillL_ok hp (repL_rel (.plain hzp) len) hr
  obtain ⟨h1, ψ, hk3, hps, H1, ev⟩ := newRow0_ok H hk2 hrr el
  cases hk3
  obtain ⟨d, hd, hkd⟩ := T.desc
  rw [hk] at hkd
  cases hkd
  have hzs : z.cells.size = ei.size := by rw [← hz, ← hzc]; simp
  have hf' : Instr.fill (fun i => some (i * ei.size, ei.size)) ⟨repL ei.zero len⟩ ps'.toList = some ⟨r'⟩ := hf
  have hcells : (Array.range (len * ei.size)).map (fun i => z.cells[i % z.cells.size]!) = ⟨repL ei.zero len⟩ := by
    rw [← hzc, ← hzs]; exact zeros_is z.cells len
  have hng : ¬ (len * ei.size > 2 ^ 24) := by omega
  have key : (Instr.buildSlice t len ps').run P w = .ok (.slice (some ⟨w.heap.size, 0, none⟩) len len) { w with heap := w.heap.push (.cells ⟨r'⟩ el) } := by
    by_cases h0 : len * ei.size = 0
    · have : (Array.range (len * ei.size)).map (fun i => (#[] : Array Value)[i % (#[] : Array Value).size]!) = ⟨repL ei.zero len⟩ := by
        rw [← hcells, h0]; simp
      simp only [Instr.buildSlice, Sem.run_bind, hd, Result.andThen_ok, TE.size, hng, h0, if_false, if_true, Sem.run_pure, Nat.not_lt_zero, gt_iff_lt]
      rw [h0] at this
      simp only [this, hf', Go.newRow, Sem.run_bind, run_newObj, Result.andThen_ok, Sem.run_pure]
    · simp only [Instr.buildSlice, Sem.run_bind, hd, Result.andThen_ok, TE.size, hng, h0, if_false, hzr, Sem.run_pure, hcells, hf', Go.newRow, run_newObj]
  rw [key]
  exact ⟨_, _, ψ, rfl, slc_new (s := 0) hps rfl (Nat.le_refl _) (Nat.eq_zero_or_pos _), H1, ev⟩

theorem wrap_i64 {n : Nat} (h : n ≤ 9223372036854775807) : IntKind.i64.wrap (n : Int) = n := wrap_small .i64 n h
theorem most_is : most = 1099511627776 := rfl
theorem most_ok {c b : Nat} (h : Nat.ble (Nat.mul (Nat.succ c) (Nat.succ b)) most = true) : c ≤ 1099511627776 ∧ (c + 1) * (b + 1) ≤ 1099511627776 := by
  have h1 := nat_ble.1 h
  rw [most_is] at h1
  have h2 : (c + 1) * (b + 1) ≤ 1099511627776 := h1
  refine ⟨?_, h2⟩
  have : c + 1 ≤ (c + 1) * (b + 1) := Nat.le_mul_of_pos_right _ (by omega)
  omega
theorem oMake_ok (H : RelW ty φ E h w) {t el : TypeId} {ti ei : TI} (T : TyOk P t ti) (hk : ti.k = .slice el) (TE : TyOk P el ei) (hz : ei.zero.length = ei.size)
    {l c : O} {l' c' : Value} (hl : RelV φ (l e) l') (hc : RelV φ (c e) c') (hr : oMake ei.bytes ei.zero l c F e h = .ok v h') : Gives ty φ E h w v h' ((Instr.makeSlice t l' c').run P w) := by
  unfold oMake makeF at hr
  split at hr
  case h_2 => cases hr
  rename_i a h1
  split at hr
  case h_2 => cases hr
  rename_i b h2
  obtain ⟨k1, rfl⟩ := natV_rel hl h1
  obtain ⟨k2, rfl⟩ := natV_rel hc h2
  obtain ⟨hb1, hr⟩ := bif_ok hr
  obtain ⟨hb2, hr⟩ := bif_ok hr
  have hle := nat_ble.1 hb1
  obtain ⟨hm1, hm2⟩ := most_ok hb2
  obtain ⟨z, _, hzr, hzc, hzp⟩ := TE.zeroOk hz
  have hzs : z.cells.size = ei.size := by rw [← hz, ← hzc]; simp
  have hrel : RelL φ (repL ei.zero b) (repL ei.zero b) := repL_rel (.plain hzp) b
  obtain ⟨h1', ψ, hk3, hps, H1, ev⟩ := newRow0_ok H hr hrel el
  cases hk3
  obtain ⟨d, hd, hkd⟩ := T.desc
  rw [hk] at hkd
  cases hkd
  obtain ⟨inf, hinf, hs, hbt, _⟩ := TE.info
  have hcells : (Array.range (b * ei.size)).map (fun i => z.cells[i % z.cells.size]!) = ⟨repL ei.zero b⟩ := by
    rw [← hzc, ← hzs]; exact zeros_is z.cells b
  have w1 : IntKind.i64.wrap (a : Int) = a := wrap_i64 (by omega)
  have w2 : IntKind.i64.wrap (b : Int) = b := wrap_i64 (by omega)
  have hbytes : ¬ ((ei.bytes : Int) * (b : Int) > 2 ^ 48) := by
    have : ei.bytes * b ≤ (b + 1) * (ei.bytes + 1) := by rw [Nat.mul_comm]; exact Nat.mul_le_mul (by omega) (by omega)
    have h3 : ((ei.bytes * b : Nat) : Int) ≤ 1099511627776 := by omega
    rw [← Int.natCast_mul]
    omega
  have hcond : ((decide ((b : Int) < 0) || decide ((ei.bytes : Int) * (b : Int) > 2 ^ 48)) || decide ((a : Int) < 0) || decide ((a : Int) > (b : Int))) = false := by
    simp only [Bool.or_eq_false_iff, decide_eq_false_iff_not]
    refine ⟨⟨⟨by omega, hbytes⟩, by omega⟩, by omega⟩
  have key : (Instr.makeSlice t (.int k1 (a : Nat)) (.int k2 (b : Nat))).run P w = .ok (.slice (some ⟨w.heap.size, 0, none⟩) a b) { w with heap := w.heap.push (.cells ⟨repL ei.zero b⟩ el) } := by
    by_cases h0 : b * ei.size = 0
    · have e0 : (Array.range (b * ei.size)).map (fun i => (#[] : Array Value)[i % (#[] : Array Value).size]!) = ⟨repL ei.zero b⟩ := by
        rw [← hcells, h0]; simp
      rw [h0] at e0
      simp only [Instr.makeSlice, Sem.run_bind, hd, Result.andThen_ok, asInt, asIntOf, Sem.run_pure, run_typeInfo _ hinf, hbt, w1, w2, hcond, Bool.false_eq_true, if_false, run_askRoom, Int.toNat_natCast, TE.size, h0, if_true, e0, Go.newRow, run_newObj, Sem.run_ite]
    · simp only [Instr.makeSlice, Sem.run_bind, hd, Result.andThen_ok, asInt, asIntOf, Sem.run_pure, run_typeInfo _ hinf, hbt, w1, w2, hcond, Bool.false_eq_true, if_false, run_askRoom, Int.toNat_natCast, TE.size, h0, hzr, hcells, Go.newRow, run_newObj, Sem.run_ite]
  rw [key]
  exact ⟨_, _, ψ, rfl, slc_new (s := 0) hps rfl hle (Nat.eq_zero_or_pos _), H1, ev⟩
end
end Go.Proofs.Ytkafejncffinmaa
