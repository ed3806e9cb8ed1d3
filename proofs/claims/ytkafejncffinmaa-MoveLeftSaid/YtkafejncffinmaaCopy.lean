/-
  Cells copied, strings and bytes, what is least and most.
-/
import Derived.Test.YtkafejncffinmaaMade
set_option linter.unusedSimpArgs false
set_option linter.unusedVariables false
namespace Go.Proofs.Ytkafejncffinmaa
open Go

section
variable {P : Program} {ty : TTy} {φ : Phi} {E : Nat → Prop} {h h' : Hp} {w : World} {F : CallF} {e : Env} {v : Value}

theorem oCutArr_ok (H : RelW ty φ E h w) {x : O} {x' : Value} {t el : TypeId} {ti ei : TI} (T : TyOk P t ti) {n : Nat} (hk : ti.k = .arr n el) (TE : TyOk P el ei)
    {lo hi mx : Option O} {lo' hi' mx' : Option Value} (hx : RelV φ (x e) x') (hl : RelO φ e lo lo') (hh : RelO φ e hi hi') (hm : RelO φ e mx mx')
    (hr : oCutArr n ei.size x lo hi mx F e h = .ok v h') : Gives ty φ E h w v h' ((Instr.sliceAt t x' lo' hi' mx').run P w) := by
  unfold oCutArr at hr
  split at hr
  case h_2 => cases hr
  rename_i a ha
  obtain ⟨a', rfl, hra⟩ := adr_rel hx ha
  obtain ⟨d, hd, hkd⟩ := T.desc
  rw [hk] at hkd
  cases hkd
  obtain ⟨l, b, m, hk2, h1, h2, h3, h4, hs⟩ := bounds_ok (P := P) hl hh hm (Nat.le_refl n) (Nat.le_refl n) hr false
  have hmm : (if mx.isSome then m else n) = m := by
    split
    · rfl
    · rename_i hf; exact (h4 (by simpa using hf)).symm
  rw [hmm] at hs
  rw [sliceOf_is] at hk2
  cases hk2
  have key : (Instr.sliceAt t (.pointer (some a')) lo' hi' mx').run P w = .ok (.slice (some (if m = l then a' else a'.add (l * ei.size))) (b - l) (m - l)) w := by
    simp only [Instr.sliceAt, Sem.run_bind, hd, Result.andThen_ok, sure_run, hs, TE.size, Sem.run_pure]
  rw [key]
  refine .same H ?_
  have s1 := hra.1
  obtain ⟨p, hp, rfl⟩ := hra.eq
  obtain ⟨ab, ao, asp⟩ := a
  simp only at s1 hp
  subst s1
  simp only [Addr.add_is, Option.map_some]
  by_cases hml : m = l
  · rw [if_pos hml, if_pos hml]
    exact .slice (by omega) ⟨rfl, rfl, p, hp, rfl, .inr ⟨by omega, .inl (by omega)⟩⟩
  · rw [if_neg hml, if_neg hml]
    have hA : (if l * ei.size = 0 then (⟨ab, ao, none⟩ : Addr) else ⟨ab, ao + l * ei.size, none⟩) = ⟨ab, ao + l * ei.size, none⟩ := by
      split
      · rename_i h; rw [h]; rfl
      · rfl
    rw [hA]
    exact .slice (by omega) ⟨rfl, rfl, p, hp, rfl, .inl ⟨by omega, by simp only; omega, .inl rfl⟩⟩
theorem oCutStr_ok (H : RelW ty φ E h w) {x : O} {x' : Value} {t : TypeId} {ti : TI} (T : TyOk P t ti) (hk : ti.k = .string) {lo hi : Option O} {lo' hi' : Option Value} (hx : RelV φ (x e) x')
    (hl : RelO φ e lo lo') (hh : RelO φ e hi hi') (hr : oCutStr x lo hi F e h = .ok v h') : Gives ty φ E h w v h' ((Instr.sliceAt t x' lo' hi' none).run P w) := by
  unfold oCutStr at hr
  split at hr
  case h_2 => cases hr
  rename_i s hxe
  rw [hxe] at hx
  obtain rfl := hx.string_inv
  obtain ⟨d, hd, hkd⟩ := T.desc
  rw [hk] at hkd
  cases hkd
  obtain ⟨l, b, m, hk2, h1, h2, h3, h4, hs⟩ := bounds_ok (P := P) hl hh .none (Nat.le_refl _) (Nat.le_refl _) hr false
  cases hk2
  have e1 : lenL s.data.toList = s.size := lenL_is _
  rw [e1] at hs h3
  have key : (Instr.sliceAt t (.string s) lo' hi' none).run P w = .ok (.string (s.extract l b)) w := by
    simp only [Instr.sliceAt, Instr.slice, Sem.run_bind, hd, Result.andThen_ok, Option.isSome_none, Bool.false_eq_true, if_false, Sem.run_pure, hs]
  rw [key, ← data_ext (a := s.extract l b) (l := takeL (Nat.sub b l) (dropL l s.data.toList)) (by
    rw [takeL_is, dropL_is]; simp [List.extract_eq_take_drop])]
  exact .same H (.string _)
theorem oSame_ok (H : RelW ty φ E h w) {x : O} {x' : Value} (hx : RelV φ (x e) x') (hr : oSame x F e h = .ok v h') : ∃ s, x' = .string s ∧ Gives ty φ E h w v h' (.ok x' w) := by
  unfold oSame at hr
  split at hr
  case h_2 => cases hr
  rename_i s hxe
  rw [hxe] at hx
  cases hr
  obtain rfl := hx.string_inv
  exact ⟨s, rfl, .same H hx⟩
theorem oFunc_ok (H : RelW ty φ E h w) {fn : Fn} {f c : List O} {f' c' : List Value} (hf : RelL φ (vals e f) f') (hc : RelL φ (vals e c) c') (hr : oFunc fn f c F e h = .ok v h') :
    Gives ty φ E h w v h' (.ok (.func fn ⟨f'⟩ ⟨c'⟩) w) := by
  unfold oFunc at hr; rw [forceL_is, forceL_is] at hr; cases hr; exact .same H (.func fn hf hc)
theorem oArr_ok (H : RelW ty φ E h w) {x : O} {x' : Value} {t el : TypeId} {ti : TI} (T : TyOk P t ti) {n : Nat} (hk : ti.k = .arr n el) (hn : 0 < n) (hx : RelV φ (x e) x')
    (hr : oArr n x F e h = .ok v h') : Gives ty φ E h w v h' ((Instr.arrayAt t x').run P w) := by
  unfold oArr at hr
  split at hr
  case h_2 => cases hr
  rename_i a l c hxe
  rw [hxe] at hx
  obtain ⟨hb, hr⟩ := bif_ok hr
  cases hr
  have hb := nat_ble.1 hb
  obtain ⟨d, hd, hkd⟩ := T.desc
  rw [hk] at hkd
  cases hkd
  cases hx with
  | @slice _ a' _ _ c' hlc hs =>
    have key : (Instr.arrayAt t (.slice (some a') l c')).run P w = .ok (.pointer (some a')) w := by
      simp only [Instr.arrayAt, Sem.run_bind, hd, Result.andThen_ok, Nat.not_lt.2 hb, if_false, Sem.run_pure]
    rw [key]; exact .same H (.ptr (slice_adr hlc hs (by omega)))

theorem minmax_ok (H : RelW ty φ E h w) {lt : Bool} {x y : O} {x' y' : Value} (hx : RelV φ (x e) x') (hy : RelV φ (y e) y') (hr : minmax lt (x e) (y e) h = .ok v h') :
    ∃ k q m n, x' = .int k m ∧ y' = .int q n ∧ h' = h ∧ v = .int k (if (if lt then n < m else m < n) then n else m) := by
  unfold minmax at hr
  split at hr
  case h_2 => cases hr
  rename_i k m hxe
  split at hr
  case h_2 => cases hr
  rename_i n hye
  obtain ⟨q, hq⟩ := intV_ok hye
  rw [hxe] at hx; rw [hq] at hy
  refine ⟨k, q, m, n, hx.int_inv, hy.int_inv, ?_⟩
  cases lt
  · simp only [cond_false] at hr
    cases hb : iLt m n with
    | false =>
      rw [hb] at hr; cases hr
      rw [iLt_is] at hb
      have := of_decide_eq_false hb
      refine ⟨rfl, ?_⟩
      simp [this]
    | true =>
      rw [hb] at hr; cases hr
      rw [iLt_is] at hb
      have := of_decide_eq_true hb
      refine ⟨rfl, ?_⟩
      simp [this]
  · simp only [cond_true] at hr
    cases hb : iLt n m with
    | false =>
      rw [hb] at hr; cases hr
      rw [iLt_is] at hb
      have := of_decide_eq_false hb
      refine ⟨rfl, ?_⟩
      simp [this]
    | true =>
      rw [hb] at hr; cases hr
      rw [iLt_is] at hb
      have := of_decide_eq_true hb
      refine ⟨rfl, ?_⟩
      simp [this]
theorem oMin_ok (H : RelW ty φ E h w) {x y : O} {x' y' : Value} {ats : Array TypeId} {t : TypeId} (hx : RelV φ (x e) x') (hy : RelV φ (y e) y') (hr : oMin x y F e h = .ok v h') :
    Gives ty φ E h w v h' ((Builtin.min_ ats t #[x', y']).run P w) := by
  obtain ⟨k, q, m, n, rfl, rfl, rfl, rfl⟩ := minmax_ok H hx hy hr
  exact .same H (.int _ _)
theorem oMax_ok (H : RelW ty φ E h w) {x y : O} {x' y' : Value} {ats : Array TypeId} {t : TypeId} (hx : RelV φ (x e) x') (hy : RelV φ (y e) y') (hr : oMax x y F e h = .ok v h') :
    Gives ty φ E h w v h' ((Builtin.max_ ats t #[x', y']).run P w) := by
  obtain ⟨k, q, m, n, rfl, rfl, rfl, rfl⟩ := minmax_ok H hx hy hr
  exact .same H (.int _ _)

theorem cellsOfBytes_is : ∀ l : List UInt8, cellsOfBytes l = l.map fun b => .int .u8 (b.toNat : Int)
  | [] => rfl
  | b :: l => by unfold cellsOfBytes; rw [forceN_is, cellsOfBytes_is l]; rfl
theorem bytes_plain (l : List UInt8) : RelL φ (cellsOfBytes l) (l.map fun b => .int .u8 (b.toNat : Int)) := by
  rw [cellsOfBytes_is]
  induction l with
  | nil => exact .nil
  | cons b l ih => exact .cons (.int _ _) ih

/-- the first cells of a slice or a string -/
theorem srcCells_ok (H : RelW ty φ E h w) {size n : Nat} {x x' : Value} (hE : ∀ a l c, x = .slice (some a) l c → ¬ E a.block) (hx : RelV φ x x') {k : List Value → R} (hr : srcCells h size x n k = .ok v h')
    (hn : ∀ m, lenV x = .ok m → n ≤ m) :
    ∃ cs cs' : List Value, k cs = .ok v h' ∧ RelL φ cs cs' ∧ (∀ w' : World, w'.heap = w.heap → (Builtin.firstCells size n x').run P w' = .ok ⟨cs'⟩ w') ∧ (∀ a l c, x' = .slice (some a) l c → cs'.length = n * size) ∧ (∀ s, x' = .string s → cs'.length = n ∧ size = 1) ∧
      (∀ a l c, x = .slice (some a) l c → 0 < c → ∃ p cs t fr, φ a.block = some p ∧ w.heap[p.blk]? = some (.cells cs t fr) ∧ ∀ (j : Nat) (u : Value), cs'[j]? = some u → cs[p.off + a.off + j]? = some u) := by
  unfold srcCells at hr
  split at hr
  · cases hx
    exact ⟨[], [], hr, .nil, (fun _ _ => rfl), (fun _ _ _ h => by cases h), (fun _ h => by cases h), (fun _ _ _ h => by cases h)⟩
  · rename_i a l c
    split at hr
    case h_2 => cases hr
    rename_i ct s en hrow
    obtain ⟨hb, hr⟩ := bif_ok hr
    rw [getN_is, List.append_nil] at hr
    cases hx with
    | @slice _ a' _ _ c' hlc hs =>
      rcases Nat.eq_zero_or_pos c with h0 | h0
      · have hl0 : l = 0 := by omega
        have hn0 : n = 0 := by have := hn l rfl; omega
        subst hn0
        refine ⟨_, [], hr, by simp [rowL]; exact .nil, fun w' _ => ?_, (fun _ _ _ h => by simp), (fun _ h => by cases h), (fun _ _ _ h hpos => by cases h; omega)⟩
        simp only [Builtin.firstCells, Nat.zero_mul]; rfl
      · obtain ⟨s1, s2, p, hp, hbl, hor⟩ := hs
        have ha : RelA φ a a' := by
          rcases hor with h | h
          · exact ⟨s1, s2, p, hp, hbl, h.2.1⟩
          · omega
        obtain ⟨cs', hcs, hlen, hrun, hcell⟩ := loads_ok (P := P) H ha (hE _ _ _ rfl) hrow (nat_ble.1 hb)
        exact ⟨_, cs', hr, hcs, hrun, (fun _ _ _ _ => hlen), (fun _ h => by cases h), (fun _ _ _ h _ => by cases h; exact hcell)⟩
  · rename_i s
    obtain rfl := hx.string_inv
    have hn' : n ≤ s.data.toList.length := by
      have := hn (lenL s.data.toList) rfl
      rwa [lenL_is] at this
    obtain ⟨hone, hr⟩ := bif_ok hr
    rw [takeL_is] at hr
    refine ⟨_, _, hr, bytes_plain _, fun w' _ => ?_, (fun _ _ _ h => by cases h), (fun _ _ => ⟨by simp only [List.length_map, List.length_take]; omega, nat_beq.1 hone⟩), (fun _ _ _ h => by cases h)⟩
    simp only [Builtin.firstCells, Sem.run_pure]
    congr 1
    apply Array.ext'
    simp [List.extract_eq_take_drop]
  · cases hr

theorem lenV_rel {x x' : Value} (hx : RelV φ x x') {n : Nat} (h : lenV x = .ok n) : (Builtin.lenOf x').run P w = .ok n w := by
  unfold lenV at h
  split at h
  · cases h; cases hx <;> rfl
  · cases h
    obtain rfl := hx.string_inv
    simp only [Builtin.lenOf, Sem.run_pure, lenL_is]; rfl
  · cases h

theorem oCopy_ok (H : RelW ty φ E h w) (hE : ∀ b, ¬ E b) {d x : O} {d' x' : Value} {ats : Array TypeId} {dt t el : TypeId} (h0 : ats[0]? = some dt) {ti ei : TI} (T : TyOk P dt ti) (hk : ti.k = .slice el) (TE : TyOk P el ei)
    (hd : RelV φ (d e) d') (hx : RelV φ (x e) x') (hr : oCopy ei.size d x F e h = .ok v h') : Gives ty φ E h w v h' ((Builtin.copy_ ats t #[d', x']).run P w) := by
  unfold oCopy copyF at hr
  split at hr
  case h_2 => cases hr
  rename_i base dl dc hde
  rw [hde] at hd
  split at hr
  case h_2 => cases hr
  rename_i xl hxl
  rw [forceN_is, minN_is] at hr
  obtain ⟨cs, cs', hr, hcs, hrun0, hl1, hl2, _⟩ := srcCells_ok (P := P) H (fun _ _ _ _ => hE _) hx hr (fun m hm => by rw [hxl] at hm; cases hm; exact Nat.min_le_left _ _)
  have hrun := hrun0 w rfl
  obtain ⟨dd, hdd, hkd⟩ := T.desc
  rw [hk] at hkd
  cases hkd
  have hlen := lenV_rel (P := P) (w := w) hx hxl
  split at hr
  · cases hr
    cases hd
    have key : (Builtin.copy_ ats t #[.slice none 0 0, x']).run P w = .ok (goInt ((min xl 0 : Nat) : Int)) w := by
      simp only [Builtin.copy_, h0, Sem.run_bind, hdd, Result.andThen_ok, hlen, TE.size, Sem.run_pure, List.getElem?_toArray, List.getElem?_cons_zero, List.getElem?_cons_succ]
      have : Nat.min xl 0 = min xl 0 := rfl
      rw [this, hrun]; rfl
    rw [key]; exact .same H (.int _ _)
  · rename_i a hr0
    cases hd with
    | @slice _ a' _ _ dc' hlc hs =>
      have hstore : ∃ h1 w1, (.ok (.int .i64 (.ofNat (min xl dl))) h1 : R) = .ok v h' ∧ (storeCells a' cs').run P w = .ok () w1 ∧ RelW ty φ E h1 w1 ∧ Evo φ h w φ h1 w1 := by
        rcases Nat.eq_zero_or_pos dc with h0 | h0
        · have hdl : dl = 0 := by omega
          subst hdl
          have hcs0 : cs' = [] := by
            have hz : min xl 0 = 0 := Nat.min_zero _
            rw [hz] at hrun hl1 hl2
            cases x' <;> first | (simp only [Builtin.firstCells] at hrun; cases hrun; done) | skip
            · exact List.length_eq_zero_iff.1 (hl2 _ rfl).1
            · rename_i sa sl scap
              cases sa with
              | none => simp only [Builtin.firstCells, Sem.run_pure] at hrun; cases hrun; rfl
              | some sa => exact List.length_eq_zero_iff.1 (by have := hl1 sa sl scap rfl; simpa using this)
          subst hcs0
          have : cs = [] := by cases hcs; rfl
          subst this
          unfold storeL at hr
          split at hr
          case h_2 => cases hr
          rename_i ct s en hrow
          obtain ⟨_, hr⟩ := bif_ok hr
          obtain ⟨_, hr⟩ := bif_ok hr
          simp only [setAll] at hr
          obtain ⟨bl, h256, hbl, hk2⟩ := putBlk_ok hr
          obtain ⟨_, _, p, hp, _, _⟩ := hs
          have hold := H.row a.block p hp (hE _)
          have hrow' := rowOf_ok hrow
          rw [hrow'] at hold
          have hlive : Live h a.block := by unfold Live; rw [hrow']; intro hd; cases hd
          exact ⟨_, w, hk2, rfl, H.put (hE _) h256 hp hlive hbl rfl (fun _ _ => rfl) hold, .put (H.notInp hp h256) hp hlive hbl (by rw [rowOf_ok hrow]; exact .inr ⟨rfl, rfl⟩) rfl (fun _ _ => rfl) rfl rfl rfl⟩
        · obtain ⟨s1, s2, p, hp, hbl, hor⟩ := hs
          have ha : RelA φ a a' := by
            rcases hor with h | h
            · exact ⟨s1, s2, p, hp, hbl, h.2.1⟩
            · omega
          exact storeL_ok (P := P) H hr ha hcs (hE _)
      obtain ⟨h1, w1, hk2, hrun2, H1, ev⟩ := hstore
      cases hk2
      have key : (Builtin.copy_ ats t #[.slice (some a') dl dc', x']).run P w = .ok (goInt ((min xl dl : Nat) : Int)) w1 := by
        simp only [Builtin.copy_, h0, Sem.run_bind, hdd, Result.andThen_ok, hlen, TE.size, Sem.run_pure, List.getElem?_toArray, List.getElem?_cons_zero, List.getElem?_cons_succ]
        have : Nat.min xl dl = min xl dl := rfl
        rw [this, hrun]
        simp only [Result.andThen_ok, hrun2, Sem.run_bind, Sem.run_pure]
      rw [key]
      exact ⟨_, _, φ, rfl, .int _ _, H1, ev⟩
end
end Go.Proofs.Ytkafejncffinmaa
