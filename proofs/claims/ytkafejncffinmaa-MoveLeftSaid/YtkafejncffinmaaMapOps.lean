/-
  Maps: an entry looked up, laid, struck.
-/
import Derived.Test.YtkafejncffinmaaIter
set_option linter.unusedSimpArgs false
set_option linter.unusedVariables false
namespace Go.Proofs.Ytkafejncffinmaa
open Go

section
variable {P : Program} {ty : TTy} {φ : Phi} {E : Nat → Prop} {h h' : Hp} {w : World} {F : CallF} {e : Env} {v : Value} {f : Fr}

theorem wKey_ok {t : Nat} {k : KS → OpF} (hr : wKey ty t k F e h = .ok v h') : ∃ ti kt el K, ty.get t = some ti ∧ ti.k = .map kt el ∧ KeyOf P ty kt K ∧ k K F e h = .ok v h' := by
  unfold wKey at hr
  obtain ⟨ti, hti, hr⟩ := wTy_ok hr
  cases hk : ti.k with
  | map kt el =>
    simp only [hk] at hr
    obtain ⟨ki, hki, hr⟩ := wTy_ok hr
    cases hf : flatK ty 8 kt with
    | none => rw [hf] at hr; cases hr
    | some ks =>
      rw [hf] at hr
      exact ⟨ti, kt, el, ⟨ki.k.agg, ks⟩, hti, hk, ⟨⟨ki, hki, rfl⟩, hf⟩, hr⟩
  | _ => simp only [hk] at hr; cases hr

theorem KeyOf.und (hT : TabOk P ty) {t : Nat} {K : KS} (hK : KeyOf P ty t K) : ∃ d, P.underlying t = some d := by
  obtain ⟨ti, hti, _⟩ := hK.ti
  obtain ⟨d, hd, _⟩ := (hT t ti hti).und
  exact ⟨d, hd⟩
theorem map_und {t : Nat} {ti : TI} (T : TyOk P t ti) {kt el : Nat} (hk : ti.k = .map kt el) : P.underlying t = some (.map kt el) := by
  obtain ⟨d, hd, hkd⟩ := T.und
  rw [hk] at hkd; cases hkd
  exact hd
theorem lookOut_ok {ok : Bool} {u : Value} {b : Bool} (hr : lookOut ok u b h = .ok v h') : h' = h ∧ v = (if ok then .tuple ⟨[u, .bool b]⟩ else u) := by
  unfold lookOut at hr
  cases ok <;> simp only [forceV_is] at hr <;> cases hr <;> exact ⟨rfl, rfl⟩
theorem lookOut_rel {ok : Bool} {u u' : Value} {b : Bool} (hu : RelV φ u u') : RelV φ (if ok then .tuple ⟨[u, .bool b]⟩ else u) (if ok then .tuple #[u', .bool b] else u') := by
  cases ok
  · exact hu
  · exact .tuple (.cons hu (.cons (.bool b) .nil))

theorem oLookup_ok (hT : TabOk P ty) (H : RelW ty φ E h w) {t kt el : Nat} {ti ei : TI} (T : TyOk P t ti) (hk : ti.k = .map kt el) (TE : TyOk P el ei) (hz : ei.zero.length = ei.size) {z : Value} (hzv : zeroV ei = some z) {K : KS} (hK : KeyOf P ty kt K)
    {ok : Bool} {x ix : O} {x' ix' : Value} (hx : RelV φ (x e) x') (hix : RelV φ (ix e) ix') (hE : ∀ r, x e = .map (some r) → ¬ E r) (hr : oLookup K z ok x ix F e h = .ok v h') :
    Gives ty φ E h w v h' ((Instr.lookup t x' ix' ok).run P w) := by
  obtain ⟨z0, hz0, hzr, _, hzp⟩ := TE.zeroOk hz
  rw [hzv] at hz0; cases hz0
  have hzrel : RelV φ z z := by
    unfold zeroV at hzv
    split at hzv
    · cases hzv; exact .agg (.plain hzp)
    · split at hzv
      · rename_i u hu
        cases hzv
        rw [hu] at hzp
        simp only [List.all_cons, List.all_nil, Bool.and_true] at hzp
        exact .plain hzp
      · cases hzv
  obtain ⟨kd, hkd⟩ := hK.und hT
  have hu := map_und T hk
  unfold oLookup lookupF at hr
  split at hr
  case h_2 => cases hr
  rename_i hfit
  have he := fitK_rel hfit hix
  subst he
  split at hr
  · rename_i hxe
    rw [hxe] at hx; cases hx
    obtain ⟨rfl, rfl⟩ := lookOut_ok hr
    have hf : (Instr.findKey kt (ix e) []).run P w = .ok none w := findKey_is hkd (by simp [Instr.findAsking])
    have key : (Instr.lookup t (.map none) (ix e) ok).run P w = .ok (if ok then .tuple #[z, .bool false] else z) w := by
      simp only [Instr.lookup, Sem.run_bind, run_underlying hu, Result.andThen_ok, Sem.run_pure, hK.check hT hfit, hf, hzr]
    rw [key]; exact .same H (lookOut_rel hzrel)
  · rename_i r hxe
    rw [hxe] at hx
    cases hx with
    | @map _ p hp =>
      split at hr
      case h_2 => cases hr
      rename_i es c hes
      obtain ⟨es', hw, hrel⟩ := H.entsAt hp (hE r hxe) hes
      have hget := getObj_run (P := P) hw rfl
      split at hr
      · rename_i en hfe
        obtain ⟨rfl, rfl⟩ := lookOut_ok hr
        obtain ⟨j, u', hfa, hu'⟩ := findE_ok hT hK hfit w 0 hrel hfe
        have hf := findKey_is hkd hfa
        have key : (Instr.lookup t (.map (some p.blk)) (ix e) ok).run P w = .ok (if ok then .tuple #[u', .bool true] else u') w := by
          simp only [Instr.lookup, Sem.run_bind, run_underlying hu, Result.andThen_ok, Sem.run_pure, hget, hK.check hT hfit, hf]
        rw [key]; exact .same H (lookOut_rel hu')
      · rename_i hfe
        obtain ⟨rfl, rfl⟩ := lookOut_ok hr
        have hfa := findE_ok hT hK hfit w 0 hrel hfe
        have hf := findKey_is hkd hfa
        have key : (Instr.lookup t (.map (some p.blk)) (ix e) ok).run P w = .ok (if ok then .tuple #[z, .bool false] else z) w := by
          simp only [Instr.lookup, Sem.run_bind, run_underlying hu, Result.andThen_ok, Sem.run_pure, hget, hK.check hT hfit, hf, hzr]
        rw [key]; exact .same H (lookOut_rel hzrel)
      · cases hr
  · cases hr

theorem oAssert_ok (H : RelW ty φ E h w) {t xt : Nat} {ti : TI} (T : TyOk P t ti) (hk : ti.k ≠ .iface) (hz : ti.zero.length = ti.size) {z : Value} (hzv : zeroV ti = some z) {ok : Bool} {x : O} {x' : Value} (hx : RelV φ (x e) x') (hr : oAssert t ok z x F e h = .ok v h') :
    Gives ty φ E h w v h' ((Instr.typeAssert x' xt t ok).run P w) := by
  obtain ⟨z0, hz0, hzr, _, hzp⟩ := T.zeroOk hz
  rw [hzv] at hz0; cases hz0
  have hzrel : RelV φ z z := by
    unfold zeroV at hzv
    split at hzv
    · cases hzv; exact .agg (.plain hzp)
    · split at hzv
      · rename_i u hu
        cases hzv
        rw [hu] at hzp
        simp only [List.all_cons, List.all_nil, Bool.and_true] at hzp
        exact .plain hzp
      · cases hzv
  obtain ⟨d, hd, hkd⟩ := T.und
  unfold oAssert at hr
  split at hr
  · rename_i hxe
    rw [hxe] at hx
    cases hx with
    | nilIface =>
      cases ok with
      | false => cases hr
      | true =>
        obtain ⟨rfl, rfl⟩ := lookOut_ok hr
        have key : (Instr.typeAssert .nilIface xt t true).run P w = .ok (if true then .tuple #[z, .bool false] else z) w := by
          simp only [Instr.typeAssert, Sem.run_bind, run_underlying hd, Result.andThen_ok]
          cases d <;> first | (simp only [if_true, Sem.run_bind, hzr, Result.andThen_ok, Sem.run_pure]; done) | exact absurd rfl (hkd.noIface hk _)
        rw [key]; exact .same H (lookOut_rel hzrel)
  · rename_i u q hxe
    rw [hxe] at hx
    cases hx with
    | @iface _ _ q' hq =>
      split at hr
      · rename_i hb
        have hb := nat_beq.1 hb
        subst hb
        obtain ⟨rfl, rfl⟩ := lookOut_ok hr
        have key : (Instr.typeAssert (.iface u q') xt u ok).run P w = .ok (if ok then .tuple #[q', .bool true] else q') w := by
          simp only [Instr.typeAssert, Sem.run_bind, run_underlying hd, Result.andThen_ok]
          cases d <;> first | (simp only [if_true, Sem.run_pure]; done) | exact absurd rfl (hkd.noIface hk _)
        rw [key]; exact .same H (lookOut_rel hq)
      · rename_i hb
        have hne : ¬ u = t := fun he => by rw [nat_beq.2 he] at hb; cases hb
        cases ok with
        | false => cases hr
        | true =>
          obtain ⟨rfl, rfl⟩ := lookOut_ok hr
          have key : (Instr.typeAssert (.iface u q') xt t true).run P w = .ok (if true then .tuple #[z, .bool false] else z) w := by
            simp only [Instr.typeAssert, Sem.run_bind, run_underlying hd, Result.andThen_ok]
            cases d <;> first | (simp only [if_neg hne, if_true, Sem.run_bind, hzr, Result.andThen_ok, Sem.run_pure]; done) | exact absurd rfl (hkd.noIface hk _)
          rw [key]; exact .same H (lookOut_rel hzrel)
  · cases hr
theorem oUpdate_ok (hT : TabOk P ty) (H : RelW ty φ E h w) (hE : ∀ b, ¬ E b) {t kt el : Nat} {ti : TI} (T : TyOk P t ti) (hk : ti.k = .map kt el) {K : KS} (hK : KeyOf P ty kt K)
    {m key x : O} {m' key' x' : Value} (hm : RelV φ (m e) m') (hkey : RelV φ (key e) key') (hx : RelV φ (x e) x') (hr : oUpdate K m key x F e h = .ok v h') :
    Skips ty φ E h w v h' ((Instr.mapUpdate t m' key' x').run P w) := by
  obtain ⟨kd, hkd⟩ := hK.und hT
  have hu := map_und T hk
  unfold oUpdate at hr
  simp only [forceV_is] at hr
  unfold updateF at hr
  split at hr
  case h_2 => cases hr
  rename_i hfit
  obtain ⟨he, hkk⟩ := fitK_plain hfit hkey
  subst he
  split at hr
  case h_2 => cases hr
  rename_i r hme
  rw [hme] at hm
  cases hm with
  | @map _ p hp =>
    split at hr
    case h_2 => cases hr
    rename_i es c hes
    obtain ⟨es', hw, hrel⟩ := H.entsAt hp (hE r) hes
    have hget := getObj_run (P := P) hw rfl
    split at hr
    · rename_i es2 hse
      obtain ⟨j, u', en, hfa, hen, hek, hrel2⟩ := setE_ok hT hK hfit hx hkk w 0 hrel hse
      have hf := findKey_is hkd hfa
      obtain ⟨h1, hk1, H1, ev⟩ := putObj_ok (ob := .map ⟨es'.modify (0 + j) fun en => { en with key := key e, val := x' }⟩ c) H (hE _) hp (live_ents hes) hr (by rw [ents_ok hes]; exact .inr trivial) (.map (by rw [Nat.zero_add]; exact hrel2))
      cases hk1
      refine ⟨rfl, _, ?_, H1, ev⟩
      have hstay : (Instr.keyThatStays (((⟨es'⟩ : Array MapEntry)[0 + j]?.map (·.key)).getD (key e)) (key e)).run P w = .ok (key e) w := by
        have : (⟨es'⟩ : Array MapEntry)[0 + j]? = some en := by rw [Nat.zero_add]; simpa using hen
        rw [this]
        simp only [Option.map_some, Option.getD_some, hek]
        unfold Instr.keyThatStays
        rw [fitK_bits hfit 9999]
        simp
      have hset := setObj_run (P := P) (ob' := .map ⟨es'.modify (0 + j) fun en => { en with key := key e, val := x' }⟩ c) hw rfl
      simp only [Instr.mapUpdate, Sem.run_bind, run_underlying hu, Result.andThen_ok, hget, hK.check hT hfit, hf, hstay]
      rw [← hset]; congr 3
      apply Array.ext'
      simp
    · rename_i hse
      have hfa := setE_ok hT hK hfit hx hkk w 0 hrel hse
      have hf := findKey_is hkd hfa
      obtain ⟨h1, hk1, H1, ev⟩ := putObj_ok (ob := .map ⟨es' ++ [{ key := key e, val := x', born := c }]⟩ (c + 1)) H (hE _) hp (live_ents hes) hr (by rw [ents_ok hes]; exact .inr trivial) (.map (by rw [addE_ok]; exact RelE.append (.cons hkk hx .nil) hrel))
      cases hk1
      refine ⟨rfl, _, ?_, H1, ev⟩
      have hset := setObj_run (P := P) (ob' := .map ⟨es' ++ [{ key := key e, val := x', born := c }]⟩ (c + 1)) hw rfl
      simp only [Instr.mapUpdate, Sem.run_bind, run_underlying hu, Result.andThen_ok, hget, hK.check hT hfit, hf]
      rw [← hset]; congr 2
      simp
    · cases hr

theorem oDelete_ok (hT : TabOk P ty) (H : RelW ty φ E h w) (hE : ∀ b, ¬ E b) {ats : Array TypeId} {t' t kt el : Nat} {ti : TI} (h0 : ats[0]? = some t) (T : TyOk P t ti) (hk : ti.k = .map kt el) {K : KS} (hK : KeyOf P ty kt K)
    {m key : O} {m' key' : Value} (hm : RelV φ (m e) m') (hkey : RelV φ (key e) key') (hr : oDelete K m key F e h = .ok v h') :
    Gives ty φ E h w v h' ((Builtin.delete_ ats t' #[m', key']).run P w) := by
  obtain ⟨kd, hkd⟩ := hK.und hT
  have hu := map_und T hk
  unfold oDelete deleteF at hr
  split at hr
  case h_2 => cases hr
  rename_i hfit
  obtain ⟨he, hkk⟩ := fitK_plain hfit hkey
  subst he
  split at hr
  case h_2 => cases hr
  rename_i r hme
  rw [hme] at hm
  cases hm with
  | @map _ p hp =>
    split at hr
    case h_2 => cases hr
    rename_i es c hes
    obtain ⟨es', hw, hrel⟩ := H.entsAt hp (hE r) hes
    have hget := getObj_run (P := P) hw rfl
    split at hr
    case h_2 => cases hr
    rename_i es2 hde
    rcases delE_ok hT hK hfit w 0 hrel hde with ⟨hfa, rfl⟩ | ⟨j, u', hfa, hrel2⟩
    · have hf := findKey_is hkd hfa
      obtain ⟨h1, hk1, H1, ev⟩ := putObj_ok (ob := .map ⟨es'⟩ c) H (hE _) hp (live_ents hes) hr (by rw [ents_ok hes]; exact .inr trivial) (.map hrel)
      cases hk1
      have key : (Builtin.delete_ ats t' #[.map (some p.blk), key e]).run P w = .ok noRes { w with heap := w.heap.setIfInBounds p.blk (.map ⟨es'⟩ c) } := by
        simp only [Builtin.delete_, h0, List.getElem?_toArray, List.getElem?_cons_zero, List.getElem?_cons_succ, Sem.run_bind, run_underlying hu, Result.andThen_ok, Sem.run_pure, hget, hK.check hT hfit, hf, setObj_run hw rfl]; rfl
      rw [key]; exact ⟨_, _, φ, rfl, .tuple .nil, H1, ev⟩
    · have hf := findKey_is hkd hfa
      obtain ⟨h1, hk1, H1, ev⟩ := putObj_ok (ob := .map ⟨es'.eraseIdx j⟩ c) H (hE _) hp (live_ents hes) hr (by rw [ents_ok hes]; exact .inr trivial) (.map hrel2)
      cases hk1
      have herase : (⟨es'⟩ : Array MapEntry).eraseIdxIfInBounds (0 + j) = ⟨es'.eraseIdx j⟩ := by
        apply Array.ext'
        rw [Nat.zero_add]
        unfold Array.eraseIdxIfInBounds
        split
        · simp
        · rename_i hj
          simp only
          rw [List.eraseIdx_of_length_le (by simpa using hj)]
      have key : (Builtin.delete_ ats t' #[.map (some p.blk), key e]).run P w = .ok noRes { w with heap := w.heap.setIfInBounds p.blk (.map ⟨es'.eraseIdx j⟩ c) } := by
        simp only [Builtin.delete_, h0, List.getElem?_toArray, List.getElem?_cons_zero, List.getElem?_cons_succ, Sem.run_bind, run_underlying hu, Result.andThen_ok, Sem.run_pure, hget, hK.check hT hfit, hf, herase, setObj_run hw rfl]; rfl
      rw [key]; exact ⟨_, _, φ, rfl, .tuple .nil, H1, ev⟩
end
end Go.Proofs.Ytkafejncffinmaa
