/-
  Maps: an entry looked up, laid, struck.
  One operation: the whole table.
  Operations that leave the machine's heap as it is, and look at its blocks alone.
  What is plain, or reads, leaves the machine's heap as it is.
  A region's operations, one behind the other, as the machine has carried them out.
-/
import Derived.Test.YthcfmklkbakkpaaZD
set_option linter.unusedSimpArgs false
set_option linter.unusedVariables false
namespace Go.Proofs.Ythcfmklkbakkpaa
noncomputable section
open Go
section
variable {P : Program} {ty : TTy} {φ : Phi} {E : Nat → Prop} {h h' : Hp} {w : World} {F : CallF} {e : Env} {v : Value} {f : Fr}
theorem Hu {t : Nat} {k : KS → OpF} (hr : wKey ty t k F e h = .ok v h') : ∃ ti kt el K, ty.get t = some ti ∧ ti.k = .map kt el ∧ KeyOf P ty kt K ∧ k K F e h = .ok v h' := by
  unfold wKey at hr
  obtain ⟨ti, hti, hr⟩ := BS hr
  cases hk : ti.k with
  | map kt el =>
    simp only [hk] at hr
    obtain ⟨ki, hki, hr⟩ := BS hr
    cases hf : flatK ty 8 kt with
    | none => rw [hf] at hr; cases hr
    | some ks =>
      rw [hf] at hr
      exact ⟨ti, kt, el, ⟨ki.k.agg, ks⟩, hti, hk, ⟨⟨ki, hki, rfl⟩, hf⟩, hr⟩
  | _ => simp only [hk] at hr; cases hr
theorem KeyOf.und (hT : CJ P ty) {t : Nat} {K : KS} (hK : KeyOf P ty t K) : ∃ d, P.underlying t = some d := by
  obtain ⟨ti, hti, _⟩ := hK.ti
  obtain ⟨d, hd, _⟩ := (hT t ti hti).und
  exact ⟨d, hd⟩
theorem KF {t : Nat} {ti : TI} (T : TyOk P t ti) {kt el : Nat} (hk : ti.k = .map kt el) : P.underlying t = some (.map kt el) := by
  obtain ⟨d, hd, hkd⟩ := T.und
  rw [hk] at hkd; cases hkd
  exact hd
theorem Df {ok : Bool} {u : Value} {b : Bool} (hr : DA ok u b h = .ok v h') : h' = h ∧ v = (if ok then .tuple ⟨[u, .bool b]⟩ else u) := by
  unfold DA at hr
  cases ok <;> simp only [BR] at hr <;> cases hr <;> exact ⟨rfl, rfl⟩
theorem DI {ok : Bool} {u u' : Value} {b : Bool} (hu : RelV φ u u') : RelV φ (if ok then .tuple ⟨[u, .bool b]⟩ else u) (if ok then .tuple #[u', .bool b] else u') := by
  cases ok
  · exact hu
  · exact .tuple (.cons hu (.cons (.bool b) .nil))
theorem NE (hT : CJ P ty) (H : RelW ty φ E h w) {t kt el : Nat} {ti ei : TI} (T : TyOk P t ti) (hk : ti.k = .map kt el) (TE : TyOk P el ei) (hz : ei.zero.length = ei.size) {z : Value} (hzv : zeroV ei = some z) {K : KS} (hK : KeyOf P ty kt K)
    {ok : Bool} {x ix : O} {x' ix' : Value} (hx : RelV φ (x e) x') (hix : RelV φ (ix e) ix') (hE : ∀ r, x e = .map (some r) → ¬ E r) (hr : Hq K z ok x ix F e h = .ok v h') :
    BF ty φ E h w v h' ((Instr.lookup t x' ix' ok).run P w) := by
  obtain ⟨z0, hz0, hzr, _, hzp⟩ := TE.zeroOk hz
  rw [hzv] at hz0; cases hz0
  have hzrel : RelV φ z z := by
    unfold zeroV at hzv
    split at hzv
    · cases hzv; exact .agg (.plain hzp)
    · split at hzv
      · rename_i u hu
        cases hzv
        rw [hu] at hzp
        simp only [List.all_cons, List.all_nil, Bool.and_true] at hzp
        exact .plain hzp
      · cases hzv
  obtain ⟨kd, hkd⟩ := hK.und hT
  have hu := KF T hk
  unfold Hq Hi at hr
  split at hr
  case h_2 => cases hr
  rename_i hfit
  have he := GY hfit hix
  subst he
  split at hr
  · rename_i hxe
    rw [hxe] at hx; cases hx
    obtain ⟨rfl, rfl⟩ := Df hr
    have hf : (Instr.findKey kt (ix e) []).run P w = .ok none w := DC hkd (by simp [Instr.findAsking])
    have key : (Instr.lookup t (.map none) (ix e) ok).run P w = .ok (if ok then .tuple #[z, .bool false] else z) w := by
      simp only [Instr.lookup, Sem.run_bind, run_underlying hu, Result.andThen_ok, Sem.run_pure, hK.check hT hfit, hf, hzr]
    rw [key]; exact .same H (DI hzrel)
  · rename_i r hxe
    rw [hxe] at hx
    cases hx with
    | @map _ p hp =>
      split at hr
      case h_2 => cases hr
      rename_i es c hes
      obtain ⟨es', hw, hrel⟩ := H.entsAt hp (hE r hxe) hes
      have hget := B5 (P := P) hw rfl
      split at hr
      · rename_i en hfe
        obtain ⟨rfl, rfl⟩ := Df hr
        obtain ⟨j, u', hfa, hu'⟩ := IG hT hK hfit w 0 hrel hfe
        have hf := DC hkd hfa
        have key : (Instr.lookup t (.map (some p.blk)) (ix e) ok).run P w = .ok (if ok then .tuple #[u', .bool true] else u') w := by
          simp only [Instr.lookup, Sem.run_bind, run_underlying hu, Result.andThen_ok, Sem.run_pure, hget, hK.check hT hfit, hf]
        rw [key]; exact .same H (DI hu')
      · rename_i hfe
        obtain ⟨rfl, rfl⟩ := Df hr
        have hfa := IG hT hK hfit w 0 hrel hfe
        have hf := DC hkd hfa
        have key : (Instr.lookup t (.map (some p.blk)) (ix e) ok).run P w = .ok (if ok then .tuple #[z, .bool false] else z) w := by
          simp only [Instr.lookup, Sem.run_bind, run_underlying hu, Result.andThen_ok, Sem.run_pure, hget, hK.check hT hfit, hf, hzr]
        rw [key]; exact .same H (DI hzrel)
      · cases hr
  · cases hr
theorem Mr (H : RelW ty φ E h w) {t xt : Nat} {ti : TI} (T : TyOk P t ti) (hk : ti.k ≠ .iface) (hz : ti.zero.length = ti.size) {z : Value} (hzv : zeroV ti = some z) {ok : Bool} {x : O} {x' : Value} (hx : RelV φ (x e) x') (hr : Hl t ok z x F e h = .ok v h') :
    BF ty φ E h w v h' ((Instr.typeAssert x' xt t ok).run P w) := by
  obtain ⟨z0, hz0, hzr, _, hzp⟩ := T.zeroOk hz
  rw [hzv] at hz0; cases hz0
  have hzrel : RelV φ z z := by
    unfold zeroV at hzv
    split at hzv
    · cases hzv; exact .agg (.plain hzp)
    · split at hzv
      · rename_i u hu
        cases hzv
        rw [hu] at hzp
        simp only [List.all_cons, List.all_nil, Bool.and_true] at hzp
        exact .plain hzp
      · cases hzv
  obtain ⟨d, hd, hkd⟩ := T.und
  unfold Hl at hr
  split at hr
  · rename_i hxe
    rw [hxe] at hx
    cases hx with
    | nilIface =>
      cases ok with
      | false => cases hr
      | true =>
        obtain ⟨rfl, rfl⟩ := Df hr
        have key : (Instr.typeAssert .nilIface xt t true).run P w = .ok (if true then .tuple #[z, .bool false] else z) w := by
          simp only [Instr.typeAssert, Sem.run_bind, run_underlying hd, Result.andThen_ok]
          cases d <;> first | (simp only [if_true, Sem.run_bind, hzr, Result.andThen_ok, Sem.run_pure]; done) | exact absurd rfl (hkd.noIface hk _)
        rw [key]; exact .same H (DI hzrel)
  · rename_i u q hxe
    rw [hxe] at hx
    cases hx with
    | @iface _ _ q' hq =>
      split at hr
      · rename_i hb
        have hb := A2.1 hb
        subst hb
        obtain ⟨rfl, rfl⟩ := Df hr
        have key : (Instr.typeAssert (.iface u q') xt u ok).run P w = .ok (if ok then .tuple #[q', .bool true] else q') w := by
          simp only [Instr.typeAssert, Sem.run_bind, run_underlying hd, Result.andThen_ok]
          cases d <;> first | (simp only [if_true, Sem.run_pure]; done) | exact absurd rfl (hkd.noIface hk _)
        rw [key]; exact .same H (DI hq)
      · rename_i hb
        have hne : ¬ u = t := fun he => by rw [A2.2 he] at hb; cases hb
        cases ok with
        | false => cases hr
        | true =>
          obtain ⟨rfl, rfl⟩ := Df hr
          have key : (Instr.typeAssert (.iface u q') xt t true).run P w = .ok (if true then .tuple #[z, .bool false] else z) w := by
            simp only [Instr.typeAssert, Sem.run_bind, run_underlying hd, Result.andThen_ok]
            cases d <;> first | (simp only [if_neg hne, if_true, Sem.run_bind, hzr, Result.andThen_ok, Sem.run_pure]; done) | exact absurd rfl (hkd.noIface hk _)
          rw [key]; exact .same H (DI hzrel)
  · cases hr
theorem Ii (hT : CJ P ty) (H : RelW ty φ E h w) (hE : ∀ b, ¬ E b) {t kt el : Nat} {ti : TI} (T : TyOk P t ti) (hk : ti.k = .map kt el) {K : KS} (hK : KeyOf P ty kt K)
    {m key x : O} {m' key' x' : Value} (hm : RelV φ (m e) m') (hkey : RelV φ (key e) key') (hx : RelV φ (x e) x') (hr : Fw K m key x F e h = .ok v h') :
    Pg ty φ E h w v h' ((Instr.mapUpdate t m' key' x').run P w) := by
  obtain ⟨kd, hkd⟩ := hK.und hT
  have hu := KF T hk
  unfold Fw at hr
  simp only [BR] at hr
  unfold OQ at hr
  split at hr
  case h_2 => cases hr
  rename_i hfit
  obtain ⟨he, hkk⟩ := IH hfit hkey
  subst he
  split at hr
  case h_2 => cases hr
  rename_i r hme
  rw [hme] at hm
  cases hm with
  | @map _ p hp =>
    split at hr
    case h_2 => cases hr
    rename_i es c hes
    obtain ⟨es', hw, hrel⟩ := H.entsAt hp (hE r) hes
    have hget := B5 (P := P) hw rfl
    split at hr
    · rename_i es2 hse
      obtain ⟨j, u', en, hfa, hen, hek, hrel2⟩ := Hs hT hK hfit hx hkk w 0 hrel hse
      have hf := DC hkd hfa
      obtain ⟨h1, hk1, H1, ev⟩ := D2 (ob := .map ⟨es'.modify (0 + j) fun en => { en with key := key e, val := x' }⟩ c) H (hE _) hp (Ek hes) hr (by rw [Ez hes]; exact .inr trivial) (.map (by rw [Nat.zero_add]; exact hrel2))
      cases hk1
      refine ⟨rfl, _, ?_, H1, ev⟩
      have hstay : (Instr.keyThatStays (((⟨es'⟩ : Array MapEntry)[0 + j]?.map (·.key)).getD (key e)) (key e)).run P w = .ok (key e) w := by
        have : (⟨es'⟩ : Array MapEntry)[0 + j]? = some en := by rw [Nat.zero_add]; simpa using hen
        rw [this]
        simp only [Option.map_some, Option.getD_some, hek]
        unfold Instr.keyThatStays
        rw [Od hfit 9999]
        simp
      have hset := Dj (P := P) (ob' := .map ⟨es'.modify (0 + j) fun en => { en with key := key e, val := x' }⟩ c) hw rfl
      simp only [Instr.mapUpdate, Sem.run_bind, run_underlying hu, Result.andThen_ok, hget, hK.check hT hfit, hf, hstay]
      rw [← hset]; congr 3
      apply Array.ext'
      simp
    · rename_i hse
      have hfa := Hs hT hK hfit hx hkk w 0 hrel hse
      have hf := DC hkd hfa
      obtain ⟨h1, hk1, H1, ev⟩ := D2 (ob := .map ⟨es' ++ [{ key := key e, val := x', born := c }]⟩ (c + 1)) H (hE _) hp (Ek hes) hr (by rw [Ez hes]; exact .inr trivial) (.map (by rw [Na]; exact RelE.append (.cons hkk hx .nil) hrel))
      cases hk1
      refine ⟨rfl, _, ?_, H1, ev⟩
      have hset := Dj (P := P) (ob' := .map ⟨es' ++ [{ key := key e, val := x', born := c }]⟩ (c + 1)) hw rfl
      simp only [Instr.mapUpdate, Sem.run_bind, run_underlying hu, Result.andThen_ok, hget, hK.check hT hfit, hf]
      rw [← hset]; congr 2
      simp
    · cases hr
theorem M0 (hT : CJ P ty) (H : RelW ty φ E h w) (hE : ∀ b, ¬ E b) {ats : Array TypeId} {t' t kt el : Nat} {ti : TI} (h0 : ats[0]? = some t) (T : TyOk P t ti) (hk : ti.k = .map kt el) {K : KS} (hK : KeyOf P ty kt K)
    {m key : O} {m' key' : Value} (hm : RelV φ (m e) m') (hkey : RelV φ (key e) key') (hr : Hm K m key F e h = .ok v h') :
    BF ty φ E h w v h' ((Builtin.delete_ ats t' #[m', key']).run P w) := by
  obtain ⟨kd, hkd⟩ := hK.und hT
  have hu := KF T hk
  unfold Hm Nj at hr
  split at hr
  case h_2 => cases hr
  rename_i hfit
  obtain ⟨he, hkk⟩ := IH hfit hkey
  subst he
  split at hr
  case h_2 => cases hr
  rename_i r hme
  rw [hme] at hm
  cases hm with
  | @map _ p hp =>
    split at hr
    case h_2 => cases hr
    rename_i es c hes
    obtain ⟨es', hw, hrel⟩ := H.entsAt hp (hE r) hes
    have hget := B5 (P := P) hw rfl
    split at hr
    case h_2 => cases hr
    rename_i es2 hde
    rcases Ni hT hK hfit w 0 hrel hde with ⟨hfa, rfl⟩ | ⟨j, u', hfa, hrel2⟩
    · have hf := DC hkd hfa
      obtain ⟨h1, hk1, H1, ev⟩ := D2 (ob := .map ⟨es'⟩ c) H (hE _) hp (Ek hes) hr (by rw [Ez hes]; exact .inr trivial) (.map hrel)
      cases hk1
      have key : (Builtin.delete_ ats t' #[.map (some p.blk), key e]).run P w = .ok noRes { w with heap := w.heap.setIfInBounds p.blk (.map ⟨es'⟩ c) } := by
        simp only [Builtin.delete_, h0, List.getElem?_toArray, List.getElem?_cons_zero, List.getElem?_cons_succ, Sem.run_bind, run_underlying hu, Result.andThen_ok, Sem.run_pure, hget, hK.check hT hfit, hf, Dj hw rfl]; rfl
      rw [key]; exact ⟨_, _, φ, rfl, .tuple .nil, H1, ev⟩
    · have hf := DC hkd hfa
      obtain ⟨h1, hk1, H1, ev⟩ := D2 (ob := .map ⟨es'.eraseIdx j⟩ c) H (hE _) hp (Ek hes) hr (by rw [Ez hes]; exact .inr trivial) (.map hrel2)
      cases hk1
      have herase : (⟨es'⟩ : Array MapEntry).eraseIdxIfInBounds (0 + j) = ⟨es'.eraseIdx j⟩ := by
        apply Array.ext'
        rw [Nat.zero_add]
        unfold Array.eraseIdxIfInBounds
        split
        · simp
        · rename_i hj
          simp only
          rw [List.eraseIdx_of_length_le (by simpa using hj)]
      have key : (Builtin.delete_ ats t' #[.map (some p.blk), key e]).run P w = .ok noRes { w with heap := w.heap.setIfInBounds p.blk (.map ⟨es'.eraseIdx j⟩ c) } := by
        simp only [Builtin.delete_, h0, List.getElem?_toArray, List.getElem?_cons_zero, List.getElem?_cons_succ, Sem.run_bind, run_underlying hu, Result.andThen_ok, Sem.run_pure, hget, hK.check hT hfit, hf, herase, Dj hw rfl]; rfl
      rw [key]; exact ⟨_, _, φ, rfl, .tuple .nil, H1, ev⟩
end
end
end Go.Proofs.Ythcfmklkbakkpaa
set_option linter.unusedSimpArgs false
set_option linter.unusedVariables false
namespace Go.Proofs.Ythcfmklkbakkpaa
noncomputable section
open Go
section
variable {P : Program} {ty : TTy} {φ : Phi} {E : Nat → Prop} {h h' : Hp} {w : World} {F : CallF} {e : Env} {v : Value} {f : Fr}
theorem OM {op : Op} {x : Operand} (hk : kd ty op = .r x) (hE : FN ty f e E op) {y : O} (hy : cO f x = some y) : ∀ a, y e = .pointer (some a) → ¬ E a.block := by
  intro a ha
  unfold FN at hE
  rw [hk] at hE
  exact hE y hy a.block (by rw [ha]; rfl)
theorem Ht {op : Op} {x : Operand} (hk : kd ty op = .w x) (hE : FN ty f e E op) : ∀ b, ¬ E b := by
  unfold FN at hE; rw [hk] at hE; exact hE
theorem ET {op : Op} (hk : kd ty op = .q) (hE : FN ty f e E op) : ∀ b, ¬ E b := by
  unfold FN at hE; rw [hk] at hE; exact hE
theorem Ph {args : List O} {x : O} (hs : args = [x]) {l : List Operand} {ρ : Operand → Value} (ha : RelL φ (vals e args) (l.map ρ)) : ∃ x', l.map ρ = [x'] ∧ RelV φ (x e) x' := by
  subst hs
  generalize l.map ρ = r at ha
  cases ha with | cons h t => cases t; exact ⟨_, rfl, h⟩
theorem Kc {args : List O} {x y : O} (hs : args = [x, y]) {l : List Operand} {ρ : Operand → Value} (ha : RelL φ (vals e args) (l.map ρ)) : ∃ x' y', l.map ρ = [x', y'] ∧ RelV φ (x e) x' ∧ RelV φ (y e) y' := by
  subst hs
  generalize l.map ρ = r at ha
  cases ha with | cons h t => cases t with | cons h2 t => cases t; exact ⟨_, _, rfl, h, h2⟩
theorem Pt (hT : CJ P ty) (H : RelW ty φ E h w) {b : Builtin} {c : Call} (hc : c.callee = .builtin b) {o : Oper} {a : Act} (ho : o.op = .call c) {args : List O}
    (ha : RelL φ (vals e args) (c.args.toList.map a.eval)) (hE : (∀ b, ¬ E b) ∨ b = .min ∨ b = .max ∨ (b = .len ∧ ∀ x, args = [x] → ∀ t ti, c.argTypes[0]? = some t → ty.get t = some ti → (∃ k q, ti.k = .map k q) → ∀ r, x e = .map (some r) → ¬ E r))
    (hr : Gx ty b c.argTypes.toList args F e h = .ok v h') : Da P ty φ E h v h' o a w := by
  have earr : c.args.map a.eval = ⟨c.args.toList.map a.eval⟩ := by apply Array.ext'; simp
  have hat0 : ∀ t l, c.argTypes.toList = t :: l → c.argTypes[0]? = some t := fun t l hl => by rw [← Array.getElem?_toList, hl]; rfl
  have hat1 : ∀ t t2 l, c.argTypes.toList = t :: t2 :: l → c.argTypes[1]? = some t2 := fun t t2 l hl => by rw [← Array.getElem?_toList, hl]; rfl
  have hex : ∀ s : Sem Value, (∀ cs, builtin b c.argTypes o.type cs ⟨c.args.toList.map a.eval⟩ = (do pure (.value (← s)))) → ∀ {vv : Value} {hh : Hp}, BF ty φ E h w vv hh (s.run P w) → Da P ty φ E h vv hh o a w := by
    intro s hs vv hh hg
    refine .of_gives (s := s) ?_ hg
    unfold execOp
    rw [ho]
    simp only [resolve, hc, earr]
    exact hs _
  cases b with
  | len =>
    match args, ha, hE, hr with
    | [x], ha, hE, hr =>
      obtain ⟨x', he, hx⟩ := Ph rfl ha
      cases hl : c.argTypes.toList with
      | nil => rw [hl] at hr; cases hr
      | cons t l =>
        rw [hl] at hr
        obtain ⟨ti, hti, hr⟩ := BS hr
        have h0 := hat0 t l hl
        cases hk : ti.k with
        | slice el => simp only [hk] at hr; exact hex _ (fun cs => by rw [he]; rfl) (Qt H h0 (hT t ti hti) hk hx hr)
        | string => simp only [hk] at hr; exact hex _ (fun cs => by rw [he]; rfl) (Qv H h0 (hT t ti hti) hk hx hr)
        | map k q =>
          simp only [hk] at hr
          refine hex _ (fun cs => by rw [he]; rfl) (Qr H h0 (hT t ti hti) hk hx (fun r hxr => ?_) hr)
          rcases hE with hE | hE | hE | ⟨_, hE⟩
          · exact hE r
          · cases hE
          · cases hE
          · exact hE x rfl t ti h0 hti ⟨k, q, hk⟩ r hxr
        | arr n el =>
          simp only [hk] at hr
          refine hex (Builtin.len_ c.argTypes o.type #[x']) (fun cs => by rw [he]; rfl) ?_
          rw [TZ h0 (hT t ti hti) hk]
          have : v = .int .i64 (.ofNat n) ∧ h' = h := by
            unfold AG kV at hr; rw [Dq] at hr; cases hr; exact ⟨rfl, rfl⟩
          obtain ⟨rfl, rfl⟩ := this
          exact .same H (.int _ _)
        | _ => simp only [hk] at hr; cases hr
    | [], _, _, hr => cases hr
    | _ :: _ :: _, _, _, hr => cases hr
  | cap =>
    match args, ha, hr with
    | [x], ha, hr =>
      obtain ⟨x', he, hx⟩ := Ph rfl ha
      cases hl : c.argTypes.toList with
      | nil => rw [hl] at hr; cases hr
      | cons t l =>
        rw [hl] at hr
        obtain ⟨ti, hti, hr⟩ := BS hr
        have h0 := hat0 t l hl
        cases hk : ti.k with
        | slice el => simp only [hk] at hr; exact hex (Builtin.cap_ c.argTypes o.type #[x']) (fun cs => by rw [he]; rfl) (Qe H h0 (hT t ti hti) hk hx hr)
        | _ => simp only [hk] at hr; cases hr
    | [], _, hr => cases hr
    | _ :: _ :: _, _, hr => cases hr
  | min =>
    match args, ha, hr with
    | [x, y], ha, hr =>
      obtain ⟨x', y', he, hx, hy⟩ := Kc rfl ha
      exact hex _ (fun cs => by rw [he]; rfl) (UG (F := F) H hx hy hr)
    | [], _, hr => cases hr
    | [_], _, hr => cases hr
    | _ :: _ :: _ :: _, _, hr => cases hr
  | max =>
    match args, ha, hr with
    | [x, y], ha, hr =>
      obtain ⟨x', y', he, hx, hy⟩ := Kc rfl ha
      exact hex _ (fun cs => by rw [he]; rfl) (UE (F := F) H hx hy hr)
    | [], _, hr => cases hr
    | [_], _, hr => cases hr
    | _ :: _ :: _ :: _, _, hr => cases hr
  | copy =>
    have hE' : ∀ b, ¬ E b := by
      rcases hE with h | h | h | ⟨h, _⟩
      · exact h
      all_goals cases h
    match args, ha, hr with
    | [d, x], ha, hr =>
      obtain ⟨d', x', he, hd, hx⟩ := Kc rfl ha
      cases hl : c.argTypes.toList with
      | nil => rw [hl] at hr; cases hr
      | cons t l =>
        rw [hl] at hr
        obtain ⟨ti, hti, hr⟩ := BS hr
        cases hk : ti.k with
        | slice el =>
          simp only [hk] at hr
          obtain ⟨ei, hei, hr⟩ := BS hr
          exact hex _ (fun cs => by rw [he]; rfl) (Qj H hE' (hat0 t l hl) (hT t ti hti) hk (hT el ei hei) hd hx hr)
        | _ => simp only [hk] at hr; cases hr
    | [], _, hr => cases hr
    | [_], _, hr => cases hr
    | _ :: _ :: _ :: _, _, hr => cases hr
  | clear =>
    have hE' : ∀ b, ¬ E b := by
      rcases hE with h | h | h | ⟨h, _⟩
      · exact h
      all_goals cases h
    match args, ha, hr with
    | [x], ha, hr =>
      obtain ⟨x', he, hx⟩ := Ph rfl ha
      cases hl : c.argTypes.toList with
      | nil => rw [hl] at hr; cases hr
      | cons t l =>
        rw [hl] at hr
        obtain ⟨ti, hti, hr⟩ := BS hr
        cases hk : ti.k with
        | slice el =>
          simp only [hk] at hr
          obtain ⟨ei, hei, hr⟩ := BS hr
          obtain ⟨hz, hr⟩ := F8 hr
          exact hex _ (fun cs => by rw [he]; rfl) (Oz H hE' (hat0 t l hl) (hT t ti hti) hk (hT el ei hei) hz hx hr)
        | map k q =>
          simp only [hk] at hr
          exact hex _ (fun cs => by rw [he]; rfl) (KL H hE' (hat0 t l hl) (hT t ti hti) hx hr)
        | _ => simp only [hk] at hr; cases hr
    | [], _, hr => cases hr
    | _ :: _ :: _, _, hr => cases hr
  | append =>
    have hE' : ∀ b, ¬ E b := by
      rcases hE with h | h | h | ⟨h, _⟩
      · exact h
      all_goals cases h
    match args, ha, hr with
    | [s, x], ha, hr =>
      obtain ⟨s', x', he, hs, hx⟩ := Kc rfl ha
      cases hl : c.argTypes.toList with
      | nil => rw [hl] at hr; cases hr
      | cons t l =>
        cases l with
        | nil => rw [hl] at hr; cases hr
        | cons t2 l =>
          rw [hl] at hr
          obtain ⟨ti, hti, hr⟩ := BS hr
          obtain ⟨xi, hxi, hr⟩ := BS hr
          have h0 := hat0 t _ hl
          have h1 := hat1 t t2 l hl
          cases hk : ti.k with
          | slice en =>
            cases hk2 : xi.k with
            | slice q =>
              simp only [hk, hk2] at hr
              obtain ⟨ei, hei, hr⟩ := BS hr
              cases hsz : ei.size with
              | zero => simp only [hsz] at hr; cases hr
              | succ n =>
                simp only [hsz] at hr
                obtain ⟨hz, hr⟩ := F8 hr
                have hs2 : n.succ = ei.size := hsz.symm
                rw [hs2] at hr
                exact hex _ (fun cs => by rw [he]; rfl) (Ib H hE' h0 h1 (hT t ti hti) hk (hT t2 xi hxi) (.inl ⟨q, hk2⟩) hei (hT en ei hei) (by omega) hz hs hx hr)
            | string =>
              simp only [hk, hk2] at hr
              obtain ⟨ei, hei, hr⟩ := BS hr
              cases hsz : ei.size with
              | zero => simp only [hsz] at hr; cases hr
              | succ n =>
                simp only [hsz] at hr
                obtain ⟨hz, hr⟩ := F8 hr
                have hs2 : n.succ = ei.size := hsz.symm
                rw [hs2] at hr
                exact hex _ (fun cs => by rw [he]; rfl) (Ib H hE' h0 h1 (hT t ti hti) hk (hT t2 xi hxi) (.inr hk2) hei (hT en ei hei) (by omega) hz hs hx hr)
            | int q =>
              simp only [hk, hk2] at hr
              obtain ⟨ei, hei, hr⟩ := BS hr
              cases hsz : ei.size with
              | zero => simp only [hsz] at hr; cases hr
              | succ n =>
                simp only [hsz] at hr
                obtain ⟨hz, hr⟩ := F8 hr
                have hs2 : n.succ = ei.size := hsz.symm
                rw [hs2] at hr
                exact hex _ (fun cs => by rw [he]; rfl) (LS H hE' h0 h1 (hT t ti hti) hk (hT t2 xi hxi) hk2 hei (hT en ei hei) (by omega) hz hs hx hr)
            | _ => simp only [hk, hk2] at hr; cases hr
          | _ => simp only [hk] at hr; cases hr
    | [], _, hr => cases hr
    | [_], _, hr => cases hr
    | _ :: _ :: _ :: _, _, hr => cases hr
  | delete =>
    have hE' : ∀ b, ¬ E b := by
      rcases hE with h | h | h | ⟨h, _⟩
      · exact h
      all_goals cases h
    match args, ha, hr with
    | [m, key], ha, hr =>
      obtain ⟨m', key', he, hm, hkey⟩ := Kc rfl ha
      cases hl : c.argTypes.toList with
      | nil => rw [hl] at hr; cases hr
      | cons t l =>
        rw [hl] at hr
        obtain ⟨ti, kt, el, K, hti, hk, hK, hr⟩ := Hu (k := fun ks => Hm ks m key) hr
        exact hex _ (fun cs => by rw [he]; rfl) (M0 hT H hE' (hat0 t l hl) (hT t ti hti) hk hK hm hkey hr)
    | [], _, hr => cases hr
    | [_], _, hr => cases hr
    | _ :: _ :: _ :: _, _, hr => cases hr
  | _ => cases hr
theorem ZP (hT : CJ P ty) (hF : CY P ty F) (H : RelW ty φ E h w) {o : Oper} {a : Act} (hst : VU φ f e a.eval o.op) (hE : FN ty f e E o.op) (hr : opC ty f o.op F e h = .ok v h') :
    Da P ty φ E h v h' o a w := by
  cases ho : o.op with
  | move x =>
    rw [ho] at hr hst
    obtain ⟨x', hx', hr⟩ := CX hr
    exact .of_gives (s := pure (a.eval x)) (by unfold execOp; rw [ho]; rfl) (LX H (hst x (by simp [Op.operands]) x' hx') hr)
  | assign x =>
    rw [ho] at hr hst
    obtain ⟨x', hx', hr⟩ := CX hr
    exact .of_gives (s := pure (a.eval x)) (by unfold execOp; rw [ho]; rfl) (LX H (hst x (by simp [Op.operands]) x' hx') hr)
  | pick c x y =>
    rw [ho] at hr hst
    obtain ⟨c', hc', hr⟩ := CX hr
    obtain ⟨x', y', hx', hy', hr⟩ := Gr hr
    refine .of_gives (s := (do pure (if ← asBool (a.eval c) then a.eval x else a.eval y))) ?_ (Q3 H (hst c (by simp [Op.operands]) c' hc') (hst x (by simp [Op.operands]) x' hx') (hst y (by simp [Op.operands]) y' hy') hr)
    unfold execOp; rw [ho]; simp
  | alloc t =>
    rw [ho] at hr hst
    obtain ⟨ti, hti, hr⟩ := BS hr
    obtain ⟨hz, hr⟩ := F8 hr
    cases hc : B6 .mt 0 ti.zero with
    | none => rw [hc] at hr; cases hr
    | some c =>
      rw [hc] at hr
      exact .of_gives (by unfold execOp; rw [ho]) (Ot H (hT t ti hti) hz hc hr)
  | box t x =>
    rw [ho] at hr hst
    obtain ⟨x', hx', hr⟩ := CX hr
    exact .of_gives (by unfold execOp; rw [ho]) (Tn H (hst x (by simp [Op.operands]) x' hx') hr)
  | build t parts =>
    rw [ho] at hr hst
    obtain ⟨ti, hti, hr⟩ := BS hr
    obtain ⟨hz, hr⟩ := F8 hr
    have hps : ∀ p ∈ parts.toList, ∀ y, cO f p.2 = some y → RelV φ (y e) (a.eval p.2) := fun p hp => hst p.2 (by simp only [Op.operands, List.mem_map]; exact ⟨p, hp, rfl⟩)
    cases hk : ti.k with
    | struct fs =>
      simp only [hk] at hr
      cases hp : E8 f (Ik fs) parts.toList with
      | none => rw [hp] at hr; cases hr
      | some ps =>
        rw [hp] at hr
        exact .of_gives (by unfold execOp; rw [ho]) (Mt H (hT t ti hti) hk hz (ps' := parts.map fun (i, x) => (i, a.eval x)) (by simpa using Gk (ρ := a.eval) hp hps) hr)
    | arr n el =>
      simp only [hk] at hr
      obtain ⟨ei, hei, hr⟩ := BS hr
      cases hp : E8 f (fun i => some (Nat.mul i ei.size, ei.size)) parts.toList with
      | none => rw [hp] at hr; cases hr
      | some ps =>
        rw [hp] at hr
        exact .of_gives (by unfold execOp; rw [ho]) (Ms H (hT t ti hti) hk (hT el ei hei) hz (ps' := parts.map fun (i, x) => (i, a.eval x)) (by simpa using Gk (ρ := a.eval) hp hps) hr)
    | _ => simp only [hk] at hr; cases hr
  | buildSlice t len parts =>
    rw [ho] at hr hst
    obtain ⟨ti, hti, hr⟩ := BS hr
    have hps : ∀ p ∈ parts.toList, ∀ y, cO f p.2 = some y → RelV φ (y e) (a.eval p.2) := fun p hp => hst p.2 (by simp only [Op.operands, List.mem_map]; exact ⟨p, hp, rfl⟩)
    cases hk : ti.k with
    | slice el =>
      simp only [hk] at hr
      obtain ⟨ei, hei, hr⟩ := BS hr
      obtain ⟨hz, hr⟩ := F8 hr
      cases hp : E8 f (fun i => some (Nat.mul i ei.size, ei.size)) parts.toList with
      | none => rw [hp] at hr; cases hr
      | some ps =>
        rw [hp] at hr
        simp only at hr
        cases hb : Nat.ble (Nat.mul len ei.size) 16777216 with
        | false => rw [hb] at hr; cases hr
        | true =>
          rw [hb] at hr
          exact .of_gives (by unfold execOp; rw [ho]) (Id H (hT t ti hti) hk (hT el ei hei) hz (Az.1 hb) (ps' := parts.map fun (i, x) => (i, a.eval x)) (by simpa using Gk (ρ := a.eval) hp hps) hr)
    | _ => simp only [hk] at hr; cases hr
  | load t x =>
    rw [ho] at hr hst hE
    obtain ⟨ti, hti, hr⟩ := BS hr
    obtain ⟨x', hx', hr⟩ := CX hr
    have hx := hst x (by simp [Op.operands]) x' hx'
    cases hk : ti.k.agg with
    | true => rw [hk] at hr; exact .of_gives (by unfold execOp; rw [ho]) (PE H (hT t ti hti) hk hx (OM rfl hE hx') hr)
    | false => rw [hk] at hr; exact .of_gives (by unfold execOp; rw [ho]) (PC H (hT t ti hti) hk hx (OM rfl hE hx') hr)
  | store t x y =>
    rw [ho] at hr hst hE
    obtain ⟨ti, hti, hr⟩ := BS hr
    obtain ⟨x', y', hx', hy', hr⟩ := Gr hr
    exact .of_skips (by unfold execOp; rw [ho]) (PG H (hT t ti hti) (hst x (by simp [Op.operands]) x' hx') (hst y (by simp [Op.operands]) y' hy') (fun a _ => Ht (x := x) rfl hE _) hr)
  | nilCheck x =>
    rw [ho] at hr hst
    obtain ⟨x', hx', hr⟩ := CX hr
    obtain ⟨hv, rfl, hne⟩ := UK H (hst x (by simp [Op.operands]) x' hx') hr
    refine .of_gives (s := pure (a.eval x)) ?_ (.same H hv)
    unfold execOp; rw [ho]
    obtain ⟨h1, h2, h3, h4⟩ := hne
    simp only
    generalize a.eval x = z at h1 h2 h3 h4 ⊢
    cases z <;> first | rfl | (exact absurd rfl h2) | (exact absurd rfl h3) | skip
  | binOp op t x y yt => rw [ho] at hr hst; exact XP hT H ho (by rw [ho]; exact hst) hr
  | unOp op t x =>
    rw [ho] at hr hst
    obtain ⟨ti, hti, hr⟩ := BS hr
    obtain ⟨x', hx', hr⟩ := CX hr
    have hx := hst x (by simp [Op.operands]) x' hx'
    have hex : execOp a.eval o = (do pure (.value (← Op.unary op (a.eval x)))) := by unfold execOp; rw [ho]
    cases op with
    | not => exact .of_gives hex (UM H hx (by revert hr; cases ti.k <;> exact id))
    | neg =>
      cases hk : ti.k with
      | int k => simp only [hk] at hr; exact .of_gives hex (UI H hx hr)
      | _ => simp only [hk] at hr; cases hr
    | plus => revert hr; cases ti.k <;> intro hr <;> cases hr
    | xor =>
      cases hk : ti.k with
      | int k => cases k <;> simp only [hk] at hr <;> first | cases hr; done | exact .of_gives hex (Tu H hx hr)
      | _ => simp only [hk] at hr; cases hr
  | fieldAddr t x i =>
    rw [ho] at hr hst
    obtain ⟨ti, hti, hr⟩ := BS hr
    obtain ⟨x', hx', hr⟩ := CX hr
    have hx := hst x (by simp [Op.operands]) x' hx'
    cases hk : ti.k with
    | struct fs =>
      simp only [hk] at hr
      cases hn : nth fs i with
      | none => rw [hn] at hr; cases hr
      | some q =>
        obtain ⟨off, s, ft⟩ := q
        rw [hn] at hr
        cases s with
        | zero => cases hr
        | succ s => exact .of_gives (by unfold execOp; rw [ho]) (I1 H (hT t ti hti) hk hn hx hr)
    | _ => simp only [hk] at hr; cases hr
  | field t x i =>
    rw [ho] at hr hst
    obtain ⟨ti, hti, hr⟩ := BS hr
    obtain ⟨x', hx', hr⟩ := CX hr
    have hx := hst x (by simp [Op.operands]) x' hx'
    cases hk : ti.k with
    | struct fs =>
      simp only [hk] at hr
      cases hn : nth fs i with
      | none => rw [hn] at hr; cases hr
      | some q =>
        obtain ⟨off, s, ft⟩ := q
        rw [hn] at hr
        obtain ⟨fi, hfi, hr⟩ := BS hr
        exact .of_gives (by unfold execOp; rw [ho]) (O8 H (hT t ti hti) hk hn (hT ft fi hfi) hx hr)
    | _ => simp only [hk] at hr; cases hr
  | indexAddr t x ix =>
    rw [ho] at hr hst
    obtain ⟨ti, hti, hr⟩ := BS hr
    obtain ⟨x', y', hx', hy', hr⟩ := Gr hr
    have hx := hst x (by simp [Op.operands]) x' hx'
    have hy := hst ix (by simp [Op.operands]) y' hy'
    cases hk : ti.k with
    | arr n el =>
      simp only [hk] at hr
      obtain ⟨ei, hei, hr⟩ := BS hr
      exact .of_gives (by unfold execOp; rw [ho]) (NB H (hT t ti hti) hk (hT el ei hei) hx hy hr)
    | slice el =>
      simp only [hk] at hr
      obtain ⟨ei, hei, hr⟩ := BS hr
      exact .of_gives (by unfold execOp; rw [ho]) (UA H (hT t ti hti) hk (hT el ei hei) hx hy hr)
    | _ => simp only [hk] at hr; cases hr
  | index t x ix =>
    rw [ho] at hr hst
    obtain ⟨ti, hti, hr⟩ := BS hr
    obtain ⟨x', y', hx', hy', hr⟩ := Gr hr
    have hx := hst x (by simp [Op.operands]) x' hx'
    have hy := hst ix (by simp [Op.operands]) y' hy'
    cases hk : ti.k with
    | arr n el =>
      simp only [hk] at hr
      obtain ⟨ei, hei, hr⟩ := BS hr
      exact .of_gives (by unfold execOp; rw [ho]) (ZK H (hT t ti hti) hk (hT el ei hei) hx hy hr)
    | string =>
      simp only [hk] at hr
      exact .of_gives (by unfold execOp; rw [ho]) (Ov H (hT t ti hti) hk hx hy hr)
    | _ => simp only [hk] at hr; cases hr
  | extract x i =>
    rw [ho] at hr hst
    obtain ⟨x', hx', hr⟩ := CX hr
    exact .of_gives (by unfold execOp; rw [ho]) (LU H (hst x (by simp [Op.operands]) x' hx') hr)
  | makeInterface t x =>
    rw [ho] at hr hst
    obtain ⟨ti, hti, hr⟩ := BS hr
    obtain ⟨x', hx', hr⟩ := CX hr
    have hx := hst x (by simp [Op.operands]) x' hx'
    have hne : ti.k ≠ .iface := by intro hk; rw [hk] at hr; cases hr
    have hr' : Ie t x' F e h = .ok v h' := by revert hr hne; cases ti.k <;> intro hr hne <;> first | exact hr | exact absurd rfl hne
    exact .of_gives (by unfold execOp; rw [ho]) (PA H (hT t ti hti) hne hx hr')
  | makeFunc fn first cap =>
    rw [ho] at hr hst
    simp only [opC] at hr
    cases h1 : cOs f first.toList with
    | none => simp only [h1] at hr; cases hr
    | some fs =>
      cases h2 : cOs f cap.toList with
      | none => simp only [h1, h2] at hr; cases hr
      | some cs =>
        simp only [h1, h2] at hr
        refine .of_gives (s := Instr.makeFunc fn (first.map a.eval) (cap.map a.eval)) (by unfold execOp; rw [ho]) ?_
        have e1 : first.map a.eval = ⟨first.toList.map a.eval⟩ := by apply Array.ext'; simp
        have e2 : cap.map a.eval = ⟨cap.toList.map a.eval⟩ := by apply Array.ext'; simp
        rw [e1, e2]
        exact Qp H (J0 h1 fun x hx => hst x (by simp [Op.operands] at hx ⊢; exact .inl hx)) (J0 h2 fun x hx => hst x (by simp [Op.operands] at hx ⊢; exact .inr hx)) hr
  | makeMap t r =>
    rw [ho] at hr hst
    cases r with
    | some _ => cases hr
    | none => exact .of_gives (by unfold execOp; rw [ho]; rfl) (UC (F := F) (e := e) H (t := t) hr)
  | makeSlice t l c =>
    rw [ho] at hr hst
    obtain ⟨ti, hti, hr⟩ := BS hr
    cases hk : ti.k with
    | slice el =>
      simp only [hk] at hr
      obtain ⟨ei, hei, hr⟩ := BS hr
      obtain ⟨hz, hr⟩ := F8 hr
      obtain ⟨l', c', hl', hc', hr⟩ := Gr hr
      exact .of_gives (by unfold execOp; rw [ho]) (Qx H (hT t ti hti) hk (hT el ei hei) hz (hst l (by simp [Op.operands]) l' hl') (hst c (by simp [Op.operands]) c' hc') hr)
    | _ => simp only [hk] at hr; cases hr
  | sliceToArrayPointer t x =>
    rw [ho] at hr hst
    obtain ⟨ti, hti, hr⟩ := BS hr
    cases hk : ti.k with
    | arr n el =>
      simp only [hk] at hr
      cases n with
      | zero => cases hr
      | succ n =>
        obtain ⟨x', hx', hr⟩ := CX hr
        exact .of_gives (by unfold execOp; rw [ho]) (Tk H (hT t ti hti) hk (Nat.succ_pos _) (hst x (by simp [Op.operands]) x' hx') hr)
    | _ => simp only [hk] at hr; cases hr
  | slice t x lo hi mx =>
    rw [ho] at hr hst
    obtain ⟨ti, hti, hr⟩ := BS hr
    obtain ⟨x', hx', hr⟩ := CX hr
    have hx := hst x (by simp [Op.operands]) x' hx'
    cases h1 : cOo f lo with
    | none => simp only [h1] at hr; cases hr
    | some lo' =>
      cases h2 : cOo f hi with
      | none => simp only [h1, h2] at hr; cases hr
      | some hi' =>
        cases h3 : cOo f mx with
        | none => simp only [h1, h2, h3] at hr; cases hr
        | some mx' =>
          simp only [h1, h2, h3] at hr
          have r1 : RelO φ e lo' (lo.map a.eval) := MF h1 fun z hz => hst z (by rw [hz]; simp [Op.operands])
          have r2 : RelO φ e hi' (hi.map a.eval) := MF h2 fun z hz => hst z (by rw [hz]; simp [Op.operands])
          have r3 : RelO φ e mx' (mx.map a.eval) := MF h3 fun z hz => hst z (by rw [hz]; simp [Op.operands])
          cases hk : ti.k with
          | string =>
            simp only [hk] at hr
            cases mx' with
            | some _ => cases hr
            | none =>
              have hcut : Fu x' lo' hi' F e h = .ok v h' := hr
              have hmx : mx = none := by
                cases mx with
                | none => rfl
                | some z => cases r3
              subst hmx
              exact .of_gives (by unfold execOp; rw [ho]; rfl) (Mz H (hT t ti hti) hk hx r1 r2 hcut)
          | slice el =>
            simp only [hk] at hr
            obtain ⟨ei, hei, hr⟩ := BS hr
            exact .of_gives (by unfold execOp; rw [ho]) (Tw H (hT t ti hti) hk hei (hT el ei hei) hx r1 r2 r3 hr)
          | arr n el =>
            simp only [hk] at hr
            obtain ⟨ei, hei, hr⟩ := BS hr
            exact .of_gives (by unfold execOp; rw [ho]) (Mx H (hT t ti hti) hk (hT el ei hei) hx r1 r2 r3 hr)
          | _ => simp only [hk] at hr; cases hr
  | convert src dst x =>
    rw [ho] at hr hst hE
    obtain ⟨si, hsi, hr⟩ := BS hr
    obtain ⟨di, hdi, hr⟩ := BS hr
    obtain ⟨x', hx', hr⟩ := CX hr
    have hx := hst x (by simp [Op.operands]) x' hx'
    have hex : execOp a.eval o = (do pure (.value (← convert src dst (a.eval x)))) := by unfold execOp; rw [ho]
    obtain ⟨ds, hds, ks⟩ := (hT src si hsi).und
    obtain ⟨dd, hdd, kd⟩ := (hT dst di hdi).und
    cases hk : di.k with
    | int k =>
      cases hk2 : si.k with
      | int k2 =>
        simp only [hk, hk2] at hr
        obtain ⟨q, n, hxe, hg⟩ := Qh (P := P) H hx hr
        rw [hk] at kd; cases kd
        rw [hk2] at ks; cases ks
        refine .of_gives hex ?_
        rw [hxe]
        have : (convert src dst (.int q n)).run P w = (Conv.intToInt k n).run P w := by
          simp only [convert, Sem.run_bind, run_underlying hds, run_underlying hdd, Result.andThen_ok]
        rw [this]; exact hg
      | _ => simp only [hk, hk2] at hr; cases hr
    | string =>
      cases hk2 : si.k with
      | string =>
        simp only [hk, hk2] at hr
        obtain ⟨s, hxe, hg⟩ := Q5 H hx hr
        rw [hk] at kd; cases kd
        rw [hk2] at ks; cases ks
        refine .of_gives hex ?_
        rw [hxe] at hg ⊢
        have : (convert src dst (.string s)).run P w = .ok (.string s) w := by
          simp only [convert, Sem.run_bind, run_underlying hds, run_underlying hdd, Result.andThen_ok, Sem.run_pure]
        rw [this]; exact hg
      | slice el =>
        simp only [hk, hk2] at hr
        obtain ⟨ei, hei, hr⟩ := BS hr
        cases hk3 : ei.k with
        | int k3 =>
          cases k3 <;> simp only [hk3] at hr <;> first | (cases hr; done) | skip
          refine .of_gives hex (PJ H (fun a l c hxe => ?_) (hT src si hsi) hk2 (hT dst di hdi) hk (hT el ei hei) hk3 hx hr)
          cases hb : Nat.beq src dst with
          | true => exact ET (by simp only [Go.Proofs.Ythcfmklkbakkpaa.kd, hb]) hE _
          | false =>
            have hi : IU ty src = false := by unfold IU; rw [hsi]; simp only [hk2]
            have hi2 : FX ty dst = false := by unfold FX; rw [hdi]; simp only [hk]
            have hkd : Go.Proofs.Ythcfmklkbakkpaa.kd ty (.convert src dst x) = .r x := by simp only [Go.Proofs.Ythcfmklkbakkpaa.kd, hb, hi, hi2]
            unfold FN at hE
            rw [hkd] at hE
            exact hE x' hx' _ (by rw [hxe]; rfl)
        | _ => simp only [hk3] at hr; cases hr
      | _ => simp only [hk, hk2] at hr; cases hr
    | slice el =>
      cases hk2 : si.k with
      | string =>
        simp only [hk, hk2] at hr
        obtain ⟨ei, hei, hr⟩ := BS hr
        cases hk3 : ei.k with
        | int k3 =>
          cases k3 <;> simp only [hk3] at hr <;> first | (cases hr; done) | skip
          cases hb : Nat.beq ei.size 1 with
          | false => rw [hb] at hr; cases hr
          | true =>
            rw [hb] at hr
            exact .of_gives hex (Lb H (hT src si hsi) hk2 (hT dst di hdi) hk (hT el ei hei) hk3 hei (A2.1 hb) hx hr)
        | _ => simp only [hk3] at hr; cases hr
      | slice el2 =>
        simp only [hk, hk2] at hr
        cases hb : Nat.beq src dst with
        | false => rw [hb] at hr; cases hr
        | true =>
          rw [hb] at hr
          have heq : src = dst := A2.1 hb
          have hE' := ET (by simp only [Go.Proofs.Ythcfmklkbakkpaa.kd, hb]) hE
          obtain ⟨ei, hei, hr⟩ := BS hr
          cases hk3 : ei.k with
          | int k3 =>
            cases k3 <;> simp only [hk3] at hr <;> first | (cases hr; done) | skip
            have hg := Ox (P := P) H hE' (hT dst di hdi) hk (hT el ei hei) hk3 hx hr
            rw [heq] at hex
            exact .of_gives hex hg
          | _ => simp only [hk3] at hr; cases hr
      | _ => simp only [hk, hk2] at hr; cases hr
    | _ => simp only [hk] at hr; cases hr
  | call c =>
    rw [ho] at hr hst hE
    simp only [opC] at hr
    cases h1 : cOs f c.args.toList with
    | none => simp only [h1] at hr; cases hr
    | some args =>
      simp only [h1] at hr
      have ha : RelL φ (vals e args) (c.args.toList.map a.eval) := J0 h1 fun x hx => hst x (by
        unfold Op.operands Call.operands
        cases hc : c.callee <;> simp [hc] <;> first | exact Or.inr (by simpa using hx) | exact (by simpa using hx))
      cases hc : c.callee with
      | builtin b =>
        simp only [hc] at hr
        refine Pt hT H hc ho ha ?_ hr
        cases b with
        | len =>
          refine .inr (.inr (.inr ⟨rfl, fun x hx t ti ht hti hm r hxr => ?_⟩))
          subst hx
          cases hl : c.args.toList with
          | nil => rw [hl] at h1; cases h1
          | cons x0 l =>
            cases l with
            | cons x1 l =>
              rw [hl] at h1
              unfold cOs at h1
              cases hx0 : cO f x0 with
              | none => rw [hx0] at h1; cases h1
              | some y0 =>
                rw [hx0] at h1
                cases hx1 : cOs f (x1 :: l) with
                | none => rw [hx1] at h1; cases h1
                | some ys =>
                  rw [hx1] at h1
                  cases h1
                  unfold cOs at hx1
                  cases hq : cO f x1 with
                  | none => rw [hq] at hx1; cases hx1
                  | some y1 =>
                    rw [hq] at hx1
                    cases hq2 : cOs f l with
                    | none => rw [hq2] at hx1; cases hx1
                    | some ys => rw [hq2] at hx1; cases hx1
            | nil =>
              rw [hl] at h1
              have hx0 : cO f x0 = some x := by
                unfold cOs at h1
                cases hx0 : cO f x0 with
                | none => rw [hx0] at h1; cases h1
                | some y0 => rw [hx0] at h1; cases h1; rfl
              obtain ⟨k, q, hm⟩ := hm
              have hmap : Mj ty (c.argTypes.getD 0 0) = true := by
                have : c.argTypes.getD 0 0 = t := by rw [Array.getD_eq_getD_getElem?, ht]; rfl
                rw [this]; unfold Mj; rw [hti]; simp only [hm]
              have hk : kd ty (.call c) = .r x0 := by simp only [kd, hc, hl, hmap]
              unfold FN at hE
              rw [hk] at hE
              exact hE x hx0 r (by rw [hxr]; rfl)
        | min => exact .inr (.inl rfl)
        | max => exact .inr (.inr (.inl rfl))
        | _ =>
          refine .inl ?_
          cases hl : c.args.toList with
          | nil => exact ET (by simp only [kd, hc, hl]) hE
          | cons x l => exact Ht (x := x) (by simp only [kd, hc, hl]) hE
      | value g =>
        simp only [hc] at hr
        have hE' : ∀ b, ¬ E b := ET (by simp only [kd, hc]) hE
        cases g with
        | func g => exact Qc hF H hE' hc ho ha hr
        | tmp t =>
          obtain ⟨g', hg', hr⟩ := CX hr
          exact HD hF H hE' hc ho (hst (.tmp t) (by unfold Op.operands Call.operands; simp [hc]) g' hg') ha hr
        | const t =>
          obtain ⟨g', hg', hr⟩ := CX hr
          exact HD hF H hE' hc ho (hst (.const t) (by unfold Op.operands Call.operands; simp [hc]) g' hg') ha hr
        | global t =>
          obtain ⟨g', hg', hr⟩ := CX hr
          exact HD hF H hE' hc ho (hst (.global t) (by unfold Op.operands Call.operands; simp [hc]) g' hg') ha hr
      | invoke recv name =>
        simp only [hc] at hr
        have hE' : ∀ b, ¬ E b := ET (by simp only [kd, hc]) hE
        obtain ⟨x', hx', hr⟩ := CX hr
        exact NC hT hF H hE' hc ho (hst recv (by unfold Op.operands Call.operands; simp [hc]) x' hx') ha hr
  | lookup t x ix ok =>
    rw [ho] at hr hst hE
    obtain ⟨ti, hti, hr⟩ := BS hr
    obtain ⟨x', ix', hx', hix', hr⟩ := Gr hr
    cases hk : ti.k with
    | map kt el =>
      simp only [hk] at hr
      obtain ⟨ei, hei, hr⟩ := BS hr
      obtain ⟨hz, hr⟩ := F8 hr
      unfold wZero at hr
      cases hzv : zeroV ei with
      | none => rw [hzv] at hr; cases hr
      | some z =>
        rw [hzv] at hr
        obtain ⟨ti2, kt2, el2, K, hti2, hk2, hK, hr⟩ := Hu hr
        rw [hti] at hti2; cases hti2
        rw [hk] at hk2; cases hk2
        refine .of_gives (by unfold execOp; rw [ho]) (NE hT H (hT t ti hti) hk (hT el ei hei) hz hzv hK (hst x (by simp [Op.operands]) x' hx') (hst ix (by simp [Op.operands]) ix' hix') (fun r hxr => ?_) hr)
        have hkd : kd ty (.lookup t x ix ok) = .r x := rfl
        unfold FN at hE
        rw [hkd] at hE
        exact hE x' hx' r (by rw [hxr]; rfl)
    | _ => simp only [hk] at hr; cases hr
  | mapUpdate t m k x =>
    rw [ho] at hr hst hE
    obtain ⟨ti, kt, el, K, hti, hk, hK, hr⟩ := Hu (k := fun ks => w1 f m fun m => w2 f k x fun key x => Fw ks m key x) hr
    obtain ⟨m', hm', hr⟩ := CX hr
    obtain ⟨k', x', hk', hx', hr⟩ := Gr hr
    exact .of_skips (by unfold execOp; rw [ho]) (Ii hT H (Ht (x := m) rfl hE) (hT t ti hti) hk hK (hst m (by simp [Op.operands]) m' hm') (hst k (by simp [Op.operands]) k' hk') (hst x (by simp [Op.operands]) x' hx') hr)
  | insert t m k x =>
    rw [ho] at hr hst hE
    obtain ⟨ti, kt, el, K, hti, hk, hK, hr⟩ := Hu (k := fun ks => w1 f m fun m => w2 f k x fun key x => Fw ks m key x) hr
    obtain ⟨m', hm', hr⟩ := CX hr
    obtain ⟨k', x', hk', hx', hr⟩ := Gr hr
    exact .of_skips (by unfold execOp; rw [ho]) (Ii hT H (Ht (x := m) rfl hE) (hT t ti hti) hk hK (hst m (by simp [Op.operands]) m' hm') (hst k (by simp [Op.operands]) k' hk') (hst x (by simp [Op.operands]) x' hx') hr)
  | range t x =>
    rw [ho] at hr hst hE
    obtain ⟨ti, hti, hr⟩ := BS hr
    cases hk : ti.k with
    | map k q =>
      simp only [hk] at hr
      obtain ⟨x', hx', hr⟩ := CX hr
      exact .of_gives (by unfold execOp; rw [ho]) (PF H (ET rfl hE) (hT t ti hti) hk (hst x (by simp [Op.operands]) x' hx') hr)
    | _ => simp only [hk] at hr; cases hr
  | next x s =>
    rw [ho] at hr hst hE
    cases s with
    | true => cases hr
    | false =>
      obtain ⟨x', hx', hr⟩ := CX hr
      exact .of_gives (by unfold execOp; rw [ho]) (Q0 (t := o.type) H (ET rfl hE) (hst x (by simp [Op.operands]) x' hx') hr)
  | entry x =>
    rw [ho] at hr hst hE
    obtain ⟨x', hx', hr⟩ := CX hr
    exact .of_gives (by unfold execOp; rw [ho]) (O0 H (ET rfl hE) (hst x (by simp [Op.operands]) x' hx') hr)
  | typeAssert x xt t ok =>
    rw [ho] at hr hst hE
    obtain ⟨ti, hti, hr⟩ := BS hr
    obtain ⟨x', hx', hr⟩ := CX hr
    have hr2 : ti.k ≠ .iface ∧ wZ ti (wZero ti fun z => Hl t ok z x') F e h = .ok v h' := by
      cases hk : ti.k with
      | iface => simp only [hk] at hr; cases hr
      | _ => simp only [hk] at hr; exact ⟨nofun, hr⟩
    obtain ⟨hki, hr⟩ := hr2
    obtain ⟨hz, hr⟩ := F8 hr
    unfold wZero at hr
    cases hzv : zeroV ti with
    | none => rw [hzv] at hr; cases hr
    | some z =>
      rw [hzv] at hr
      exact .of_gives (by unfold execOp; rw [ho]) (Mr H (hT t ti hti) hki hz hzv (hst x (by simp [Op.operands]) x' hx') hr)
  | _ => rw [ho] at hr; cases hr
end
end
end Go.Proofs.Ythcfmklkbakkpaa
set_option linter.unusedSimpArgs false
set_option linter.unusedVariables false
namespace Go.Proofs.Ythcfmklkbakkpaa
noncomputable section
open Go
def eh (h : Hp) : R → R
  | .ok v _ => .ok v h
  | .no => .no
def Kr (g : Hp → R) : Prop := ∀ h h2 : Hp, h2.bl = h.bl → g h2 = eh h2 (g h)
def Kp (g : OpF) : Prop := ∀ F e, Kr (g F e)
theorem Kr.same {g : Hp → R} (k : Kr g) {h h' : Hp} {v : Value} (hr : g h = .ok v h') : h' = h := by
  have := k h h rfl
  rw [hr] at this
  have : (R.ok v h') = .ok v h := this
  cases this; rfl
theorem Kr.at {g : Hp → R} (k : Kr g) {h h' : Hp} {v : Value} (hr : g h = .ok v h') (h2 : Hp) (hb : h2.bl = h.bl) : g h2 = .ok v h2 := by
  rw [k h h2 hb, hr]; rfl
theorem Kr.no : Kr fun _ => .no := fun _ _ _ => rfl
theorem Kr.ok (v : Value) : Kr fun h => .ok v h := fun _ _ _ => rfl
theorem Kr.bif {c : Bool} {a b : Hp → R} (ka : Kr a) (kb : Kr b) : Kr fun h => bif c then a h else b h := by
  cases c
  · exact kb
  · exact ka
theorem Kr.forceV {v : Value} {k : Value → Hp → R} (hk : ∀ v, Kr (k v)) : Kr fun h => forceV v fun v => k v h := by
  intro h h2 hb; simp only [BR]; exact hk v h h2 hb
theorem Kr.forceL {v : List Value} {k : List Value → Hp → R} (hk : ∀ v, Kr (k v)) : Kr fun h => forceL v fun v => k v h := by
  intro h h2 hb; simp only [B8]; exact hk v h h2 hb
theorem Kr.forceN {v : Nat} {k : Nat → Hp → R} (hk : ∀ v, Kr (k v)) : Kr fun h => forceN v fun v => k v h := by
  intro h h2 hb; simp only [A1]; exact hk v h h2 hb
theorem Kr.okI (k : IntKind) (n : Int) : Kr fun h => okI k n h := fun h h2 _ => by simp only [Fb]; rfl
theorem Kr.moveR (v : Value) : Kr fun h => moveR v h := fun h h2 _ => by simp only [Dq]; rfl
theorem Kr.okB (b : Bool) : Kr fun h => okB b h := by cases b <;> exact .ok _
theorem Kr.row {b : Nat} {k : VT → Nat → Nat → Hp → R} {z : Hp → R} (hk : ∀ c s e, Kr (k c s e)) (hz : Kr z) : Kr fun h => match rowOf h b with
    | .ok c s e => k c s e h
    | .no => z h := by
  intro h h2 hb
  have : rowOf h2 b = rowOf h b := by unfold rowOf; rw [hb]
  simp only [this]
  cases rowOf h b with
  | ok c s e => exact hk c s e h h2 hb
  | no => exact hz h h2 hb
theorem Kr.ents {b : Nat} {k : List Ent → Nat → Hp → R} {z : Hp → R} (hk : ∀ c s, Kr (k c s)) (hz : Kr z) : Kr fun h => match Cj h b with
    | .ok c s => k c s h
    | .no => z h := by
  intro h h2 hb
  have : Cj h2 b = Cj h b := by unfold Cj; rw [hb]
  simp only [this]
  cases Cj h b with
  | ok c s => exact hk c s h h2 hb
  | no => exact hz h h2 hb
theorem Np {c : VT} {off : Nat} {k : List Value → Hp → R} (hk : ∀ l, Kr (k l)) (n : Nat) (acc : List Value) : Kr fun h => Me c off (fun l => k l h) n acc := by
  intro h h2 hb; simp only [EK]; exact hk _ h h2 hb
theorem FP {e : Env} {x : Option O} {d y : Nat} {k : Nat → Hp → R} (hk : ∀ n, Kr (k n)) : Kr fun h => DY e x d y fun n => k n h := by
  unfold DY
  cases x with
  | none => exact hk d
  | some o =>
    simp only
    cases DD (o e) with
    | no => exact .no
    | ok n => exact .bif (hk n) .no
theorem Gw {e : Env} {l c : Nat} {lo hi mx : Option O} {k : Nat → Nat → Nat → Hp → R} (hk : ∀ a b c, Kr (k a b c)) : Kr fun h => EW e l c lo hi mx fun a b c => k a b c h := by
  unfold EW
  cases mx with
  | none => exact FP (k := fun hh h => DY e lo 0 hh fun l => k l hh c h) fun hh => FP (k := fun l h => k l hh c h) fun l => hk l hh c
  | some m =>
    refine FP (k := fun m h => _) fun m => ?_
    cases hi with
    | none => exact .no
    | some hh => exact FP (k := fun hh h => DY e lo 0 hh fun l => k l hh m h) fun hh => FP (k := fun l h => k l hh m h) fun l => hk l hh m
theorem FD {a : Option Addr} {s l hh m : Nat} : Kr fun h => CU a s l hh m h := by
  unfold CU
  refine .forceN (k := fun n h => _) fun n => .forceN (k := fun c h => _) fun c => ?_
  cases Nat.beq m l with
  | true => exact .ok _
  | false =>
    cases a with
    | none => exact .ok _
    | some a =>
      simp only
      cases Nat.mul l s with
      | zero => exact .ok _
      | succ m => exact .forceN (k := fun o h => _) fun o => .ok _
theorem Lg {g : Bool} {s : Nat} {cs : List Value} {off : Nat} : Kr fun h => Jh g s cs off h := by
  unfold Jh
  cases g with
  | true => exact .forceL (k := fun l h => _) fun l => .ok _
  | false =>
    simp only
    cases nth cs off with
    | none => exact .no
    | some v => exact .forceV (k := fun l h => _) fun l => .ok _
theorem Kn {e : Env} {k : List Value → Hp → R} (hk : ∀ l, Kr (k l)) : ∀ (ps : List (Nat × Nat × O)) (cs : List Value), Kr fun h => DZ cs e (fun l => k l h) ps
  | [], cs => by
    unfold DZ; exact .forceL (k := k) hk
  | (off, size, x) :: ps, cs => by
    unfold DZ
    exact .forceV (k := fun v h => _) fun v => .bif (.bif (.bif (Kn hk ps _) .no) .no) .no
theorem IV {ok : Bool} {v : Value} {b : Bool} : Kr fun h => DA ok v b h := by
  unfold DA
  cases ok
  · exact .forceV (k := fun v h => _) fun v => .ok _
  · exact .forceV (k := fun v h => _) fun v => .ok _
theorem Li {a : Addr} {n : Nat} : Kr fun h => Ji a n h := .forceN (k := fun o h => _) fun o => .ok _
theorem L2 {size : Nat} {v : Value} {n : Nat} {k : List Value → Hp → R} (hk : ∀ l, Kr (k l)) : Kr fun h => BO h size v n fun l => k l h := by
  unfold BO
  cases v with
  | slice a l c =>
    cases a with
    | none => exact hk []
    | some a => exact .row (k := fun c s _ h => bif Nat.ble (Nat.add a.off (Nat.mul n size)) s then Me c a.off (fun l => k l h) (Nat.mul n size) [] else .no) (z := fun _ => .no) (fun c s _ => .bif (Np hk _ _) .no) .no
  | string s => exact .bif (hk _) .no
  | chan c =>
    cases c with
    | none => exact .no
    | some r => exact hk []
  | _ => exact .no
end
end Go.Proofs.Ythcfmklkbakkpaa
set_option linter.unusedSimpArgs false
set_option linter.unusedVariables false
namespace Go.Proofs.Ythcfmklkbakkpaa
noncomputable section
open Go
theorem Kp.oNo : Kp oNo := fun _ _ => .no
theorem Kp.w1 {f : Fr} {x : Operand} {k : O → OpF} (hk : ∀ y, Kp (k y)) : Kp (w1 f x k) := by
  unfold Go.Proofs.Ythcfmklkbakkpaa.w1; split
  · exact hk _
  · exact .oNo
theorem Kp.w2 {f : Fr} {x y : Operand} {k : O → O → OpF} (hk : ∀ x y, Kp (k x y)) : Kp (w2 f x y k) := .w1 fun x => .w1 fun y => hk x y
theorem Kp.wTy {ty : TTy} {t : Nat} {k : TI → OpF} (hk : ∀ ti, ty.get t = some ti → Kp (k ti)) : Kp (wTy ty t k) := by
  unfold Go.Proofs.Ythcfmklkbakkpaa.wTy; split
  · rename_i ti h; exact hk ti h
  · exact .oNo
theorem Kp.wZ {ti : TI} {k : OpF} (hk : Kp k) : Kp (wZ ti k) := by
  unfold Go.Proofs.Ythcfmklkbakkpaa.wZ; split
  · exact hk
  · exact .oNo
theorem Kp.wZero {ti : TI} {k : Value → OpF} (hk : ∀ z, Kp (k z)) : Kp (wZero ti k) := by
  unfold Go.Proofs.Ythcfmklkbakkpaa.wZero; split
  · exact hk _
  · exact .oNo
theorem Kp.wKey {ty : TTy} {t : Nat} {k : KS → OpF} (hk : ∀ z, Kp (k z)) : Kp (wKey ty t k) := by
  unfold Go.Proofs.Ythcfmklkbakkpaa.wKey
  refine .wTy fun ti _ => ?_
  split
  · refine .wTy fun ki _ => ?_
    split
    · exact hk _
    · exact .oNo
  · exact .oNo
section
variable {x y z : O}
theorem Ig : Kp (AG x) := fun F e => .moveR _
theorem Q2 : Kp (AP x y z) := fun F e => by
  show Kr fun h => RH (x e) (y e) (z e) h
  cases x e with
  | bool t => cases t <;> exact .moveR _
  | _ => exact .no
theorem Jd {zs : List Value} {ps : List (Nat × Nat × O)} : Kp (BB zs ps) := fun F e => Kn (k := fun cs h => .ok (.agg ⟨cs⟩) h) (fun l => .ok _) ps zs
theorem UJ : Kp (B0 x) := fun F e => by
  show Kr fun h => Oq (x e) h
  unfold Oq
  cases x e with
  | pointer a => cases a; exact .no; exact .ok _
  | func f a b => cases f <;> first | exact .ok _ | exact .no
  | slice a n c => exact .ok _
  | map m => exact .ok _
  | iface t v => exact .forceV (k := fun v h => .ok (.iface t v) h) fun v => .ok _
  | _ => exact .no
theorem Ts {f : Int → Int → Bool} {k : IntKind} : Kp (AO f k x y) := fun F e => by
  show Kr fun h => Se f (CF k (x e)) (CF k (y e)) h
  cases CF k (x e) with
  | no => exact .no
  | ok a => cases CF k (y e) with
    | no => exact .no
    | ok b => exact .okB _
theorem Ti {f : Int → Int → Int} {k : IntKind} : Kp (DK f k x y) := fun F e => by
  show Kr fun h => Vu f k (CF k (x e)) (CF k (y e)) h
  cases CF k (x e) with
  | no => exact .no
  | ok a => cases CF k (y e) with
    | no => exact .no
    | ok b => exact .okI _ _
theorem Tg {k : IntKind} {top : Nat} : Kp (BD k top x y) := fun F e => by
  show Kr fun h => SE k top (CF k (x e)) (CF k (y e)) h
  cases CF k (x e) with
  | no => exact .no
  | ok a => cases CF k (y e) with
    | no => exact .no
    | ok b =>
      cases a with
      | negSucc _ => exact .okI _ _
      | ofNat a => cases b with
        | negSucc _ => exact .okI _ _
        | ofNat b =>
          unfold SE
          simp only
          cases Nat.ble (Nat.add a b) top with
          | true => exact .forceN (k := fun n h => .ok (.int k (.ofNat n)) h) fun n => .ok _
          | false => exact .okI _ _
theorem Tx {k : IntKind} : Kp (Ql k x y) := fun F e => by
  show Kr fun h => St k (CF k (x e)) (CF k (y e)) h
  unfold St
  cases CF k (x e) with
  | no => exact .no
  | ok a => cases CF k (y e) with
    | no => exact .no
    | ok b => exact .bif .no (.okI _ _)
theorem UN {k : IntKind} : Kp (E7 k x y) := fun F e => by
  show Kr fun h => RL k (CF k (x e)) (CF k (y e)) h
  unfold RL
  cases CF k (x e) with
  | no => exact .no
  | ok a => cases CF k (y e) with
    | no => exact .no
    | ok b => exact .bif .no (.okI _ _)
theorem Tl {f : Nat → Nat → Nat} {k : IntKind} : Kp (KJ f k x y) := fun F e => by
  show Kr fun h => SP f k (F2 k (x e)) (F2 k (y e)) h
  unfold SP
  cases F2 k (x e) with
  | no => exact .no
  | ok a => cases F2 k (y e) with
    | no => exact .no
    | ok b => exact .bif (.bif (.okI _ _) .no) .no
theorem UP {k : IntKind} : Kp (Q6 k x y) := fun F e => by
  show Kr fun h => Uf k (F2 k (x e)) (DD (y e)) h
  unfold Uf
  cases F2 k (x e) with
  | no => exact .no
  | ok a => cases DD (y e) with
    | no => exact .no
    | ok b => exact .okI _ _
theorem UR {k : IntKind} : Kp (NH k x y) := fun F e => by
  show Kr fun h => Ug k (F2 k (x e)) (DD (y e)) h
  unfold Ug
  cases F2 k (x e) with
  | no => exact .no
  | ok a => cases DD (y e) with
    | no => exact .no
    | ok b => exact .okI _ _
theorem UU {f : List UInt8 → List UInt8 → Bool} : Kp (HG f x y) := fun F e => by
  show Kr fun h => Rp f (x e) (y e) h
  unfold Rp
  cases x e with
  | string a => cases y e with
    | string b => exact .okB _
    | _ => exact .no
  | _ => exact .no
theorem Tp : Kp (To x y) := fun F e => by
  show Kr fun h => Sa (x e) (y e) h
  unfold Sa
  cases x e with
  | string a => cases y e with
    | string b => exact .bif (.ok _) .no
    | _ => exact .no
  | _ => exact .no
theorem ZL {k : TK} {n : Bool} : Kp (oEq k n x y) := fun F e => by
  unfold oEq
  cases eqV k (x e) (y e) with
  | some r => exact .okB _
  | none => exact .no
theorem Q1 {n : Bool} : Kp (Je n x) := fun F e => by
  show Kr fun h => Qa n (x e) h
  unfold Qa
  cases x e <;> first | exact .okB _ | exact .no
theorem OB {k : KS} {n : Bool} : Kp (Gh k n x y) := fun F e => by
  unfold Gh
  cases eqC k (x e) (y e) with
  | some r => exact .okB _
  | none => exact .no
theorem UL : Kp (A8 x) := fun F e => by
  unfold A8
  cases x e with
  | bool b => exact .okB _
  | _ => exact .no
theorem Tt : Kp (Qk x) := fun F e => by
  unfold Qk
  cases F2 .u8 (x e) with
  | no => exact .no
  | ok n => exact .bif (.okI _ _) .no
theorem UH {k : IntKind} : Kp (Qy k x) := fun F e => by
  unfold Qy
  cases CF k (x e) with
  | no => exact .no
  | ok n => exact .okI _ _
theorem Qg {k : IntKind} : Kp (CV k x) := fun F e => by
  unfold CV
  cases On (x e) with
  | no => exact .no
  | ok n => exact .okI _ _
theorem Q4 : Kp (La x) := fun F e => by
  unfold La
  cases x e with
  | string b => exact .ok _
  | _ => exact .no
theorem PI : Kp (EZ x) := fun F e => by
  unfold EZ
  cases x e with
  | slice a n c =>
    refine L2 (k := fun cs h => match Dl cs with | some bs => .ok (.string ⟨⟨bs⟩⟩) h | none => .no) fun l => ?_
    cases Dl l with
    | some bs => exact .ok _
    | none => exact .no
  | _ => exact .no
theorem O9 {t : Nat} : Kp (Ie t x) := fun F e => .forceV (k := fun v h => .ok (.iface t v) h) fun v => .ok _
theorem Qo {fn : Fn} {a b : List O} : Kp (Dr fn a b) := fun F e => .forceL (k := fun f h => forceL (vals e b) fun c => .ok (.func fn ⟨f⟩ ⟨c⟩) h) fun f => .forceL (k := fun c h => .ok (.func fn ⟨f⟩ ⟨c⟩) h) fun c => .ok _
theorem My {lo hi : Option O} : Kp (Fu x lo hi) := fun F e => by
  unfold Fu
  cases x e with
  | string s => exact Gw (k := fun l hh _ h => .ok (.string ⟨⟨HY (Nat.sub hh l) (IC l s.data.toList)⟩⟩) h) fun a b c => .ok _
  | _ => exact .no
theorem Sh {el s : Nat} {a : Option Addr} {mx : Bool} {l hh m : Nat} : Kr fun h => GA el s a mx l hh m h := by
  unfold GA
  cases mx with
  | true => exact FD
  | false =>
    cases l with
    | zero => exact FD
    | succ l =>
      intro h h2 hb
      have : F5 el a h2 = F5 el a h := by
        unfold F5
        cases a with
        | none => rfl
        | some a =>
          have : rowOf h2 a.block = rowOf h a.block := by unfold rowOf; rw [hb]
          simp only [this]
      simp only [this]
      cases F5 el a h with
      | true => exact FD h h2 hb
      | false => rfl
theorem Tv {el s : Nat} {lo hi mx : Option O} : Kp (Cv el s x lo hi mx) := fun F e => by
  unfold Cv
  cases x e with
  | slice a n c => exact Gw (k := fun l hh m h => GA el s a mx.isSome l hh m h) fun _ _ _ => Sh
  | _ => exact .no
theorem Mv {n s : Nat} {lo hi mx : Option O} : Kp (Gg n s x lo hi mx) := fun F e => by
  unfold Gg
  cases DL (x e) with
  | ok a => exact Gw (k := fun l hh m h => CU (some a) s l hh m h) fun _ _ _ => FD
  | no => exact .no
theorem Iz {o : Nat} : Kp (AD o x) := fun F e => by
  unfold AD
  cases DL (x e) with
  | ok a => exact Li
  | no => exact .no
theorem O1 {g : Bool} {s o : Nat} : Kp (HF g s o x) := fun F e => by
  unfold HF
  cases x e with
  | agg cs => exact Lg
  | _ => exact .no
theorem Ns {n s : Nat} {a : AA} {i : NN} : Kr fun h => Ix n s a i h := by
  unfold Ix
  cases i with
  | no => exact .no
  | ok i =>
    simp only
    cases Nat.blt i n with
    | false => exact .no
    | true =>
      cases a with
      | no => exact .no
      | ok a => exact Li
theorem NA {n s : Nat} : Kp (CT n s x y) := fun F e => Ns
theorem Tz {s : Nat} : Kp (Ay s x y) := fun F e => by
  unfold Ay
  cases x e with
  | slice a n c => cases a; exact .no; exact Ns
  | _ => exact .no
theorem ZJ {g : Bool} {n s : Nat} : Kp (oAt g n s x y) := fun F e => by
  show Kr fun h => atF g n s (x e) (DD (y e)) h
  unfold atF
  cases DD (y e) with
  | no => exact .no
  | ok i =>
    refine .bif ?_ .no
    cases x e with
    | agg cs => exact Lg
    | _ => exact .no
theorem Ou : Kp (Ic x y) := fun F e => by
  show Kr fun h => Jv (x e) (DD (y e)) h
  unfold Jv
  cases DD (y e) with
  | no => exact .no
  | ok i =>
    simp only
    cases x e with
    | string s =>
      simp only
      cases nth s.data.toList i with
      | some b => exact .okI _ _
      | none => exact .no
    | _ => exact .no
theorem LT {i : Nat} : Kp (Ai i x) := fun F e => by
  unfold Ai
  cases x e with
  | tuple vs =>
    simp only
    cases nth vs.toList i with
    | some v => exact .forceV (k := fun v h => .ok v h) fun v => .ok v
    | none => exact .no
  | _ => exact .no
theorem Tj {n : Nat} : Kp (Qb n x) := fun F e => by
  unfold Qb
  cases x e with
  | slice a l c => cases a; exact .no; exact .bif (.ok _) .no
  | _ => exact .no
theorem Qs : Kp (Ak x) := fun F e => by
  unfold Ak
  cases x e with
  | slice a n c => exact .ok _
  | chan o => cases o; exact .no; exact .ok _
  | _ => exact .no
theorem Qu : Kp (LW x) := fun F e => by
  unfold LW
  cases x e with
  | string s => exact .forceN (k := fun n h => .ok (.int .i64 (.ofNat n)) h) fun n => .ok _
  | _ => exact .no
theorem Qq : Kp (LV x) := fun F e => by
  unfold LV
  cases x e with
  | map r =>
    cases r with
    | none => exact .ok _
    | some r => exact .ents (k := fun es _ h => forceN (Bk es) fun n => .ok (.int .i64 (.ofNat n)) h) (z := fun _ => .no) (fun es _ => .forceN (k := fun n h => .ok (.int .i64 (.ofNat n)) h) fun n => .ok _) .no
  | _ => exact .no
theorem JX {l : Bool} {a b : Value} : Kr fun h => GF l a b h := by
  unfold GF
  cases a with
  | int k a =>
    simp only
    cases On b with
    | no => exact .no
    | ok b => exact .bif (.ok _) (.ok _)
  | _ => exact .no
theorem UF : Kp (NF x y) := fun F e => JX
theorem UD : Kp (ZN x y) := fun F e => JX
theorem PB : Kp (AH x) := fun F e => by
  unfold AH
  cases DL (x e) with
  | no => exact .no
  | ok a =>
    intro h h2 hb
    show load1 a h2 = eh h2 (load1 a h)
    have : rowOf h2 a.block = rowOf h a.block := by unfold rowOf; rw [hb]
    unfold load1
    rw [this]
    cases rowOf h a.block with
    | no => rfl
    | ok c s t =>
      simp only
      cases Nat.blt a.off s with
      | false => rfl
      | true => simp only [BR]; rfl
theorem PD {n : Nat} : Kp (AL n x) := fun F e => by
  unfold AL
  cases DL (x e) with
  | no => exact .no
  | ok a => exact .row (k := fun c s _ h => bif Nat.ble (Nat.add a.off n) s then Me c a.off (fun l => .ok (.agg ⟨l⟩) h) n [] else .no) (z := fun _ => .no) (fun c s _ => .bif (Np (k := fun l h => .ok (.agg ⟨l⟩) h) (fun l => .ok _) _ _) .no) .no
theorem ND {K : KS} {zv : Value} {ok : Bool} : Kp (Hq K zv ok x y) := fun F e => by
  show Kr fun h => Hi K zv (x e) (y e) ok h
  unfold Hi
  cases EF K (y e) with
  | false => exact .no
  | true =>
    simp only
    cases x e with
    | map r =>
      cases r with
      | none => exact IV
      | some r =>
        refine .ents (k := fun es _ h => match JE K (y e) es with
          | some (some en) => DA ok en.val true h
          | some none => DA ok zv false h
          | none => .no) (z := fun _ => .no) (fun es _ => ?_) .no
        cases JE K (y e) es with
        | none => exact .no
        | some o => cases o <;> exact IV
    | _ => exact .no
end
section
variable {ty : TTy} {f : Fr}
theorem SO {op : BinOp} {t : Nat} {x y : Operand} : Kp (Pp ty f op t x y) := by
  unfold Pp
  refine .wTy fun ti _ => .w2 fun x y => ?_
  split
  · split
    · cases op <;> first | exact Q1 | exact .oNo
    · exact .oNo
  · cases op <;> first | exact Tg | exact Ti | exact Tx | exact UN | exact Tl | exact UP | exact UR | exact Ts | exact .oNo
  · cases op <;> first | exact Tp | exact UU | exact .oNo
  · split
    · cases op <;> first | exact OB | exact .oNo
    · exact .oNo
  · split
    · cases op <;> first | exact OB | exact .oNo
    · exact .oNo
  · cases op <;> first | exact ZL | exact .oNo
theorem ZO {op : Op} (hk : kd ty op = .p ∨ ∃ x, kd ty op = .r x) : Kp (opC ty f op) := by
  cases op with
  | move x => exact .w1 fun x => Ig
  | assign x => exact .w1 fun x => Ig
  | pick c a b => exact .w1 fun c => .w2 fun a b => Q2
  | build t ps =>
    refine .wTy fun ti _ => .wZ ?_
    split
    · split
      · exact Jd
      · exact .oNo
    · refine .wTy fun ei _ => ?_
      split
      · exact Jd
      · exact .oNo
    · exact .oNo
  | load t x =>
    refine .wTy fun ti _ => .w1 fun x => ?_
    split
    · exact PD
    · exact PB
  | nilCheck x => exact .w1 fun x => UJ
  | binOp op t x y u => exact SO
  | unOp op t x =>
    refine .wTy fun ti _ => .w1 fun x => ?_
    split <;> first | exact UL | exact UH | exact Tt | exact .oNo
  | convert src dst x =>
    refine .wTy fun si hsi => .wTy fun di hdi => .w1 fun x => ?_
    split
    · exact Qg
    · exact Q4
    · refine .wTy fun ei _ => ?_
      split
      · exact PI
      · exact .oNo
    · rename_i hd hs
      exfalso
      simp only [kd] at hk
      cases hb : Nat.beq src dst with
      | true => simp only [hb] at hk; rcases hk with hk | ⟨_, hk⟩ <;> cases hk
      | false =>
        have h1 : IU ty src = false := by unfold IU; rw [hsi]; simp only [hs]
        have h2 : FX ty dst = true := by unfold FX; rw [hdi]; simp only [hd]
        simp only [hb, h1, h2] at hk
        rcases hk with hk | ⟨_, hk⟩ <;> cases hk
    · rename_i hs hd
      split
      · rename_i hb
        exfalso
        simp only [kd, hb] at hk
        rcases hk with hk | ⟨_, hk⟩ <;> cases hk
      · exact .oNo
    · exact .oNo
  | makeInterface t x =>
    refine .wTy fun ti _ => .w1 fun x => ?_
    split
    · exact .oNo
    · exact O9
  | makeFunc fn a b =>
    show Kp (match cOs f a.toList, cOs f b.toList with
      | some fs, some c => Dr fn fs c
      | _, _ => oNo)
    split
    · exact Qo
    · exact .oNo
  | slice t x lo hi mx =>
    refine .wTy fun ti _ => .w1 fun x => ?_
    split
    · split
      · split
        · exact My
        · exact .oNo
      · exact .wTy fun ei _ => Tv
      · exact .wTy fun ei _ => Mv
      · exact .oNo
    · exact .oNo
  | fieldAddr t x i =>
    refine .wTy fun ti _ => .w1 fun x => ?_
    split
    · split <;> first | exact Iz | exact .oNo
    · exact .oNo
  | field t x i =>
    refine .wTy fun ti _ => .w1 fun x => ?_
    split
    · split
      · exact .wTy fun fi _ => O1
      · exact .oNo
    · exact .oNo
  | indexAddr t x i =>
    refine .wTy fun ti _ => .w2 fun x y => ?_
    split
    · exact .wTy fun fi _ => NA
    · exact .wTy fun fi _ => Tz
    · exact .oNo
  | index t x i =>
    refine .wTy fun ti _ => .w2 fun x y => ?_
    split
    · exact .wTy fun fi _ => ZJ
    · exact Ou
    · exact .oNo
  | lookup t x i ok =>
    refine .wTy fun ti _ => .w2 fun x y => ?_
    split
    · exact .wTy fun ei _ => .wZ (.wZero fun z => .wKey fun ks => ND)
    · exact .oNo
  | extract t i => exact .w1 fun t => LT
  | sliceToArrayPointer t x =>
    refine .wTy fun ti _ => ?_
    split
    · exact .w1 fun x => Tj
    · exact .oNo
  | call c =>
    simp only [kd] at hk
    cases hc : c.callee with
    | builtin b =>
      show Kp (match cOs f c.args.toList with
        | some args => match c.callee with
          | .builtin b => Gx ty b c.argTypes.toList args
          | .value g => match g with
            | .func g => AX g args
            | g => w1 f g fun g => C0 g args
          | .invoke recv name => w1 f recv fun x => Ho (ty.meths name fun k => k) x args
        | none => oNo)
      split
      · rename_i args ha
        simp only [hc]
        cases b with
        | len =>
          unfold Gx
          split <;> rename_i h1 <;> first | (cases h1; done) | skip
          all_goals (try (exact .oNo))
          split
          · refine .wTy fun ti _ => ?_
            split
            · exact Qs
            · exact Qu
            · exact Qq
            · exact Ig
            · exact .oNo
          · exact .oNo
        | min =>
          unfold Gx
          split <;> rename_i h1 <;> first | (cases h1; done) | exact UF | exact .oNo
        | max =>
          unfold Gx
          split <;> rename_i h1 <;> first | (cases h1; done) | exact UD | exact .oNo
        | _ =>
          exfalso
          simp only [hc] at hk
          cases hl : c.args.toList with
          | nil => simp only [hl] at hk; rcases hk with hk | ⟨_, hk⟩ <;> cases hk
          | cons _ _ => simp only [hl] at hk; rcases hk with hk | ⟨_, hk⟩ <;> cases hk
      · exact .oNo
    | _ =>
      exfalso
      simp only [hc] at hk
      rcases hk with hk | ⟨_, hk⟩ <;> cases hk
  | _ => first | exact .oNo | (exfalso; rcases hk with hk | ⟨_, hk⟩ <;> cases hk)
end
end
end Go.Proofs.Ythcfmklkbakkpaa
set_option linter.unusedSimpArgs false
set_option linter.unusedVariables false
namespace Go.Proofs.Ythcfmklkbakkpaa
noncomputable section
open Go
abbrev Rho := Nat → Option Value
def rhoOf (A : List Nat) (σ : Sg) (e : Env) : Rho := fun t => match L3 A σ (.tmp t) with
  | some s => some (I8 s e)
  | none => none
def evR (ρ : Rho) : Operand → Option Value
  | .tmp t => ρ t
  | .const v => if D9 v then some v else none
  | .func g => some (.func (.func g) #[] #[])
  | .global _ => none
theorem Ds (A : List Nat) (σ : Sg) (e : Env) (t : Nat) : rhoOf A σ e t = match Ck t σ with
    | some s => some (I8 s e)
    | none => match memN t A with
      | true => none
      | false => match Nat.blt t 320 with
        | true => some (AB t e)
        | false => none := by
  show (match L3 A σ (.tmp t) with | some s => some (I8 s e) | none => none) = _
  show (match (match Ck t σ with | some s => some s | none => match memN t A with | true => none | false => match Nat.blt t 320 with | true => some (Src.s t) | false => none) with | some s => some (I8 s e) | none => none) = _
  cases Ck t σ with
  | some s => rfl
  | none =>
    cases memN t A with
    | true => rfl
    | false => cases Nat.blt t 320 <;> rfl
theorem Ro {A : List Nat} {σ : Sg} {x : Operand} {s : Src} (h : L3 A σ x = some s) (e : Env) : evR (rhoOf A σ e) x = some (I8 s e) := by
  cases x with
  | tmp t => show (match L3 A σ (.tmp t) with | some s => some (I8 s e) | none => none) = _; rw [h]
  | const v =>
    have h : (match D9 v with | true => some (Src.c v) | false => none) = some s := h
    cases hp : D9 v with
    | true => rw [hp] at h; cases h; show (if D9 v then some v else none) = _; rw [if_pos hp]; rfl
    | false => rw [hp] at h; cases h
  | func g => cases h; rfl
  | global _ => cases h
theorem XS {f : Fr} {x : Operand} {y : O} (h : cO f x = some y) : ∃ s, L3 f.A f.σ x = some s ∧ y = I8 s := by
  unfold cO at h
  split at h
  · rename_i s hs; cases h; exact ⟨s, hs, rfl⟩
  · cases h
theorem EI {A : List Nat} {σ : Sg} {x : Operand} {y : O} (h : cO ⟨A, σ⟩ x = some y) (e : Env) : evR (rhoOf A σ e) x = some (y e) := by
  obtain ⟨s, hs, rfl⟩ := XS h
  exact Ro hs e
theorem Il {φ : Phi} {v : Value} (h : D9 v = true) : RelV φ v v := by
  unfold D9 at h
  split at h
  · rename_i cs
    exact .agg (l := cs.toList) (l' := cs.toList) (.plain h)
  · exact .plain h
structure SgOk (A : List Nat) (σ : Sg) : Prop where
  mem : ∀ p ∈ σ, memN p.1 A = true
  nodup : (σ.map (·.1)).Nodup
  lt : ∀ p ∈ σ, ∀ n, p.2 = .s n → n < 320
theorem SgOk.nil (A : List Nat) : SgOk A [] where
  mem := fun p hp => by cases hp
  nodup := List.nodup_nil
  lt := fun p hp => by cases hp
theorem Ee {a b : Nat} (h : Nat.beq a b = false) : a ≠ b := fun e => by rw [e, Nat.beq_refl] at h; cases h
theorem Dc : ∀ {σ : Sg} {t : Nat} {s : Src}, Ck t σ = some s → (t, s) ∈ σ
  | (d, s') :: l, t, s, h => by
    unfold Ck at h
    split at h
    · rename_i hb
      cases h
      have := A2.1 hb
      subst this; exact List.mem_cons_self
    · exact List.mem_cons_of_mem _ (Dc h)
theorem Dx : ∀ {σ : Sg} {t : Nat} {s : Src}, (σ.map (·.1)).Nodup → (t, s) ∈ σ → Ck t σ = some s
  | (d, s') :: l, t, s, hn, h => by
    unfold Ck
    rw [List.map_cons, List.nodup_cons] at hn
    rcases List.mem_cons.1 h with h | h
    · cases h
      rw [Nat.beq_refl]
    · have : d ≠ t := by
        intro e; subst e
        exact hn.1 (List.mem_map.2 ⟨_, h, rfl⟩)
      have hb : Nat.beq d t = false := by
        cases hb : Nat.beq d t with
        | true => exact absurd (A2.1 hb) this
        | false => rfl
      rw [hb]; exact Dx hn.2 h
theorem Db : ∀ {σ : Sg} {d : Nat}, (Eg d σ).Sublist σ ∧ ∀ p ∈ Eg d σ, p.2 ≠ .s d
  | [], d => ⟨.slnil, fun p hp => by cases hp⟩
  | (t, .s n) :: l, d => by
    obtain ⟨h1, h2⟩ := Db (σ := l) (d := d)
    unfold Eg
    split
    · exact ⟨h1.cons _, h2⟩
    · rename_i hb
      refine ⟨h1.cons_cons _, fun p hp => ?_⟩
      rcases List.mem_cons.1 hp with rfl | hp
      · intro e; cases e; exact Ee hb rfl
      · exact h2 p hp
  | (t, .c v) :: l, d => by
    obtain ⟨h1, h2⟩ := Db (σ := l) (d := d)
    unfold Eg
    refine ⟨h1.cons_cons _, fun p hp => ?_⟩
    rcases List.mem_cons.1 hp with rfl | hp
    · intro e; cases e
    · exact h2 p hp
theorem Eu : ∀ {σ : Sg} {d : Nat}, (EE d σ).Sublist σ ∧ ∀ p ∈ EE d σ, p.1 ≠ d
  | [], d => ⟨.slnil, fun p hp => by cases hp⟩
  | (t, s) :: l, d => by
    obtain ⟨h1, h2⟩ := Eu (σ := l) (d := d)
    unfold EE
    split
    · exact ⟨h1.cons _, h2⟩
    · rename_i hb
      refine ⟨h1.cons_cons _, fun p hp => ?_⟩
      rcases List.mem_cons.1 hp with rfl | hp
      · exact Ee hb
      · exact h2 p hp
theorem SgOk.sub {A : List Nat} {σ σ' : Sg} (h : SgOk A σ) (hs : σ'.Sublist σ) : SgOk A σ' :=
  ⟨fun p hp => h.mem p (hs.subset hp), (hs.map (·.1)).nodup h.nodup, fun p hp => h.lt p (hs.subset hp)⟩
theorem SgOk.alias {A : List Nat} {σ : Sg} (h : SgOk A σ) {d : Nat} (hd : memN d A = true) {s : Src} (hs : ∀ n, s = .s n → n < 320) : SgOk A ((d, s) :: EE d σ) := by
  have h' := h.sub (Eu (d := d)).1
  refine ⟨fun p hp => ?_, ?_, fun p hp => ?_⟩
  · rcases List.mem_cons.1 hp with rfl | hp
    · exact hd
    · exact h'.mem p hp
  rotate_left
  · rcases List.mem_cons.1 hp with rfl | hp
    · exact hs
    · exact h'.lt p hp
  · rw [List.map_cons, List.nodup_cons]
    refine ⟨fun hm => ?_, h'.nodup⟩
    obtain ⟨p, hp, e⟩ := List.mem_map.1 hm
    exact (Eu (d := d)).2 p hp e
theorem UX {A : List Nat} {σ : Sg} {e : Env} (hS : SgOk A σ) {d : Nat} (hd : memN d A = false) (hlt : d < 320) (v : Value) {t : Nat} {u : Value}
    (h : rhoOf A (Eg d σ) (Env.set d v e) t = some u) : if t = d then u = v else rhoOf A σ e t = some u := by
  rw [Ds] at h
  cases hf : Ck t (Eg d σ) with
  | some s =>
    simp only [hf] at h
    cases h
    have hm := Dc hf
    have hm' := Db.1.subset hm
    have hne := (Db (σ := σ) (d := d)).2 _ hm
    have hA := hS.mem _ hm'
    have ht : t ≠ d := by intro e; subst e; simp only at hA; rw [hd] at hA; cases hA
    rw [if_neg ht, Ds, Dx hS.nodup hm']
    simp only
    congr 1
    cases s with
    | c v => rfl
    | s n =>
      have hn : n ≠ d := fun e => hne (by rw [e])
      show AB n e = AB n (Env.set d v e)
      have h3 : n < 320 := hS.lt _ hm' n rfl
      rw [EC n h3, EC n h3, Env.get_set _ _ _ _ hlt h3, if_neg hn]
  | none =>
    simp only [hf] at h
    cases hm : memN t A with
    | true => simp only [hm] at h; cases h
    | false =>
      simp only [hm] at h
      cases hb : Nat.blt t 320 with
      | false => simp only [hb] at h; cases h
      | true =>
        simp only [hb] at h
        have h3 := Bt.1 hb
        cases h
        have hg : AB t (Env.set d v e) = if t = d then v else e.get t := by
          rw [EC t h3, Env.get_set _ _ _ _ hlt h3]
        rw [hg]
        split
        · rfl
        · have hf2 : Ck t σ = none := by
            cases hf2 : Ck t σ with
            | none => rfl
            | some s =>
              have := hS.mem _ (Dc hf2)
              simp only at this; rw [hm] at this; cases this
          rw [Ds]
          simp only [hf2, hm, hb]
          rw [EC t h3]
theorem PL {A : List Nat} {σ : Sg} {e : Env} (hS : SgOk A σ) {d : Nat} (hd : memN d A = true) (s : Src) {t : Nat} {u : Value}
    (h : rhoOf A ((d, s) :: EE d σ) e t = some u) : if t = d then u = I8 s e else rhoOf A σ e t = some u := by
  rw [Ds] at h
  by_cases ht : t = d
  · rw [if_pos ht]
    subst ht
    have : Ck t ((t, s) :: EE t σ) = some s := by unfold Ck; rw [Nat.beq_refl]
    simp only [this] at h
    cases h; rfl
  · rw [if_neg ht]
    have hb : Nat.beq d t = false := by
      cases hb : Nat.beq d t with
      | true => exact absurd (A2.1 hb).symm ht
      | false => rfl
    have h1 : Ck t ((d, s) :: EE d σ) = Ck t (EE d σ) := by conv => lhs; unfold Ck; rw [hb]
    have h2 : Ck t (EE d σ) = Ck t σ := by
      cases hf : Ck t (EE d σ) with
      | some s' => exact (Dx hS.nodup (Eu.1.subset (Dc hf))).symm
      | none =>
        cases hf2 : Ck t σ with
        | none => rfl
        | some s' =>
          have hm := Dc hf2
          have : ∀ {σ : Sg}, (t, s') ∈ σ → (t, s') ∈ EE d σ := by
            intro σ hm
            induction σ with
            | nil => cases hm
            | cons p l ih =>
              obtain ⟨a, b⟩ := p
              unfold EE
              rcases List.mem_cons.1 hm with h | h
              · cases h
                have hb2 : Nat.beq t d = false := by
                  cases hb : Nat.beq t d with
                  | true => exact absurd (A2.1 hb) ht
                  | false => rfl
                rw [hb2]; exact List.mem_cons_self
              · split
                · exact ih h
                · exact List.mem_cons_of_mem _ (ih h)
          have := Dx (hS.sub (Eu (d := d)).1).nodup (this hm)
          rw [hf] at this; cases this
    rw [h1, h2] at h
    rw [Ds]; exact h
structure Eff (T : Nat → Prop) (φ : Phi) (h : Hp) (w : World) (φ' : Phi) (h' : Hp) (w' : World) : Prop where
  le : φ.Le φ'
  new : ∀ i p, φ' i = some p → φ i = some p ∨ h.next ≤ i
  next : h.next ≤ h'.next
  size : w.heap.size ≤ w'.heap.size
  tape : w'.tape = w.tape
  os : w'.os = w.os
  output : w'.output = w.output
  frame : ∀ k, k < w.heap.size → (∀ i p, φ i = some p → p.inp = false → T i → Live h i → p.blk ≠ k) → w'.heap[k]? = w.heap[k]?
  back : ∀ i p, φ' i = some p → Live h' i → p.blk < w.heap.size → ∃ j q, φ j = some q ∧ Live h j ∧ q.blk = p.blk ∧ q.inp = p.inp ∧ (j = i ∨ T j)
  kept : ∀ i, i < h.next → ¬ T i → h'.bl.get i = h.bl.get i
  shape : ∀ i, i < h.next → ShapeLe (h.bl.get i) (h'.bl.get i)
  only : ∀ i, i < h.next → φ i = none → h'.bl.get i = h.bl.get i
  all : ∀ i, h.next ≤ i → i < h'.next → ∃ p, φ' i = some p
theorem Evo.eff {φ ψ : Phi} {h h' : Hp} {w w' : World} (ev : Evo φ h w ψ h' w') : Eff (fun c => h'.low ≤ c ∧ c ≤ h'.high) φ h w ψ h' w' where
  le := ev.le
  new := ev.new
  next := ev.next
  size := ev.size
  tape := ev.tape
  os := ev.os
  output := ev.output
  frame := fun k hk hf => ev.frame k hk fun i p e hn h1 h2 hl => hf i p e hn ⟨h1, h2⟩ hl
  back := ev.back
  kept := fun i hi ht => ev.kept i hi (by
    rcases Nat.lt_or_ge i h'.low with h | h
    · exact .inl h
    · rcases Nat.lt_or_ge h'.high i with h2 | h2
      · exact .inr h2
      · exact absurd ⟨h, h2⟩ ht)
  shape := ev.shape
  only := ev.only
  all := ev.all
theorem Eff.of_bl {T : Nat → Prop} {φ ψ : Phi} {h h' g g' : Hp} {w w' : World} (ev : Eff T φ h w ψ h' w') (h1 : g.bl = h.bl) (h2 : g.next = h.next) (h3 : g'.bl = h'.bl) (h4 : g'.next = h'.next) : Eff T φ g w ψ g' w' where
  le := ev.le
  new := by rw [h2]; exact ev.new
  next := by rw [h2, h4]; exact ev.next
  size := ev.size
  tape := ev.tape
  os := ev.os
  output := ev.output
  frame := by unfold Live; rw [h1]; exact ev.frame
  back := by unfold Live; rw [h1, h3]; exact ev.back
  kept := by rw [h1, h2, h3]; exact ev.kept
  shape := by rw [h1, h2, h3]; exact ev.shape
  only := by rw [h1, h2, h3]; exact ev.only
  all := by rw [h2, h4]; exact ev.all
theorem Eff.evo {T : Nat → Prop} {φ ψ : Phi} {h h' : Hp} {w w' : World} (ev : Eff T φ h w ψ h' w') (hT : ∀ c, T c → h'.low ≤ c ∧ c ≤ h'.high) (hl : h'.low ≤ h.low) (hh : h.high ≤ h'.high) : Evo φ h w ψ h' w' where
  le := ev.le
  new := ev.new
  next := ev.next
  size := ev.size
  tape := ev.tape
  os := ev.os
  output := ev.output
  frame := fun k hk hf => ev.frame k hk fun i p e hn ht hl => hf i p e hn (hT i ht).1 (hT i ht).2 hl
  back := fun i p e hl hp => by
    obtain ⟨j, q, e1, e2, e3, e5, e4⟩ := ev.back i p e hl hp
    exact ⟨j, q, e1, e2, e3, e5, e4.imp id (hT j)⟩
  kept := fun i hi ho => ev.kept i hi fun ht => by have := hT i ht; omega
  low := hl
  high := hh
  shape := ev.shape
  only := ev.only
  all := ev.all
theorem RelW.of_bl {ty : TTy} {φ : Phi} {E : Nat → Prop} {h g : Hp} {w : World} (H : RelW ty φ E h w) (h1 : g.bl = h.bl) (h2 : g.next = h.next) : RelW ty φ E g w where
  dom := by rw [h2]; exact H.dom
  inj := by unfold Live; rw [h1]; exact H.inj
  row := by rw [h1]; exact H.row
  fresh := by rw [h1, h2]; exact H.fresh
  kind := by rw [h1]; exact H.kind
  inp := H.inp
def TouchR (ty : TTy) (ρ : Rho) (E : Nat → Prop) (op : Op) : Prop := match kd ty op with
  | .p => True
  | .a => True
  | .r x => ∀ u, evR ρ x = some u → ∀ b, blkOf u = .ok b → ¬ E b
  | .w _ => ∀ b, ¬ E b
  | .q => ∀ b, ¬ E b
theorem Eff.cut {T : Nat → Prop} {φ ψ : Phi} {h h' : Hp} {w w' : World} (ev : Eff T φ h w ψ h' w') (hd : ∀ i p, φ i = some p → i < h.next) : Eff (fun c => T c ∧ c < h.next) φ h w ψ h' w' where
  le := ev.le
  new := ev.new
  next := ev.next
  size := ev.size
  tape := ev.tape
  os := ev.os
  output := ev.output
  frame := fun k hk hf => ev.frame k hk fun i p e hn ht hl => hf i p e hn ⟨ht, hd i p e⟩ hl
  back := fun i p e hl hp => by
    obtain ⟨j, q, e1, e2, e3, e5, e4⟩ := ev.back i p e hl hp
    exact ⟨j, q, e1, e2, e3, e5, e4.imp id fun ht => ⟨ht, hd j q e1⟩⟩
  kept := fun i hi ho => ev.kept i hi fun ht => ho ⟨ht, hi⟩
  shape := ev.shape
  only := ev.only
  all := ev.all
theorem Eff.refl (φ : Phi) (h : Hp) (w : World) : Eff (fun _ => False) φ h w φ h w where
  le := .refl φ
  new := fun _ _ e => .inl e
  next := Nat.le_refl _
  size := Nat.le_refl _
  tape := rfl
  os := rfl
  output := rfl
  frame := fun _ _ _ => rfl
  back := fun i p e hl _ => ⟨i, p, e, hl, rfl, rfl, .inl rfl⟩
  kept := fun _ _ _ => rfl
  shape := fun _ _ => .refl _
  only := fun _ _ _ => rfl
  all := fun _ h1 h2 => absurd h2 (Nat.not_lt.2 h1)
def Tame (ty : TTy) (o : Oper) (ah : Ahead) : Prop := (kd ty o.op = .p ∨ ∃ x, kd ty o.op = .r x) ∨ (ah ≠ .plain ∧ ∀ old x xs, ah ≠ .chk old x xs)
structure Core (P : Program) (ty : TTy) (o : Oper) (ah : Ahead) (ρ : Rho) (h h' : Hp) (v : Value) (T : Nat → Prop) : Prop where
  does : ∀ (φ : Phi) (E : Nat → Prop) (w : World) (a : Act), RelW ty φ E h w → (∀ x ∈ o.op.operands.toList, ∀ u, evR ρ x = some u → RelV φ u (a.eval x)) → TouchR ty ρ E o.op →
    ∀ (next : Act → World → Prop) (Q : Exit → Act → World → Prop), (∀ ψ v' w', RelV ψ v v' → RelW ty ψ E h' w' → Eff T φ h w ψ h' w' → Evo φ h w ψ h' w' → next (a.put o.dst v') w') → o.wp P a w next Q
  tame : Tame ty o ah → h'.low ≤ h.low ∧ h.high ≤ h'.high ∧ (∀ c, T c → h'.low ≤ c ∧ c ≤ h'.high) ∧ h'.mark = h.mark
  tlt : ∀ c, T c → c < h.next
  tp : (kd ty o.op = .p ∨ ∃ x, kd ty o.op = .r x) → (∀ c, ¬ T c) ∧ h' = h
  strong : ah = .quiet .strong → ∀ c, ¬ T c
  weak : ah = .quiet .weak → ∀ c, T c → h.mark ≤ c
  wr : ∀ x xs, ah = .wr x xs → ∀ c, T c → ∃ u, evR ρ x = some u ∧ blkOf u = .ok c
structure Side (ah : Ahead) (ρ : Rho) (h : Hp) : Prop where
  wrx : ∀ x xs, ah = .wr x xs → ∀ y ∈ xs, ∀ u u' b, evR ρ x = some u → evR ρ y = some u' → blkOf u = .ok b → blkOf u' ≠ .ok b
  chk : ∀ old x xs, ah = .chk old x xs → ∀ y ∈ xs, ∀ u u' b, evR ρ x = some u → evR ρ y = some u' → blkOf u = .ok b → blkOf u' ≠ .ok b
  old : ∀ x xs, ah = .chk true x xs → ∀ u b, evR ρ x = some u → blkOf u = .ok b → b < h.mark
  known : ∀ x xs, (ah = .wr x xs ∨ ∃ old, ah = .chk old x xs) → (∃ u, evR ρ x = some u) ∧ ∀ y ∈ xs, ∃ u, evR ρ y = some u
structure SF (P : Program) (ty : TTy) (ops : List Oper) (o : Oper) (ah : Ahead) (ρ ρ' : Rho) (h h' : Hp) (v : Value) (run : Bool) (T : Nat → Prop) : Prop where
  slot : ∀ t u, ρ' t = some u → if o.dst = some t then u = v else ρ t = some u
  grd : match o.guard with
    | none => run = true
    | some (g, want) => ∃ og d c, ops[g]? = some og ∧ og.dst = some d ∧ ρ d = some c ∧ ((∃ b, c = .bool b ∧ run = (want == b)) ∨ (∃ l, c = .tuple l ∧ run = false))
  side : kd ty o.op ≠ .p → Side ah ρ h
  core : (run = true ∧ Core P ty o ah ρ h h' v T) ∨ (run = false ∧ v = noRes ∧ h' = h ∧ ∀ c, ¬ T c)
section
variable {P : Program} {ty : TTy} {F : CallF}
theorem IB (hT : CJ P ty) (hF : CY P ty F) {A : List Nat} {σ : Sg} {e : Env} {o : Oper} {g g' : Hp} {v : Value} (hr : opC ty ⟨A, σ⟩ o.op F e g = .ok v g') (φ : Phi) (E : Nat → Prop) (w : World) (a : Act) (H : RelW ty φ E g w)
    (hn : ∀ x ∈ o.op.operands.toList, ∀ u, evR (rhoOf A σ e) x = some u → RelV φ u (a.eval x)) (ht : TouchR ty (rhoOf A σ e) E o.op) : Da P ty φ E g v g' o a w := by
  refine ZP hT hF H (f := ⟨A, σ⟩) (e := e) (F := F) (fun x hx y hy => hn x hx _ (EI hy e)) ?_ hr
  unfold FN
  unfold TouchR at ht
  cases hk : kd ty o.op with
  | p => trivial
  | a => trivial
  | r x => rw [hk] at ht; exact fun y hy b hb => ht _ (EI hy e) b hb
  | w x => rw [hk] at ht; exact ht
  | q => rw [hk] at ht; exact ht
def Gp (h : Hp) : Hp := { next := h.next, low := h.next, high := 0, mark := h.mark, bl := h.bl }
theorem IA (hT : CJ P ty) (hF : CY P ty F) {A : List Nat} {σ : Sg} {e : Env} {o : Oper} {ah : Ahead} (hah : ah = .plain ∨ ∃ old x xs, ah = .chk old x xs) {h h' : Hp} {v : Value} (hr : opC ty ⟨A, σ⟩ o.op F e h = .ok v h') : ∃ T, Core P ty o ah (rhoOf A σ e) h h' v T := by
  have hns : ah ≠ .quiet .strong := by rcases hah with rfl | ⟨_, _, _, rfl⟩ <;> exact fun h => by cases h
  have hnw : ah ≠ .quiet .weak := by rcases hah with rfl | ⟨_, _, _, rfl⟩ <;> exact fun h => by cases h
  have hnr : ∀ x xs, ah ≠ .wr x xs := by rcases hah with rfl | ⟨_, _, _, rfl⟩ <;> exact fun _ _ h => by cases h
  have hnm : ¬ (ah ≠ .plain ∧ ∀ old x xs, ah ≠ .chk old x xs) := by
    rcases hah with rfl | ⟨_, _, _, rfl⟩
    · exact fun h => h.1 rfl
    · exact fun h => h.2 _ _ _ rfl
  by_cases hk : kd ty o.op = .p ∨ ∃ x, kd ty o.op = .r x
  · have K := ZO (ty := ty) (f := ⟨A, σ⟩) hk F e
    have hh := K.same hr
    have hr2 := K.at hr (Gp h) rfl
    subst hh
    refine ⟨fun _ => False, { does := fun φ E w a H hn ht next Q hnx => ?_, tame := fun _ => ⟨Nat.le_refl _, Nat.le_refl _, fun _ h => h.elim, rfl⟩, tlt := fun _ h => h.elim, tp := fun _ => ⟨fun _ h => h, rfl⟩, strong := fun h => absurd h hns, weak := fun h => absurd h hnw, wr := fun _ _ h => absurd h (hnr _ _) }⟩
    have key : ∀ ψ v' w', RelV ψ v v' → RelW ty ψ E (Gp h') w' → Evo φ (Gp h') w ψ (Gp h') w' → Eff (fun _ => False) φ h' w ψ h' w' := ?_
    · exact IB hT hF hr2 φ E w a (H.of_bl rfl rfl) hn ht next Q fun ψ v' w' hv H' ev => hnx ψ v' w' hv (H'.of_bl rfl rfl) (key ψ v' w' hv H' ev) ((key ψ v' w' hv H' ev).evo (fun _ h => h.elim) (Nat.le_refl _) (Nat.le_refl _))
    intro ψ v' w' hv H' ev
    have e1 : Eff (fun c => h'.next ≤ c ∧ c ≤ 0) φ h' w ψ h' w' := ev.eff.of_bl rfl rfl rfl rfl
    have hd : ∀ i p, φ i = some p → i < h'.next := fun i p e => (H.dom i p e).1
    have e2 := e1.cut hd
    exact { e2 with
      frame := fun k hk hf => e2.frame k hk fun i p e hn ht => by omega
      back := fun i p e hl hp => by
        obtain ⟨j, q, e1, e2, e3, e5, e4⟩ := e2.back i p e hl hp
        exact ⟨j, q, e1, e2, e3, e5, e4.imp id fun ht => by omega⟩
      kept := fun i hi _ => e2.kept i hi fun ht => by omega }
  · refine ⟨fun c => (h'.low ≤ c ∧ c ≤ h'.high) ∧ c < h.next, { does := fun φ E w a H hn ht next Q hnx => ?_, tame := fun h => absurd h (fun h => h.elim hk hnm), tlt := fun _ h => h.2, tp := fun h => absurd h hk, strong := fun h => absurd h hns, weak := fun h => absurd h hnw, wr := fun _ _ h => absurd h (hnr _ _) }⟩
    exact IB hT hF hr φ E w a H hn ht next Q fun ψ v' w' hv H' ev => hnx ψ v' w' hv H' (ev.eff.cut fun i p e => (H.dom i p e).1) ev
theorem GR (hT : CJ P ty) (hF : CY P ty F) {A : List Nat} {σ : Sg} {e : Env} {o : Oper} {ah : Ahead} {h h' g' : Hp} {v : Value} (hr : opC ty ⟨A, σ⟩ o.op F e (Gp h) = .ok v g')
    (h1 : h'.bl = g'.bl) (h2 : h'.next = g'.next) (h3 : h'.low = min h.low g'.low) (h4 : h'.high = max h.high g'.high) (h5 : h'.mark = h.mark)
    (hs : ah = .quiet .strong → h.next ≤ g'.low) (hw : ah = .quiet .weak → h.mark ≤ g'.low)
    (hx : ∀ x xs, ah = .wr x xs → ∀ c, g'.low ≤ c → c ≤ g'.high → c < h.next → ∃ u, evR (rhoOf A σ e) x = some u ∧ blkOf u = .ok c) (hnk : ¬ (kd ty o.op = .p ∨ ∃ x, kd ty o.op = .r x)) : ∃ T, Core P ty o ah (rhoOf A σ e) h h' v T := by
  refine ⟨fun c => (g'.low ≤ c ∧ c ≤ g'.high) ∧ c < h.next, { does := fun φ E w a H hn ht next Q hnx => ?_, tame := fun _ => ⟨by omega, by omega, fun c h => by omega, h5⟩, tlt := fun _ h => h.2, tp := fun h => absurd h hnk, strong := fun h c hc => ?_, weak := fun h c hc => ?_, wr := fun x xs h c hc => hx x xs h c hc.1.1 hc.1.2 hc.2 }⟩
  · refine IB hT hF hr φ E w a (H.of_bl rfl rfl) hn ht next Q fun ψ v' w' hv H' ev => ?_
    have e1 : Eff (fun c => g'.low ≤ c ∧ c ≤ g'.high) φ h w ψ h' w' := ev.eff.of_bl rfl rfl h1 h2
    exact hnx ψ v' w' hv (H'.of_bl h1 h2) (e1.cut fun i p e => (H.dom i p e).1) (e1.evo (fun c h => by omega) (by omega) (by omega))
  · have := hs h; omega
  · have := hw h; omega
end
end
end Go.Proofs.Ythcfmklkbakkpaa
