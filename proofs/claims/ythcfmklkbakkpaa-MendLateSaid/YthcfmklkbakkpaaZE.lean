/-
  Maps: an entry looked up, laid, struck.
  One operation: the whole table.
  Operations that leave the machine's heap as it is, and look at its blocks alone.
  What is plain, or reads, leaves the machine's heap as it is.
  A region's operations, one behind the other, as the machine has carried them out.
-/
import Derived.Test.YthcfmklkbakkpaaZD
set_option linter.unusedSimpArgs false
set_option linter.unusedVariables false
namespace Go.Proofs.Ythcfmklkbakkpaa
noncomputable section
open Go
section
variable {P : Program} {ty : TTy} {φ : Phi} {E : Nat → Prop} {h h' : Hp} {w : World} {F : CallF} {e : Env} {v : Value} {f : Fr}
theorem Ht {t : Nat} {k : KS → OpF} (hr : wKey ty t k F e h = .ok v h') : ∃ ti kt el K, ty.get t = some ti ∧ ti.k = .map kt el ∧ KeyOf P ty kt K ∧ k K F e h = .ok v h' := by
  unfold wKey at hr
  obtain ⟨ti, hti, hr⟩ := BS hr
  cases hk : ti.k with
  | map kt el =>
    simp only [hk] at hr
    obtain ⟨ki, hki, hr⟩ := BS hr
    cases hf : flatK ty 8 kt with
    | none => rw [hf] at hr; cases hr
    | some ks =>
      rw [hf] at hr
      exact ⟨ti, kt, el, ⟨ki.k.agg, ks⟩, hti, hk, ⟨⟨ki, hki, rfl⟩, hf⟩, hr⟩
  | _ => simp only [hk] at hr; cases hr
theorem KeyOf.und (hT : CN P ty) {t : Nat} {K : KS} (hK : KeyOf P ty t K) : ∃ d, P.underlying t = some d := by
  obtain ⟨ti, hti, _⟩ := hK.ti
  obtain ⟨d, hd, _⟩ := (hT t ti hti).und
  exact ⟨d, hd⟩
theorem J4 {t : Nat} {ti : TI} (T : TyOk P t ti) {kt el : Nat} (hk : ti.k = .map kt el) : P.underlying t = some (.map kt el) := by
  obtain ⟨d, hd, hkd⟩ := T.und
  rw [hk] at hkd; cases hkd
  exact hd
theorem Dc {ok : Bool} {u : Value} {b : Bool} (hr : C1 ok u b h = .ok v h') : h' = h ∧ v = (if ok then .tuple ⟨[u, .bool b]⟩ else u) := by
  unfold C1 at hr
  cases ok <;> simp only [BR] at hr <;> cases hr <;> exact ⟨rfl, rfl⟩
theorem DE {ok : Bool} {u u' : Value} {b : Bool} (hu : RelV φ u u') : RelV φ (if ok then .tuple ⟨[u, .bool b]⟩ else u) (if ok then .tuple #[u', .bool b] else u') := by
  cases ok
  · exact hu
  · exact .tuple (.cons hu (.cons (.bool b) .nil))
theorem Mq (hT : CN P ty) (H : RelW ty φ E h w) {t kt el : Nat} {ti ei : TI} (T : TyOk P t ti) (hk : ti.k = .map kt el) (TE : TyOk P el ei) (hz : ei.zero.length = ei.size) {z : Value} (hzv : zeroV ei = some z) {K : KS} (hK : KeyOf P ty kt K)
    {ok : Bool} {x ix : O} {x' ix' : Value} (hx : RelV φ (x e) x') (hix : RelV φ (ix e) ix') (hE : ∀ r, x e = .map (some r) → ¬ E r) (hr : Ho K z ok x ix F e h = .ok v h') :
    BD ty φ E h w v h' ((Instr.lookup t x' ix' ok).run P w) := by
  obtain ⟨z0, hz0, hzr, _, hzp⟩ := TE.zeroOk hz
  rw [hzv] at hz0; cases hz0
  have hzrel : RelV φ z z := by
    unfold zeroV at hzv
    split at hzv
    · cases hzv; exact .agg (.plain hzp)
    · split at hzv
      · rename_i u hu
        cases hzv
        rw [hu] at hzp
        simp only [List.all_cons, List.all_nil, Bool.and_true] at hzp
        exact .plain hzp
      · cases hzv
  obtain ⟨kd, hkd⟩ := hK.und hT
  have hu := J4 T hk
  unfold Ho Hh at hr
  split at hr
  case h_2 => cases hr
  rename_i hfit
  have he := GW hfit hix
  subst he
  split at hr
  · rename_i hxe
    rw [hxe] at hx; cases hx
    obtain ⟨rfl, rfl⟩ := Dc hr
    have hf : (Instr.findKey kt (ix e) []).run P w = .ok none w := C6 hkd (by simp [Instr.findAsking])
    have key : (Instr.lookup t (.map none) (ix e) ok).run P w = .ok (if ok then .tuple #[z, .bool false] else z) w := by
      simp only [Instr.lookup, Sem.run_bind, run_underlying hu, Result.andThen_ok, Sem.run_pure, hK.check hT hfit, hf, hzr]
    rw [key]; exact .same H (DE hzrel)
  · rename_i r hxe
    rw [hxe] at hx
    cases hx with
    | @map _ p hp =>
      split at hr
      case h_2 => cases hr
      rename_i es c hes
      obtain ⟨es', hw, hrel⟩ := H.entsAt hp (hE r hxe) hes
      have hget := B4 (P := P) hw rfl
      split at hr
      · rename_i en hfe
        obtain ⟨rfl, rfl⟩ := Dc hr
        obtain ⟨j, u', hfa, hu'⟩ := IF hT hK hfit w 0 hrel hfe
        have hf := C6 hkd hfa
        have key : (Instr.lookup t (.map (some p.blk)) (ix e) ok).run P w = .ok (if ok then .tuple #[u', .bool true] else u') w := by
          simp only [Instr.lookup, Sem.run_bind, run_underlying hu, Result.andThen_ok, Sem.run_pure, hget, hK.check hT hfit, hf]
        rw [key]; exact .same H (DE hu')
      · rename_i hfe
        obtain ⟨rfl, rfl⟩ := Dc hr
        have hfa := IF hT hK hfit w 0 hrel hfe
        have hf := C6 hkd hfa
        have key : (Instr.lookup t (.map (some p.blk)) (ix e) ok).run P w = .ok (if ok then .tuple #[z, .bool false] else z) w := by
          simp only [Instr.lookup, Sem.run_bind, run_underlying hu, Result.andThen_ok, Sem.run_pure, hget, hK.check hT hfit, hf, hzr]
        rw [key]; exact .same H (DE hzrel)
      · cases hr
  · cases hr
theorem MZ (H : RelW ty φ E h w) {t xt : Nat} {ti : TI} (T : TyOk P t ti) (hk : ti.k ≠ .iface) (hz : ti.zero.length = ti.size) {z : Value} (hzv : zeroV ti = some z) {ok : Bool} {x : O} {x' : Value} (hx : RelV φ (x e) x') (hr : Hj t ok z x F e h = .ok v h') :
    BD ty φ E h w v h' ((Instr.typeAssert x' xt t ok).run P w) := by
  obtain ⟨z0, hz0, hzr, _, hzp⟩ := T.zeroOk hz
  rw [hzv] at hz0; cases hz0
  have hzrel : RelV φ z z := by
    unfold zeroV at hzv
    split at hzv
    · cases hzv; exact .agg (.plain hzp)
    · split at hzv
      · rename_i u hu
        cases hzv
        rw [hu] at hzp
        simp only [List.all_cons, List.all_nil, Bool.and_true] at hzp
        exact .plain hzp
      · cases hzv
  obtain ⟨d, hd, hkd⟩ := T.und
  unfold Hj at hr
  split at hr
  · rename_i hxe
    rw [hxe] at hx
    cases hx with
    | nilIface =>
      cases ok with
      | false => cases hr
      | true =>
        obtain ⟨rfl, rfl⟩ := Dc hr
        have key : (Instr.typeAssert .nilIface xt t true).run P w = .ok (if true then .tuple #[z, .bool false] else z) w := by
          simp only [Instr.typeAssert, Sem.run_bind, run_underlying hd, Result.andThen_ok]
          cases d <;> first | (simp only [if_true, Sem.run_bind, hzr, Result.andThen_ok, Sem.run_pure]; done) | exact absurd rfl (hkd.noIface hk _)
        rw [key]; exact .same H (DE hzrel)
  · rename_i u q hxe
    rw [hxe] at hx
    cases hx with
    | @iface _ _ q' hq =>
      split at hr
      · rename_i hb
        have hb := A1.1 hb
        subst hb
        obtain ⟨rfl, rfl⟩ := Dc hr
        have key : (Instr.typeAssert (.iface u q') xt u ok).run P w = .ok (if ok then .tuple #[q', .bool true] else q') w := by
          simp only [Instr.typeAssert, Sem.run_bind, run_underlying hd, Result.andThen_ok]
          cases d <;> first | (simp only [if_true, Sem.run_pure]; done) | exact absurd rfl (hkd.noIface hk _)
        rw [key]; exact .same H (DE hq)
      · rename_i hb
        have hne : ¬ u = t := fun he => by rw [A1.2 he] at hb; cases hb
        cases ok with
        | false => cases hr
        | true =>
          obtain ⟨rfl, rfl⟩ := Dc hr
          have key : (Instr.typeAssert (.iface u q') xt t true).run P w = .ok (if true then .tuple #[z, .bool false] else z) w := by
            simp only [Instr.typeAssert, Sem.run_bind, run_underlying hd, Result.andThen_ok]
            cases d <;> first | (simp only [if_neg hne, if_true, Sem.run_bind, hzr, Result.andThen_ok, Sem.run_pure]; done) | exact absurd rfl (hkd.noIface hk _)
          rw [key]; exact .same H (DE hzrel)
  · cases hr
theorem Id (hT : CN P ty) (H : RelW ty φ E h w) (hE : ∀ b, ¬ E b) {t kt el : Nat} {ti : TI} (T : TyOk P t ti) (hk : ti.k = .map kt el) {K : KS} (hK : KeyOf P ty kt K)
    {m key x : O} {m' key' x' : Value} (hm : RelV φ (m e) m') (hkey : RelV φ (key e) key') (hx : RelV φ (x e) x') (hr : Fu K m key x F e h = .ok v h') :
    PM ty φ E h w v h' ((Instr.mapUpdate t m' key' x').run P w) := by
  obtain ⟨kd, hkd⟩ := hK.und hT
  have hu := J4 T hk
  unfold Fu at hr
  simp only [BR] at hr
  unfold N7 at hr
  split at hr
  case h_2 => cases hr
  rename_i hfit
  obtain ⟨he, hkk⟩ := IG hfit hkey
  subst he
  split at hr
  case h_2 => cases hr
  rename_i r hme
  rw [hme] at hm
  cases hm with
  | @map _ p hp =>
    split at hr
    case h_2 => cases hr
    rename_i es c hes
    obtain ⟨es', hw, hrel⟩ := H.entsAt hp (hE r) hes
    have hget := B4 (P := P) hw rfl
    split at hr
    · rename_i es2 hse
      obtain ⟨j, u', en, hfa, hen, hek, hrel2⟩ := Hr hT hK hfit hx hkk w 0 hrel hse
      have hf := C6 hkd hfa
      obtain ⟨h1, hk1, H1, ev⟩ := D4 (ob := .map ⟨es'.modify (0 + j) fun en => { en with key := key e, val := x' }⟩ c) H (hE _) hp (El hes) hr (by rw [Ew hes]; exact .inr trivial) (.map (by rw [Nat.zero_add]; exact hrel2))
      cases hk1
      refine ⟨rfl, _, ?_, H1, ev⟩
      have hstay : (Instr.keyThatStays (((⟨es'⟩ : Array MapEntry)[0 + j]?.map (·.key)).getD (key e)) (key e)).run P w = .ok (key e) w := by
        have : (⟨es'⟩ : Array MapEntry)[0 + j]? = some en := by rw [Nat.zero_add]; simpa using hen
        rw [this]
        simp only [Option.map_some, Option.getD_some, hek]
        unfold Instr.keyThatStays
        rw [OK hfit 9999]
        simp
      have hset := Dg (P := P) (ob' := .map ⟨es'.modify (0 + j) fun en => { en with key := key e, val := x' }⟩ c) hw rfl
      simp only [Instr.mapUpdate, Sem.run_bind, run_underlying hu, Result.andThen_ok, hget, hK.check hT hfit, hf, hstay]
      rw [← hset]; congr 3
      apply Array.ext'
      simp
    · rename_i hse
      have hfa := Hr hT hK hfit hx hkk w 0 hrel hse
      have hf := C6 hkd hfa
      obtain ⟨h1, hk1, H1, ev⟩ := D4 (ob := .map ⟨es' ++ [{ key := key e, val := x', born := c }]⟩ (c + 1)) H (hE _) hp (El hes) hr (by rw [Ew hes]; exact .inr trivial) (.map (by rw [NE]; exact RelE.append (.cons hkk hx .nil) hrel))
      cases hk1
      refine ⟨rfl, _, ?_, H1, ev⟩
      have hset := Dg (P := P) (ob' := .map ⟨es' ++ [{ key := key e, val := x', born := c }]⟩ (c + 1)) hw rfl
      simp only [Instr.mapUpdate, Sem.run_bind, run_underlying hu, Result.andThen_ok, hget, hK.check hT hfit, hf]
      rw [← hset]; congr 2
      simp
    · cases hr
theorem Mj (hT : CN P ty) (H : RelW ty φ E h w) (hE : ∀ b, ¬ E b) {ats : Array TypeId} {t' t kt el : Nat} {ti : TI} (h0 : ats[0]? = some t) (T : TyOk P t ti) (hk : ti.k = .map kt el) {K : KS} (hK : KeyOf P ty kt K)
    {m key : O} {m' key' : Value} (hm : RelV φ (m e) m') (hkey : RelV φ (key e) key') (hr : Hl K m key F e h = .ok v h') :
    BD ty φ E h w v h' ((Builtin.delete_ ats t' #[m', key']).run P w) := by
  obtain ⟨kd, hkd⟩ := hK.und hT
  have hu := J4 T hk
  unfold Hl NQ at hr
  split at hr
  case h_2 => cases hr
  rename_i hfit
  obtain ⟨he, hkk⟩ := IG hfit hkey
  subst he
  split at hr
  case h_2 => cases hr
  rename_i r hme
  rw [hme] at hm
  cases hm with
  | @map _ p hp =>
    split at hr
    case h_2 => cases hr
    rename_i es c hes
    obtain ⟨es', hw, hrel⟩ := H.entsAt hp (hE r) hes
    have hget := B4 (P := P) hw rfl
    split at hr
    case h_2 => cases hr
    rename_i es2 hde
    rcases NP hT hK hfit w 0 hrel hde with ⟨hfa, rfl⟩ | ⟨j, u', hfa, hrel2⟩
    · have hf := C6 hkd hfa
      obtain ⟨h1, hk1, H1, ev⟩ := D4 (ob := .map ⟨es'⟩ c) H (hE _) hp (El hes) hr (by rw [Ew hes]; exact .inr trivial) (.map hrel)
      cases hk1
      have key : (Builtin.delete_ ats t' #[.map (some p.blk), key e]).run P w = .ok noRes { w with heap := w.heap.setIfInBounds p.blk (.map ⟨es'⟩ c) } := by
        simp only [Builtin.delete_, h0, List.getElem?_toArray, List.getElem?_cons_zero, List.getElem?_cons_succ, Sem.run_bind, run_underlying hu, Result.andThen_ok, Sem.run_pure, hget, hK.check hT hfit, hf, Dg hw rfl]; rfl
      rw [key]; exact ⟨_, _, φ, rfl, .tuple .nil, H1, ev⟩
    · have hf := C6 hkd hfa
      obtain ⟨h1, hk1, H1, ev⟩ := D4 (ob := .map ⟨es'.eraseIdx j⟩ c) H (hE _) hp (El hes) hr (by rw [Ew hes]; exact .inr trivial) (.map hrel2)
      cases hk1
      have herase : (⟨es'⟩ : Array MapEntry).eraseIdxIfInBounds (0 + j) = ⟨es'.eraseIdx j⟩ := by
        apply Array.ext'
        rw [Nat.zero_add]
        unfold Array.eraseIdxIfInBounds
        split
        · simp
        · rename_i hj
          simp only
          rw [List.eraseIdx_of_length_le (by simpa using hj)]
      have key : (Builtin.delete_ ats t' #[.map (some p.blk), key e]).run P w = .ok noRes { w with heap := w.heap.setIfInBounds p.blk (.map ⟨es'.eraseIdx j⟩ c) } := by
        simp only [Builtin.delete_, h0, List.getElem?_toArray, List.getElem?_cons_zero, List.getElem?_cons_succ, Sem.run_bind, run_underlying hu, Result.andThen_ok, Sem.run_pure, hget, hK.check hT hfit, hf, herase, Dg hw rfl]; rfl
      rw [key]; exact ⟨_, _, φ, rfl, .tuple .nil, H1, ev⟩
end
end
end Go.Proofs.Ythcfmklkbakkpaa
set_option linter.unusedSimpArgs false
set_option linter.unusedVariables false
namespace Go.Proofs.Ythcfmklkbakkpaa
noncomputable section
open Go
section
variable {P : Program} {ty : TTy} {φ : Phi} {E : Nat → Prop} {h h' : Hp} {w : World} {F : CallF} {e : Env} {v : Value} {f : Fr}
theorem N4 {op : Op} {x : Operand} (hk : kd ty op = .r x) (hE : FJ ty f e E op) {y : O} (hy : cO f x = some y) : ∀ a, y e = .pointer (some a) → ¬ E a.block := by
  intro a ha
  unfold FJ at hE
  rw [hk] at hE
  exact hE y hy a.block (by rw [ha]; rfl)
theorem Hs {op : Op} {x : Operand} (hk : kd ty op = .w x) (hE : FJ ty f e E op) : ∀ b, ¬ E b := by
  unfold FJ at hE; rw [hk] at hE; exact hE
theorem EV {op : Op} (hk : kd ty op = .q) (hE : FJ ty f e E op) : ∀ b, ¬ E b := by
  unfold FJ at hE; rw [hk] at hE; exact hE
theorem PO {args : List O} {x : O} (hs : args = [x]) {l : List Operand} {ρ : Operand → Value} (ha : RelL φ (vals e args) (l.map ρ)) : ∃ x', l.map ρ = [x'] ∧ RelV φ (x e) x' := by
  subst hs
  generalize l.map ρ = r at ha
  cases ha with | cons h t => cases t; exact ⟨_, rfl, h⟩
theorem KP {args : List O} {x y : O} (hs : args = [x, y]) {l : List Operand} {ρ : Operand → Value} (ha : RelL φ (vals e args) (l.map ρ)) : ∃ x' y', l.map ρ = [x', y'] ∧ RelV φ (x e) x' ∧ RelV φ (y e) y' := by
  subst hs
  generalize l.map ρ = r at ha
  cases ha with | cons h t => cases t with | cons h2 t => cases t; exact ⟨_, _, rfl, h, h2⟩
theorem PX (hT : CN P ty) (H : RelW ty φ E h w) {b : Builtin} {c : Call} (hc : c.callee = .builtin b) {o : Oper} {a : Act} (ho : o.op = .call c) {args : List O}
    (ha : RelL φ (vals e args) (c.args.toList.map a.eval)) (hE : (∀ b, ¬ E b) ∨ b = .min ∨ b = .max ∨ (b = .len ∧ ∀ x, args = [x] → ∀ t ti, c.argTypes[0]? = some t → ty.get t = some ti → (∃ k q, ti.k = .map k q) → ∀ r, x e = .map (some r) → ¬ E r))
    (hr : Gx ty b c.argTypes.toList args F e h = .ok v h') : DW P ty φ E h v h' o a w := by
  have earr : c.args.map a.eval = ⟨c.args.toList.map a.eval⟩ := by apply Array.ext'; simp
  have hat0 : ∀ t l, c.argTypes.toList = t :: l → c.argTypes[0]? = some t := fun t l hl => by rw [← Array.getElem?_toList, hl]; rfl
  have hat1 : ∀ t t2 l, c.argTypes.toList = t :: t2 :: l → c.argTypes[1]? = some t2 := fun t t2 l hl => by rw [← Array.getElem?_toList, hl]; rfl
  have hex : ∀ s : Sem Value, (∀ cs, builtin b c.argTypes o.type cs ⟨c.args.toList.map a.eval⟩ = (do pure (.value (← s)))) → ∀ {vv : Value} {hh : Hp}, BD ty φ E h w vv hh (s.run P w) → DW P ty φ E h vv hh o a w := by
    intro s hs vv hh hg
    refine .of_gives (s := s) ?_ hg
    unfold execOp
    rw [ho]
    simp only [resolve, hc, earr]
    exact hs _
  cases b with
  | len =>
    match args, ha, hE, hr with
    | [x], ha, hE, hr =>
      obtain ⟨x', he, hx⟩ := PO rfl ha
      cases hl : c.argTypes.toList with
      | nil => rw [hl] at hr; cases hr
      | cons t l =>
        rw [hl] at hr
        obtain ⟨ti, hti, hr⟩ := BS hr
        have h0 := hat0 t l hl
        cases hk : ti.k with
        | slice el => simp only [hk] at hr; exact hex _ (fun cs => by rw [he]; rfl) (Qb H h0 (hT t ti hti) hk hx hr)
        | string => simp only [hk] at hr; exact hex _ (fun cs => by rw [he]; rfl) (Qd H h0 (hT t ti hti) hk hx hr)
        | map k q =>
          simp only [hk] at hr
          refine hex _ (fun cs => by rw [he]; rfl) (QZ H h0 (hT t ti hti) hk hx (fun r hxr => ?_) hr)
          rcases hE with hE | hE | hE | ⟨_, hE⟩
          · exact hE r
          · cases hE
          · cases hE
          · exact hE x rfl t ti h0 hti ⟨k, q, hk⟩ r hxr
        | arr n el =>
          simp only [hk] at hr
          refine hex (Builtin.len_ c.argTypes o.type #[x']) (fun cs => by rw [he]; rfl) ?_
          rw [Sz h0 (hT t ti hti) hk]
          have : v = .int .i64 (.ofNat n) ∧ h' = h := by
            unfold AF kV at hr; rw [Dn] at hr; cases hr; exact ⟨rfl, rfl⟩
          obtain ⟨rfl, rfl⟩ := this
          exact .same H (.int _ _)
        | _ => simp only [hk] at hr; cases hr
    | [], _, _, hr => cases hr
    | _ :: _ :: _, _, _, hr => cases hr
  | cap =>
    match args, ha, hr with
    | [x], ha, hr =>
      obtain ⟨x', he, hx⟩ := PO rfl ha
      cases hl : c.argTypes.toList with
      | nil => rw [hl] at hr; cases hr
      | cons t l =>
        rw [hl] at hr
        obtain ⟨ti, hti, hr⟩ := BS hr
        have h0 := hat0 t l hl
        cases hk : ti.k with
        | slice el => simp only [hk] at hr; exact hex (Builtin.cap_ c.argTypes o.type #[x']) (fun cs => by rw [he]; rfl) (QN H h0 (hT t ti hti) hk hx hr)
        | _ => simp only [hk] at hr; cases hr
    | [], _, hr => cases hr
    | _ :: _ :: _, _, hr => cases hr
  | min =>
    match args, ha, hr with
    | [x, y], ha, hr =>
      obtain ⟨x', y', he, hx, hy⟩ := KP rfl ha
      exact hex _ (fun cs => by rw [he]; rfl) (Tj (F := F) H hx hy hr)
    | [], _, hr => cases hr
    | [_], _, hr => cases hr
    | _ :: _ :: _ :: _, _, hr => cases hr
  | max =>
    match args, ha, hr with
    | [x, y], ha, hr =>
      obtain ⟨x', y', he, hx, hy⟩ := KP rfl ha
      exact hex _ (fun cs => by rw [he]; rfl) (Th (F := F) H hx hy hr)
    | [], _, hr => cases hr
    | [_], _, hr => cases hr
    | _ :: _ :: _ :: _, _, hr => cases hr
  | copy =>
    have hE' : ∀ b, ¬ E b := by
      rcases hE with h | h | h | ⟨h, _⟩
      · exact h
      all_goals cases h
    match args, ha, hr with
    | [d, x], ha, hr =>
      obtain ⟨d', x', he, hd, hx⟩ := KP rfl ha
      cases hl : c.argTypes.toList with
      | nil => rw [hl] at hr; cases hr
      | cons t l =>
        rw [hl] at hr
        obtain ⟨ti, hti, hr⟩ := BS hr
        cases hk : ti.k with
        | slice el =>
          simp only [hk] at hr
          obtain ⟨ei, hei, hr⟩ := BS hr
          exact hex _ (fun cs => by rw [he]; rfl) (QS H hE' (hat0 t l hl) (hT t ti hti) hk (hT el ei hei) hd hx hr)
        | _ => simp only [hk] at hr; cases hr
    | [], _, hr => cases hr
    | [_], _, hr => cases hr
    | _ :: _ :: _ :: _, _, hr => cases hr
  | clear =>
    have hE' : ∀ b, ¬ E b := by
      rcases hE with h | h | h | ⟨h, _⟩
      · exact h
      all_goals cases h
    match args, ha, hr with
    | [x], ha, hr =>
      obtain ⟨x', he, hx⟩ := PO rfl ha
      cases hl : c.argTypes.toList with
      | nil => rw [hl] at hr; cases hr
      | cons t l =>
        rw [hl] at hr
        obtain ⟨ti, hti, hr⟩ := BS hr
        cases hk : ti.k with
        | slice el =>
          simp only [hk] at hr
          obtain ⟨ei, hei, hr⟩ := BS hr
          obtain ⟨hz, hr⟩ := F6 hr
          exact hex _ (fun cs => by rw [he]; rfl) (Oa H hE' (hat0 t l hl) (hT t ti hti) hk (hT el ei hei) hz hx hr)
        | map k q =>
          simp only [hk] at hr
          exact hex _ (fun cs => by rw [he]; rfl) (KA H hE' (hat0 t l hl) (hT t ti hti) hx hr)
        | _ => simp only [hk] at hr; cases hr
    | [], _, hr => cases hr
    | _ :: _ :: _, _, hr => cases hr
  | append =>
    have hE' : ∀ b, ¬ E b := by
      rcases hE with h | h | h | ⟨h, _⟩
      · exact h
      all_goals cases h
    match args, ha, hr with
    | [s, x], ha, hr =>
      obtain ⟨s', x', he, hs, hx⟩ := KP rfl ha
      cases hl : c.argTypes.toList with
      | nil => rw [hl] at hr; cases hr
      | cons t l =>
        cases l with
        | nil => rw [hl] at hr; cases hr
        | cons t2 l =>
          rw [hl] at hr
          obtain ⟨ti, hti, hr⟩ := BS hr
          obtain ⟨xi, hxi, hr⟩ := BS hr
          have h0 := hat0 t _ hl
          have h1 := hat1 t t2 l hl
          cases hk : ti.k with
          | slice en =>
            cases hk2 : xi.k with
            | slice q =>
              simp only [hk, hk2] at hr
              obtain ⟨ei, hei, hr⟩ := BS hr
              cases hsz : ei.size with
              | zero => simp only [hsz] at hr; cases hr
              | succ n =>
                simp only [hsz] at hr
                obtain ⟨hz, hr⟩ := F6 hr
                have hs2 : n.succ = ei.size := hsz.symm
                rw [hs2] at hr
                exact hex _ (fun cs => by rw [he]; rfl) (IX H hE' h0 h1 (hT t ti hti) hk (hT t2 xi hxi) (.inl ⟨q, hk2⟩) hei (hT en ei hei) (by omega) hz hs hx hr)
            | string =>
              simp only [hk, hk2] at hr
              obtain ⟨ei, hei, hr⟩ := BS hr
              cases hsz : ei.size with
              | zero => simp only [hsz] at hr; cases hr
              | succ n =>
                simp only [hsz] at hr
                obtain ⟨hz, hr⟩ := F6 hr
                have hs2 : n.succ = ei.size := hsz.symm
                rw [hs2] at hr
                exact hex _ (fun cs => by rw [he]; rfl) (IX H hE' h0 h1 (hT t ti hti) hk (hT t2 xi hxi) (.inr hk2) hei (hT en ei hei) (by omega) hz hs hx hr)
            | int q =>
              simp only [hk, hk2] at hr
              obtain ⟨ei, hei, hr⟩ := BS hr
              cases hsz : ei.size with
              | zero => simp only [hsz] at hr; cases hr
              | succ n =>
                simp only [hsz] at hr
                obtain ⟨hz, hr⟩ := F6 hr
                have hs2 : n.succ = ei.size := hsz.symm
                rw [hs2] at hr
                exact hex _ (fun cs => by rw [he]; rfl) (LA H hE' h0 h1 (hT t ti hti) hk (hT t2 xi hxi) hk2 hei (hT en ei hei) (by omega) hz hs hx hr)
            | _ => simp only [hk, hk2] at hr; cases hr
          | _ => simp only [hk] at hr; cases hr
    | [], _, hr => cases hr
    | [_], _, hr => cases hr
    | _ :: _ :: _ :: _, _, hr => cases hr
  | delete =>
    have hE' : ∀ b, ¬ E b := by
      rcases hE with h | h | h | ⟨h, _⟩
      · exact h
      all_goals cases h
    match args, ha, hr with
    | [m, key], ha, hr =>
      obtain ⟨m', key', he, hm, hkey⟩ := KP rfl ha
      cases hl : c.argTypes.toList with
      | nil => rw [hl] at hr; cases hr
      | cons t l =>
        rw [hl] at hr
        obtain ⟨ti, kt, el, K, hti, hk, hK, hr⟩ := Ht (k := fun ks => Hl ks m key) hr
        exact hex _ (fun cs => by rw [he]; rfl) (Mj hT H hE' (hat0 t l hl) (hT t ti hti) hk hK hm hkey hr)
    | [], _, hr => cases hr
    | [_], _, hr => cases hr
    | _ :: _ :: _ :: _, _, hr => cases hr
  | _ => cases hr
theorem YO (hT : CN P ty) (hF : Ca P ty F) (H : RelW ty φ E h w) {o : Oper} {a : Act} (hst : Ux φ f e a.eval o.op) (hE : FJ ty f e E o.op) (hr : opC ty f o.op F e h = .ok v h') :
    DW P ty φ E h v h' o a w := by
  cases ho : o.op with
  | move x =>
    rw [ho] at hr hst
    obtain ⟨x', hx', hr⟩ := CZ hr
    exact .of_gives (s := pure (a.eval x)) (by unfold execOp; rw [ho]; rfl) (LG H (hst x (by simp [Op.operands]) x' hx') hr)
  | assign x =>
    rw [ho] at hr hst
    obtain ⟨x', hx', hr⟩ := CZ hr
    exact .of_gives (s := pure (a.eval x)) (by unfold execOp; rw [ho]; rfl) (LG H (hst x (by simp [Op.operands]) x' hx') hr)
  | pick c x y =>
    rw [ho] at hr hst
    obtain ⟨c', hc', hr⟩ := CZ hr
    obtain ⟨x', y', hx', hy', hr⟩ := Gr hr
    refine .of_gives (s := (do pure (if ← asBool (a.eval c) then a.eval x else a.eval y))) ?_ (Ql H (hst c (by simp [Op.operands]) c' hc') (hst x (by simp [Op.operands]) x' hx') (hst y (by simp [Op.operands]) y' hy') hr)
    unfold execOp; rw [ho]; simp
  | alloc t =>
    rw [ho] at hr hst
    obtain ⟨ti, hti, hr⟩ := BS hr
    obtain ⟨hz, hr⟩ := F6 hr
    cases hc : B5 .mt 0 ti.zero with
    | none => rw [hc] at hr; cases hr
    | some c =>
      rw [hc] at hr
      exact .of_gives (by unfold execOp; rw [ho]) (OV H (hT t ti hti) hz hc hr)
  | box t x =>
    rw [ho] at hr hst
    obtain ⟨x', hx', hr⟩ := CZ hr
    exact .of_gives (by unfold execOp; rw [ho]) (TQ H (hst x (by simp [Op.operands]) x' hx') hr)
  | build t parts =>
    rw [ho] at hr hst
    obtain ⟨ti, hti, hr⟩ := BS hr
    obtain ⟨hz, hr⟩ := F6 hr
    have hps : ∀ p ∈ parts.toList, ∀ y, cO f p.2 = some y → RelV φ (y e) (a.eval p.2) := fun p hp => hst p.2 (by simp only [Op.operands, List.mem_map]; exact ⟨p, hp, rfl⟩)
    cases hk : ti.k with
    | struct fs =>
      simp only [hk] at hr
      cases hp : E5 f (Ig fs) parts.toList with
      | none => rw [hp] at hr; cases hr
      | some ps =>
        rw [hp] at hr
        exact .of_gives (by unfold execOp; rw [ho]) (Mb H (hT t ti hti) hk hz (ps' := parts.map fun (i, x) => (i, a.eval x)) (by simpa using Gi (ρ := a.eval) hp hps) hr)
    | arr n el =>
      simp only [hk] at hr
      obtain ⟨ei, hei, hr⟩ := BS hr
      cases hp : E5 f (fun i => some (Nat.mul i ei.size, ei.size)) parts.toList with
      | none => rw [hp] at hr; cases hr
      | some ps =>
        rw [hp] at hr
        exact .of_gives (by unfold execOp; rw [ho]) (Ma H (hT t ti hti) hk (hT el ei hei) hz (ps' := parts.map fun (i, x) => (i, a.eval x)) (by simpa using Gi (ρ := a.eval) hp hps) hr)
    | _ => simp only [hk] at hr; cases hr
  | buildSlice t len parts =>
    rw [ho] at hr hst
    obtain ⟨ti, hti, hr⟩ := BS hr
    have hps : ∀ p ∈ parts.toList, ∀ y, cO f p.2 = some y → RelV φ (y e) (a.eval p.2) := fun p hp => hst p.2 (by simp only [Op.operands, List.mem_map]; exact ⟨p, hp, rfl⟩)
    cases hk : ti.k with
    | slice el =>
      simp only [hk] at hr
      obtain ⟨ei, hei, hr⟩ := BS hr
      obtain ⟨hz, hr⟩ := F6 hr
      cases hp : E5 f (fun i => some (Nat.mul i ei.size, ei.size)) parts.toList with
      | none => rw [hp] at hr; cases hr
      | some ps =>
        rw [hp] at hr
        simp only at hr
        cases hb : Nat.ble (Nat.mul len ei.size) 16777216 with
        | false => rw [hb] at hr; cases hr
        | true =>
          rw [hb] at hr
          exact .of_gives (by unfold execOp; rw [ho]) (IZ H (hT t ti hti) hk (hT el ei hei) hz (Az.1 hb) (ps' := parts.map fun (i, x) => (i, a.eval x)) (by simpa using Gi (ρ := a.eval) hp hps) hr)
    | _ => simp only [hk] at hr; cases hr
  | load t x =>
    rw [ho] at hr hst hE
    obtain ⟨ti, hti, hr⟩ := BS hr
    obtain ⟨x', hx', hr⟩ := CZ hr
    have hx := hst x (by simp [Op.operands]) x' hx'
    cases hk : ti.k.agg with
    | true => rw [hk] at hr; exact .of_gives (by unfold execOp; rw [ho]) (Ok H (hT t ti hti) hk hx (N4 rfl hE hx') hr)
    | false => rw [hk] at hr; exact .of_gives (by unfold execOp; rw [ho]) (Oi H (hT t ti hti) hk hx (N4 rfl hE hx') hr)
  | store t x y =>
    rw [ho] at hr hst hE
    obtain ⟨ti, hti, hr⟩ := BS hr
    obtain ⟨x', y', hx', hy', hr⟩ := Gr hr
    exact .of_skips (by unfold execOp; rw [ho]) (Om H (hT t ti hti) (hst x (by simp [Op.operands]) x' hx') (hst y (by simp [Op.operands]) y' hy') (fun a _ => Hs (x := x) rfl hE _) hr)
  | nilCheck x =>
    rw [ho] at hr hst
    obtain ⟨x', hx', hr⟩ := CZ hr
    obtain ⟨hv, rfl, hne⟩ := Tn H (hst x (by simp [Op.operands]) x' hx') hr
    refine .of_gives (s := pure (a.eval x)) ?_ (.same H hv)
    unfold execOp; rw [ho]
    obtain ⟨h1, h2, h3, h4⟩ := hne
    simp only
    generalize a.eval x = z at h1 h2 h3 h4 ⊢
    cases z <;> first | rfl | (exact absurd rfl h2) | (exact absurd rfl h3) | skip
  | binOp op t x y yt => rw [ho] at hr hst; exact Wq hT H ho (by rw [ho]; exact hst) hr
  | unOp op t x =>
    rw [ho] at hr hst
    obtain ⟨ti, hti, hr⟩ := BS hr
    obtain ⟨x', hx', hr⟩ := CZ hr
    have hx := hst x (by simp [Op.operands]) x' hx'
    have hex : execOp a.eval o = (do pure (.value (← Op.unary op (a.eval x)))) := by unfold execOp; rw [ho]
    cases op with
    | not => exact .of_gives hex (Tp H hx (by revert hr; cases ti.k <;> exact id))
    | neg =>
      cases hk : ti.k with
      | int k => simp only [hk] at hr; exact .of_gives hex (Tl H hx hr)
      | _ => simp only [hk] at hr; cases hr
    | plus => revert hr; cases ti.k <;> intro hr <;> cases hr
    | xor =>
      cases hk : ti.k with
      | int k => cases k <;> simp only [hk] at hr <;> first | cases hr; done | exact .of_gives hex (TY H hx hr)
      | _ => simp only [hk] at hr; cases hr
  | fieldAddr t x i =>
    rw [ho] at hr hst
    obtain ⟨ti, hti, hr⟩ := BS hr
    obtain ⟨x', hx', hr⟩ := CZ hr
    have hx := hst x (by simp [Op.operands]) x' hx'
    cases hk : ti.k with
    | struct fs =>
      simp only [hk] at hr
      cases hn : nth fs i with
      | none => rw [hn] at hr; cases hr
      | some q =>
        obtain ⟨off, s, ft⟩ := q
        rw [hn] at hr
        cases s with
        | zero => cases hr
        | succ s => exact .of_gives (by unfold execOp; rw [ho]) (It H (hT t ti hti) hk hn hx hr)
    | _ => simp only [hk] at hr; cases hr
  | field t x i =>
    rw [ho] at hr hst
    obtain ⟨ti, hti, hr⟩ := BS hr
    obtain ⟨x', hx', hr⟩ := CZ hr
    have hx := hst x (by simp [Op.operands]) x' hx'
    cases hk : ti.k with
    | struct fs =>
      simp only [hk] at hr
      cases hn : nth fs i with
      | none => rw [hn] at hr; cases hr
      | some q =>
        obtain ⟨off, s, ft⟩ := q
        rw [hn] at hr
        obtain ⟨fi, hfi, hr⟩ := BS hr
        exact .of_gives (by unfold execOp; rw [ho]) (Od H (hT t ti hti) hk hn (hT ft fi hfi) hx hr)
    | _ => simp only [hk] at hr; cases hr
  | indexAddr t x ix =>
    rw [ho] at hr hst
    obtain ⟨ti, hti, hr⟩ := BS hr
    obtain ⟨x', y', hx', hy', hr⟩ := Gr hr
    have hx := hst x (by simp [Op.operands]) x' hx'
    have hy := hst ix (by simp [Op.operands]) y' hy'
    cases hk : ti.k with
    | arr n el =>
      simp only [hk] at hr
      obtain ⟨ei, hei, hr⟩ := BS hr
      exact .of_gives (by unfold execOp; rw [ho]) (Mn H (hT t ti hti) hk (hT el ei hei) hx hy hr)
    | slice el =>
      simp only [hk] at hr
      obtain ⟨ei, hei, hr⟩ := BS hr
      exact .of_gives (by unfold execOp; rw [ho]) (Te H (hT t ti hti) hk (hT el ei hei) hx hy hr)
    | _ => simp only [hk] at hr; cases hr
  | index t x ix =>
    rw [ho] at hr hst
    obtain ⟨ti, hti, hr⟩ := BS hr
    obtain ⟨x', y', hx', hy', hr⟩ := Gr hr
    have hx := hst x (by simp [Op.operands]) x' hx'
    have hy := hst ix (by simp [Op.operands]) y' hy'
    cases hk : ti.k with
    | arr n el =>
      simp only [hk] at hr
      obtain ⟨ei, hei, hr⟩ := BS hr
      exact .of_gives (by unfold execOp; rw [ho]) (YJ H (hT t ti hti) hk (hT el ei hei) hx hy hr)
    | string =>
      simp only [hk] at hr
      exact .of_gives (by unfold execOp; rw [ho]) (OX H (hT t ti hti) hk hx hy hr)
    | _ => simp only [hk] at hr; cases hr
  | extract x i =>
    rw [ho] at hr hst
    obtain ⟨x', hx', hr⟩ := CZ hr
    exact .of_gives (by unfold execOp; rw [ho]) (LD H (hst x (by simp [Op.operands]) x' hx') hr)
  | makeInterface t x =>
    rw [ho] at hr hst
    obtain ⟨ti, hti, hr⟩ := BS hr
    obtain ⟨x', hx', hr⟩ := CZ hr
    have hx := hst x (by simp [Op.operands]) x' hx'
    have hne : ti.k ≠ .iface := by intro hk; rw [hk] at hr; cases hr
    have hr' : Ia t x' F e h = .ok v h' := by revert hr hne; cases ti.k <;> intro hr hne <;> first | exact hr | exact absurd rfl hne
    exact .of_gives (by unfold execOp; rw [ho]) (Of H (hT t ti hti) hne hx hr')
  | makeFunc fn first cap =>
    rw [ho] at hr hst
    simp only [opC] at hr
    cases h1 : cOs f first.toList with
    | none => simp only [h1] at hr; cases hr
    | some fs =>
      cases h2 : cOs f cap.toList with
      | none => simp only [h1, h2] at hr; cases hr
      | some cs =>
        simp only [h1, h2] at hr
        refine .of_gives (s := Instr.makeFunc fn (first.map a.eval) (cap.map a.eval)) (by unfold execOp; rw [ho]) ?_
        have e1 : first.map a.eval = ⟨first.toList.map a.eval⟩ := by apply Array.ext'; simp
        have e2 : cap.map a.eval = ⟨cap.toList.map a.eval⟩ := by apply Array.ext'; simp
        rw [e1, e2]
        exact QX H (Jq h1 fun x hx => hst x (by simp [Op.operands] at hx ⊢; exact .inl hx)) (Jq h2 fun x hx => hst x (by simp [Op.operands] at hx ⊢; exact .inr hx)) hr
  | makeMap t r =>
    rw [ho] at hr hst
    cases r with
    | some _ => cases hr
    | none => exact .of_gives (by unfold execOp; rw [ho]; rfl) (Tf (F := F) (e := e) H (t := t) hr)
  | makeSlice t l c =>
    rw [ho] at hr hst
    obtain ⟨ti, hti, hr⟩ := BS hr
    cases hk : ti.k with
    | slice el =>
      simp only [hk] at hr
      obtain ⟨ei, hei, hr⟩ := BS hr
      obtain ⟨hz, hr⟩ := F6 hr
      obtain ⟨l', c', hl', hc', hr⟩ := Gr hr
      exact .of_gives (by unfold execOp; rw [ho]) (Qf H (hT t ti hti) hk (hT el ei hei) hz (hst l (by simp [Op.operands]) l' hl') (hst c (by simp [Op.operands]) c' hc') hr)
    | _ => simp only [hk] at hr; cases hr
  | sliceToArrayPointer t x =>
    rw [ho] at hr hst
    obtain ⟨ti, hti, hr⟩ := BS hr
    cases hk : ti.k with
    | arr n el =>
      simp only [hk] at hr
      cases n with
      | zero => cases hr
      | succ n =>
        obtain ⟨x', hx', hr⟩ := CZ hr
        exact .of_gives (by unfold execOp; rw [ho]) (TN H (hT t ti hti) hk (Nat.succ_pos _) (hst x (by simp [Op.operands]) x' hx') hr)
    | _ => simp only [hk] at hr; cases hr
  | slice t x lo hi mx =>
    rw [ho] at hr hst
    obtain ⟨ti, hti, hr⟩ := BS hr
    obtain ⟨x', hx', hr⟩ := CZ hr
    have hx := hst x (by simp [Op.operands]) x' hx'
    cases h1 : cOo f lo with
    | none => simp only [h1] at hr; cases hr
    | some lo' =>
      cases h2 : cOo f hi with
      | none => simp only [h1, h2] at hr; cases hr
      | some hi' =>
        cases h3 : cOo f mx with
        | none => simp only [h1, h2, h3] at hr; cases hr
        | some mx' =>
          simp only [h1, h2, h3] at hr
          have r1 : RelO φ e lo' (lo.map a.eval) := Lz h1 fun z hz => hst z (by rw [hz]; simp [Op.operands])
          have r2 : RelO φ e hi' (hi.map a.eval) := Lz h2 fun z hz => hst z (by rw [hz]; simp [Op.operands])
          have r3 : RelO φ e mx' (mx.map a.eval) := Lz h3 fun z hz => hst z (by rw [hz]; simp [Op.operands])
          cases hk : ti.k with
          | string =>
            simp only [hk] at hr
            cases mx' with
            | some _ => cases hr
            | none =>
              have hcut : Fs x' lo' hi' F e h = .ok v h' := hr
              have hmx : mx = none := by
                cases mx with
                | none => rfl
                | some z => cases r3
              subst hmx
              exact .of_gives (by unfold execOp; rw [ho]; rfl) (Mi H (hT t ti hti) hk hx r1 r2 hcut)
          | slice el =>
            simp only [hk] at hr
            obtain ⟨ei, hei, hr⟩ := BS hr
            exact .of_gives (by unfold execOp; rw [ho]) (Ta H (hT t ti hti) hk hei (hT el ei hei) hx r1 r2 r3 hr)
          | arr n el =>
            simp only [hk] at hr
            obtain ⟨ei, hei, hr⟩ := BS hr
            exact .of_gives (by unfold execOp; rw [ho]) (Mf H (hT t ti hti) hk (hT el ei hei) hx r1 r2 r3 hr)
          | _ => simp only [hk] at hr; cases hr
  | convert src dst x =>
    rw [ho] at hr hst hE
    obtain ⟨si, hsi, hr⟩ := BS hr
    obtain ⟨di, hdi, hr⟩ := BS hr
    obtain ⟨x', hx', hr⟩ := CZ hr
    have hx := hst x (by simp [Op.operands]) x' hx'
    have hex : execOp a.eval o = (do pure (.value (← convert src dst (a.eval x)))) := by unfold execOp; rw [ho]
    obtain ⟨ds, hds, ks⟩ := (hT src si hsi).und
    obtain ⟨dd, hdd, kd⟩ := (hT dst di hdi).und
    cases hk : di.k with
    | int k =>
      cases hk2 : si.k with
      | int k2 =>
        simp only [hk, hk2] at hr
        obtain ⟨q, n, hxe, hg⟩ := QQ (P := P) H hx hr
        rw [hk] at kd; cases kd
        rw [hk2] at ks; cases ks
        refine .of_gives hex ?_
        rw [hxe]
        have : (convert src dst (.int q n)).run P w = (Conv.intToInt k n).run P w := by
          simp only [convert, Sem.run_bind, run_underlying hds, run_underlying hdd, Result.andThen_ok]
        rw [this]; exact hg
      | _ => simp only [hk, hk2] at hr; cases hr
    | string =>
      cases hk2 : si.k with
      | string =>
        simp only [hk, hk2] at hr
        obtain ⟨s, hxe, hg⟩ := Qo H hx hr
        rw [hk] at kd; cases kd
        rw [hk2] at ks; cases ks
        refine .of_gives hex ?_
        rw [hxe] at hg ⊢
        have : (convert src dst (.string s)).run P w = .ok (.string s) w := by
          simp only [convert, Sem.run_bind, run_underlying hds, run_underlying hdd, Result.andThen_ok, Sem.run_pure]
        rw [this]; exact hg
      | slice el =>
        simp only [hk, hk2] at hr
        obtain ⟨ei, hei, hr⟩ := BS hr
        cases hk3 : ei.k with
        | int k3 =>
          cases k3 <;> simp only [hk3] at hr <;> first | (cases hr; done) | skip
          refine .of_gives hex (Oq H (fun a l c hxe => ?_) (hT src si hsi) hk2 (hT dst di hdi) hk (hT el ei hei) hk3 hx hr)
          cases hb : Nat.beq src dst with
          | true => exact EV (by simp only [Go.Proofs.Ythcfmklkbakkpaa.kd, hb]) hE _
          | false =>
            have hi : IO ty src = false := by unfold IO; rw [hsi]; simp only [hk2]
            have hi2 : FR ty dst = false := by unfold FR; rw [hdi]; simp only [hk]
            have hkd : Go.Proofs.Ythcfmklkbakkpaa.kd ty (.convert src dst x) = .r x := by simp only [Go.Proofs.Ythcfmklkbakkpaa.kd, hb, hi, hi2]
            unfold FJ at hE
            rw [hkd] at hE
            exact hE x' hx' _ (by rw [hxe]; rfl)
        | _ => simp only [hk3] at hr; cases hr
      | _ => simp only [hk, hk2] at hr; cases hr
    | slice el =>
      cases hk2 : si.k with
      | string =>
        simp only [hk, hk2] at hr
        obtain ⟨ei, hei, hr⟩ := BS hr
        cases hk3 : ei.k with
        | int k3 =>
          cases k3 <;> simp only [hk3] at hr <;> first | (cases hr; done) | skip
          cases hb : Nat.beq ei.size 1 with
          | false => rw [hb] at hr; cases hr
          | true =>
            rw [hb] at hr
            exact .of_gives hex (LL H (hT src si hsi) hk2 (hT dst di hdi) hk (hT el ei hei) hk3 hei (A1.1 hb) hx hr)
        | _ => simp only [hk3] at hr; cases hr
      | slice el2 =>
        simp only [hk, hk2] at hr
        cases hb : Nat.beq src dst with
        | false => rw [hb] at hr; cases hr
        | true =>
          rw [hb] at hr
          have heq : src = dst := A1.1 hb
          have hE' := EV (by simp only [Go.Proofs.Ythcfmklkbakkpaa.kd, hb]) hE
          obtain ⟨ei, hei, hr⟩ := BS hr
          cases hk3 : ei.k with
          | int k3 =>
            cases k3 <;> simp only [hk3] at hr <;> first | (cases hr; done) | skip
            have hg := OY (P := P) H hE' (hT dst di hdi) hk (hT el ei hei) hk3 hx hr
            rw [heq] at hex
            exact .of_gives hex hg
          | _ => simp only [hk3] at hr; cases hr
      | _ => simp only [hk, hk2] at hr; cases hr
    | _ => simp only [hk] at hr; cases hr
  | call c =>
    rw [ho] at hr hst hE
    simp only [opC] at hr
    cases h1 : cOs f c.args.toList with
    | none => simp only [h1] at hr; cases hr
    | some args =>
      simp only [h1] at hr
      have ha : RelL φ (vals e args) (c.args.toList.map a.eval) := Jq h1 fun x hx => hst x (by
        unfold Op.operands Call.operands
        cases hc : c.callee <;> simp [hc] <;> first | exact Or.inr (by simpa using hx) | exact (by simpa using hx))
      cases hc : c.callee with
      | builtin b =>
        simp only [hc] at hr
        refine PX hT H hc ho ha ?_ hr
        cases b with
        | len =>
          refine .inr (.inr (.inr ⟨rfl, fun x hx t ti ht hti hm r hxr => ?_⟩))
          subst hx
          cases hl : c.args.toList with
          | nil => rw [hl] at h1; cases h1
          | cons x0 l =>
            cases l with
            | cons x1 l =>
              rw [hl] at h1
              unfold cOs at h1
              cases hx0 : cO f x0 with
              | none => rw [hx0] at h1; cases h1
              | some y0 =>
                rw [hx0] at h1
                cases hx1 : cOs f (x1 :: l) with
                | none => rw [hx1] at h1; cases h1
                | some ys =>
                  rw [hx1] at h1
                  cases h1
                  unfold cOs at hx1
                  cases hq : cO f x1 with
                  | none => rw [hq] at hx1; cases hx1
                  | some y1 =>
                    rw [hq] at hx1
                    cases hq2 : cOs f l with
                    | none => rw [hq2] at hx1; cases hx1
                    | some ys => rw [hq2] at hx1; cases hx1
            | nil =>
              rw [hl] at h1
              have hx0 : cO f x0 = some x := by
                unfold cOs at h1
                cases hx0 : cO f x0 with
                | none => rw [hx0] at h1; cases h1
                | some y0 => rw [hx0] at h1; cases h1; rfl
              obtain ⟨k, q, hm⟩ := hm
              have hmap : MS ty (c.argTypes.getD 0 0) = true := by
                have : c.argTypes.getD 0 0 = t := by rw [Array.getD_eq_getD_getElem?, ht]; rfl
                rw [this]; unfold MS; rw [hti]; simp only [hm]
              have hk : kd ty (.call c) = .r x0 := by simp only [kd, hc, hl, hmap]
              unfold FJ at hE
              rw [hk] at hE
              exact hE x hx0 r (by rw [hxr]; rfl)
        | min => exact .inr (.inl rfl)
        | max => exact .inr (.inr (.inl rfl))
        | _ =>
          refine .inl ?_
          cases hl : c.args.toList with
          | nil => exact EV (by simp only [kd, hc, hl]) hE
          | cons x l => exact Hs (x := x) (by simp only [kd, hc, hl]) hE
      | value g =>
        simp only [hc] at hr
        have hE' : ∀ b, ¬ E b := EV (by simp only [kd, hc]) hE
        cases g with
        | func g => exact QL hF H hE' hc ho ha hr
        | tmp t =>
          obtain ⟨g', hg', hr⟩ := CZ hr
          exact HC hF H hE' hc ho (hst (.tmp t) (by unfold Op.operands Call.operands; simp [hc]) g' hg') ha hr
        | const t =>
          obtain ⟨g', hg', hr⟩ := CZ hr
          exact HC hF H hE' hc ho (hst (.const t) (by unfold Op.operands Call.operands; simp [hc]) g' hg') ha hr
        | global t =>
          obtain ⟨g', hg', hr⟩ := CZ hr
          exact HC hF H hE' hc ho (hst (.global t) (by unfold Op.operands Call.operands; simp [hc]) g' hg') ha hr
      | invoke recv name =>
        simp only [hc] at hr
        have hE' : ∀ b, ¬ E b := EV (by simp only [kd, hc]) hE
        obtain ⟨x', hx', hr⟩ := CZ hr
        exact Mo hT hF H hE' hc ho (hst recv (by unfold Op.operands Call.operands; simp [hc]) x' hx') ha hr
  | lookup t x ix ok =>
    rw [ho] at hr hst hE
    obtain ⟨ti, hti, hr⟩ := BS hr
    obtain ⟨x', ix', hx', hix', hr⟩ := Gr hr
    cases hk : ti.k with
    | map kt el =>
      simp only [hk] at hr
      obtain ⟨ei, hei, hr⟩ := BS hr
      obtain ⟨hz, hr⟩ := F6 hr
      unfold wZero at hr
      cases hzv : zeroV ei with
      | none => rw [hzv] at hr; cases hr
      | some z =>
        rw [hzv] at hr
        obtain ⟨ti2, kt2, el2, K, hti2, hk2, hK, hr⟩ := Ht hr
        rw [hti] at hti2; cases hti2
        rw [hk] at hk2; cases hk2
        refine .of_gives (by unfold execOp; rw [ho]) (Mq hT H (hT t ti hti) hk (hT el ei hei) hz hzv hK (hst x (by simp [Op.operands]) x' hx') (hst ix (by simp [Op.operands]) ix' hix') (fun r hxr => ?_) hr)
        have hkd : kd ty (.lookup t x ix ok) = .r x := rfl
        unfold FJ at hE
        rw [hkd] at hE
        exact hE x' hx' r (by rw [hxr]; rfl)
    | _ => simp only [hk] at hr; cases hr
  | mapUpdate t m k x =>
    rw [ho] at hr hst hE
    obtain ⟨ti, kt, el, K, hti, hk, hK, hr⟩ := Ht (k := fun ks => w1 f m fun m => w2 f k x fun key x => Fu ks m key x) hr
    obtain ⟨m', hm', hr⟩ := CZ hr
    obtain ⟨k', x', hk', hx', hr⟩ := Gr hr
    exact .of_skips (by unfold execOp; rw [ho]) (Id hT H (Hs (x := m) rfl hE) (hT t ti hti) hk hK (hst m (by simp [Op.operands]) m' hm') (hst k (by simp [Op.operands]) k' hk') (hst x (by simp [Op.operands]) x' hx') hr)
  | insert t m k x =>
    rw [ho] at hr hst hE
    obtain ⟨ti, kt, el, K, hti, hk, hK, hr⟩ := Ht (k := fun ks => w1 f m fun m => w2 f k x fun key x => Fu ks m key x) hr
    obtain ⟨m', hm', hr⟩ := CZ hr
    obtain ⟨k', x', hk', hx', hr⟩ := Gr hr
    exact .of_skips (by unfold execOp; rw [ho]) (Id hT H (Hs (x := m) rfl hE) (hT t ti hti) hk hK (hst m (by simp [Op.operands]) m' hm') (hst k (by simp [Op.operands]) k' hk') (hst x (by simp [Op.operands]) x' hx') hr)
  | range t x =>
    rw [ho] at hr hst hE
    obtain ⟨ti, hti, hr⟩ := BS hr
    cases hk : ti.k with
    | map k q =>
      simp only [hk] at hr
      obtain ⟨x', hx', hr⟩ := CZ hr
      exact .of_gives (by unfold execOp; rw [ho]) (Ol H (EV rfl hE) (hT t ti hti) hk (hst x (by simp [Op.operands]) x' hx') hr)
    | _ => simp only [hk] at hr; cases hr
  | next x s =>
    rw [ho] at hr hst hE
    cases s with
    | true => cases hr
    | false =>
      obtain ⟨x', hx', hr⟩ := CZ hr
      exact .of_gives (by unfold execOp; rw [ho]) (Qi (t := o.type) H (EV rfl hE) (hst x (by simp [Op.operands]) x' hx') hr)
  | entry x =>
    rw [ho] at hr hst hE
    obtain ⟨x', hx', hr⟩ := CZ hr
    exact .of_gives (by unfold execOp; rw [ho]) (Ob H (EV rfl hE) (hst x (by simp [Op.operands]) x' hx') hr)
  | typeAssert x xt t ok =>
    rw [ho] at hr hst hE
    obtain ⟨ti, hti, hr⟩ := BS hr
    obtain ⟨x', hx', hr⟩ := CZ hr
    have hr2 : ti.k ≠ .iface ∧ wZ ti (wZero ti fun z => Hj t ok z x') F e h = .ok v h' := by
      cases hk : ti.k with
      | iface => simp only [hk] at hr; cases hr
      | _ => simp only [hk] at hr; exact ⟨nofun, hr⟩
    obtain ⟨hki, hr⟩ := hr2
    obtain ⟨hz, hr⟩ := F6 hr
    unfold wZero at hr
    cases hzv : zeroV ti with
    | none => rw [hzv] at hr; cases hr
    | some z =>
      rw [hzv] at hr
      exact .of_gives (by unfold execOp; rw [ho]) (MZ H (hT t ti hti) hki hz hzv (hst x (by simp [Op.operands]) x' hx') hr)
  | _ => rw [ho] at hr; cases hr
end
end
end Go.Proofs.Ythcfmklkbakkpaa
set_option linter.unusedSimpArgs false
set_option linter.unusedVariables false
namespace Go.Proofs.Ythcfmklkbakkpaa
noncomputable section
open Go
def cr (h : Hp) : R → R
  | .ok v _ => .ok v h
  | .no => .no
def Kr (g : Hp → R) : Prop := ∀ h h2 : Hp, h2.bl = h.bl → g h2 = cr h2 (g h)
def Kp (g : OpF) : Prop := ∀ F e, Kr (g F e)
theorem Kr.same {g : Hp → R} (k : Kr g) {h h' : Hp} {v : Value} (hr : g h = .ok v h') : h' = h := by
  have := k h h rfl
  rw [hr] at this
  have : (R.ok v h') = .ok v h := this
  cases this; rfl
theorem Kr.at {g : Hp → R} (k : Kr g) {h h' : Hp} {v : Value} (hr : g h = .ok v h') (h2 : Hp) (hb : h2.bl = h.bl) : g h2 = .ok v h2 := by
  rw [k h h2 hb, hr]; rfl
theorem Kr.no : Kr fun _ => .no := fun _ _ _ => rfl
theorem Kr.ok (v : Value) : Kr fun h => .ok v h := fun _ _ _ => rfl
theorem Kr.bif {c : Bool} {a b : Hp → R} (ka : Kr a) (kb : Kr b) : Kr fun h => bif c then a h else b h := by
  cases c
  · exact kb
  · exact ka
theorem Kr.forceV {v : Value} {k : Value → Hp → R} (hk : ∀ v, Kr (k v)) : Kr fun h => forceV v fun v => k v h := by
  intro h h2 hb; simp only [BR]; exact hk v h h2 hb
theorem Kr.forceL {v : List Value} {k : List Value → Hp → R} (hk : ∀ v, Kr (k v)) : Kr fun h => forceL v fun v => k v h := by
  intro h h2 hb; simp only [CA]; exact hk v h h2 hb
theorem Kr.forceN {v : Nat} {k : Nat → Hp → R} (hk : ∀ v, Kr (k v)) : Kr fun h => forceN v fun v => k v h := by
  intro h h2 hb; simp only [A0]; exact hk v h h2 hb
theorem Kr.okI (k : IntKind) (n : Int) : Kr fun h => okI k n h := fun h h2 _ => by simp only [FX]; rfl
theorem Kr.moveR (v : Value) : Kr fun h => moveR v h := fun h h2 _ => by simp only [Dn]; rfl
theorem Kr.okB (b : Bool) : Kr fun h => okB b h := by cases b <;> exact .ok _
theorem Kr.row {b : Nat} {k : VT → Nat → Nat → Hp → R} {z : Hp → R} (hk : ∀ c s e, Kr (k c s e)) (hz : Kr z) : Kr fun h => match rowOf h b with
    | .ok c s e => k c s e h
    | .no => z h := by
  intro h h2 hb
  have : rowOf h2 b = rowOf h b := by unfold rowOf; rw [hb]
  simp only [this]
  cases rowOf h b with
  | ok c s e => exact hk c s e h h2 hb
  | no => exact hz h h2 hb
theorem Kr.ents {b : Nat} {k : List Ent → Nat → Hp → R} {z : Hp → R} (hk : ∀ c s, Kr (k c s)) (hz : Kr z) : Kr fun h => match Ch h b with
    | .ok c s => k c s h
    | .no => z h := by
  intro h h2 hb
  have : Ch h2 b = Ch h b := by unfold Ch; rw [hb]
  simp only [this]
  cases Ch h b with
  | ok c s => exact hk c s h h2 hb
  | no => exact hz h h2 hb
theorem NW {c : VT} {off : Nat} {k : List Value → Hp → R} (hk : ∀ l, Kr (k l)) (n : Nat) (acc : List Value) : Kr fun h => MO c off (fun l => k l h) n acc := by
  intro h h2 hb; simp only [EM]; exact hk _ h h2 hb
theorem FL {e : Env} {x : Option O} {d y : Nat} {k : Nat → Hp → R} (hk : ∀ n, Kr (k n)) : Kr fun h => DS e x d y fun n => k n h := by
  unfold DS
  cases x with
  | none => exact hk d
  | some o =>
    simp only
    cases C9 (o e) with
    | no => exact .no
    | ok n => exact .bif (hk n) .no
theorem Gw {e : Env} {l c : Nat} {lo hi mx : Option O} {k : Nat → Nat → Nat → Hp → R} (hk : ∀ a b c, Kr (k a b c)) : Kr fun h => EW e l c lo hi mx fun a b c => k a b c h := by
  unfold EW
  cases mx with
  | none => exact FL (k := fun hh h => DS e lo 0 hh fun l => k l hh c h) fun hh => FL (k := fun l h => k l hh c h) fun l => hk l hh c
  | some m =>
    refine FL (k := fun m h => _) fun m => ?_
    cases hi with
    | none => exact .no
    | some hh => exact FL (k := fun hh h => DS e lo 0 hh fun l => k l hh m h) fun hh => FL (k := fun l h => k l hh m h) fun l => hk l hh m
theorem E9 {a : Option Addr} {s l hh m : Nat} : Kr fun h => CW a s l hh m h := by
  unfold CW
  refine .forceN (k := fun n h => _) fun n => .forceN (k := fun c h => _) fun c => ?_
  cases Nat.beq m l with
  | true => exact .ok _
  | false =>
    cases a with
    | none => exact .ok _
    | some a =>
      simp only
      cases Nat.mul l s with
      | zero => exact .ok _
      | succ m => exact .forceN (k := fun o h => _) fun o => .ok _
theorem LP {g : Bool} {s : Nat} {cs : List Value} {off : Nat} : Kr fun h => JY g s cs off h := by
  unfold JY
  cases g with
  | true => exact .forceL (k := fun l h => _) fun l => .ok _
  | false =>
    simp only
    cases nth cs off with
    | none => exact .no
    | some v => exact .forceV (k := fun l h => _) fun l => .ok _
theorem Ka {e : Env} {k : List Value → Hp → R} (hk : ∀ l, Kr (k l)) : ∀ (ps : List (Nat × Nat × O)) (cs : List Value), Kr fun h => DT cs e (fun l => k l h) ps
  | [], cs => by
    unfold DT; exact .forceL (k := k) hk
  | (off, size, x) :: ps, cs => by
    unfold DT
    exact .forceV (k := fun v h => _) fun v => .bif (.bif (.bif (Ka hk ps _) .no) .no) .no
theorem IP {ok : Bool} {v : Value} {b : Bool} : Kr fun h => C1 ok v b h := by
  unfold C1
  cases ok
  · exact .forceV (k := fun v h => _) fun v => .ok _
  · exact .forceV (k := fun v h => _) fun v => .ok _
theorem LS {a : Addr} {n : Nat} : Kr fun h => JZ a n h := .forceN (k := fun o h => _) fun o => .ok _
theorem Ll {size : Nat} {v : Value} {n : Nat} {k : List Value → Hp → R} (hk : ∀ l, Kr (k l)) : Kr fun h => BL h size v n fun l => k l h := by
  unfold BL
  cases v with
  | slice a l c =>
    cases a with
    | none => exact hk []
    | some a => exact .row (k := fun c s _ h => bif Nat.ble (Nat.add a.off (Nat.mul n size)) s then MO c a.off (fun l => k l h) (Nat.mul n size) [] else .no) (z := fun _ => .no) (fun c s _ => .bif (NW hk _ _) .no) .no
  | string s => exact .bif (hk _) .no
  | chan c =>
    cases c with
    | none => exact .no
    | some r => exact hk []
  | _ => exact .no
end
end Go.Proofs.Ythcfmklkbakkpaa
set_option linter.unusedSimpArgs false
set_option linter.unusedVariables false
namespace Go.Proofs.Ythcfmklkbakkpaa
noncomputable section
open Go
theorem Kp.oNo : Kp oNo := fun _ _ => .no
theorem Kp.w1 {f : Fr} {x : Operand} {k : O → OpF} (hk : ∀ y, Kp (k y)) : Kp (w1 f x k) := by
  unfold Go.Proofs.Ythcfmklkbakkpaa.w1; split
  · exact hk _
  · exact .oNo
theorem Kp.w2 {f : Fr} {x y : Operand} {k : O → O → OpF} (hk : ∀ x y, Kp (k x y)) : Kp (w2 f x y k) := .w1 fun x => .w1 fun y => hk x y
theorem Kp.wTy {ty : TTy} {t : Nat} {k : TI → OpF} (hk : ∀ ti, ty.get t = some ti → Kp (k ti)) : Kp (wTy ty t k) := by
  unfold Go.Proofs.Ythcfmklkbakkpaa.wTy; split
  · rename_i ti h; exact hk ti h
  · exact .oNo
theorem Kp.wZ {ti : TI} {k : OpF} (hk : Kp k) : Kp (wZ ti k) := by
  unfold Go.Proofs.Ythcfmklkbakkpaa.wZ; split
  · exact hk
  · exact .oNo
theorem Kp.wZero {ti : TI} {k : Value → OpF} (hk : ∀ z, Kp (k z)) : Kp (wZero ti k) := by
  unfold Go.Proofs.Ythcfmklkbakkpaa.wZero; split
  · exact hk _
  · exact .oNo
theorem Kp.wKey {ty : TTy} {t : Nat} {k : KS → OpF} (hk : ∀ z, Kp (k z)) : Kp (wKey ty t k) := by
  unfold Go.Proofs.Ythcfmklkbakkpaa.wKey
  refine .wTy fun ti _ => ?_
  split
  · refine .wTy fun ki _ => ?_
    split
    · exact hk _
    · exact .oNo
  · exact .oNo
section
variable {x y z : O}
theorem Ib : Kp (AF x) := fun F e => .moveR _
theorem Qk : Kp (AW x y z) := fun F e => by
  show Kr fun h => Qx (x e) (y e) (z e) h
  cases x e with
  | bool t => cases t <;> exact .moveR _
  | _ => exact .no
theorem JU {zs : List Value} {ps : List (Nat × Nat × O)} : Kp (A8 zs ps) := fun F e => Ka (k := fun cs h => .ok (.agg ⟨cs⟩) h) (fun l => .ok _) ps zs
theorem Tm : Kp (Bx x) := fun F e => by
  show Kr fun h => OU (x e) h
  unfold OU
  cases x e with
  | pointer a => cases a; exact .no; exact .ok _
  | func f a b => cases f <;> first | exact .ok _ | exact .no
  | slice a n c => exact .ok _
  | map m => exact .ok _
  | iface t v => exact .forceV (k := fun v h => .ok (.iface t v) h) fun v => .ok _
  | _ => exact .no
theorem TV {f : Int → Int → Bool} {k : IntKind} : Kp (AS f k x y) := fun F e => by
  show Kr fun h => SI f (CH k (x e)) (CH k (y e)) h
  cases CH k (x e) with
  | no => exact .no
  | ok a => cases CH k (y e) with
    | no => exact .no
    | ok b => exact .okB _
theorem TL {f : Int → Int → Int} {k : IntKind} : Kp (DF f k x y) := fun F e => by
  show Kr fun h => VO f k (CH k (x e)) (CH k (y e)) h
  cases CH k (x e) with
  | no => exact .no
  | ok a => cases CH k (y e) with
    | no => exact .no
    | ok b => exact .okI _ _
theorem TH {k : IntKind} {top : Nat} : Kp (A9 k top x y) := fun F e => by
  show Kr fun h => Rf k top (CH k (x e)) (CH k (y e)) h
  cases CH k (x e) with
  | no => exact .no
  | ok a => cases CH k (y e) with
    | no => exact .no
    | ok b =>
      cases a with
      | negSucc _ => exact .okI _ _
      | ofNat a => cases b with
        | negSucc _ => exact .okI _ _
        | ofNat b =>
          unfold Rf
          simp only
          cases Nat.ble (Nat.add a b) top with
          | true => exact .forceN (k := fun n h => .ok (.int k (.ofNat n)) h) fun n => .ok _
          | false => exact .okI _ _
theorem Tb {k : IntKind} : Kp (QU k x y) := fun F e => by
  show Kr fun h => SW k (CH k (x e)) (CH k (y e)) h
  unfold SW
  cases CH k (x e) with
  | no => exact .no
  | ok a => cases CH k (y e) with
    | no => exact .no
    | ok b => exact .bif .no (.okI _ _)
theorem Tq {k : IntKind} : Kp (E4 k x y) := fun F e => by
  show Kr fun h => Q1 k (CH k (x e)) (CH k (y e)) h
  unfold Q1
  cases CH k (x e) with
  | no => exact .no
  | ok a => cases CH k (y e) with
    | no => exact .no
    | ok b => exact .bif .no (.okI _ _)
theorem TO {f : Nat → Nat → Nat} {k : IntKind} : Kp (J8 f k x y) := fun F e => by
  show Kr fun h => Ru f k (F0 k (x e)) (F0 k (y e)) h
  unfold Ru
  cases F0 k (x e) with
  | no => exact .no
  | ok a => cases F0 k (y e) with
    | no => exact .no
    | ok b => exact .bif (.bif (.okI _ _) .no) .no
theorem Tt {k : IntKind} : Kp (Qp k x y) := fun F e => by
  show Kr fun h => UH k (F0 k (x e)) (C9 (y e)) h
  unfold UH
  cases F0 k (x e) with
  | no => exact .no
  | ok a => cases C9 (y e) with
    | no => exact .no
    | ok b => exact .okI _ _
theorem Tv {k : IntKind} : Kp (Mt k x y) := fun F e => by
  show Kr fun h => UI k (F0 k (x e)) (C9 (y e)) h
  unfold UI
  cases F0 k (x e) with
  | no => exact .no
  | ok a => cases C9 (y e) with
    | no => exact .no
    | ok b => exact .okI _ _
theorem Ty {f : List UInt8 → List UInt8 → Bool} : Kp (HF f x y) := fun F e => by
  show Kr fun h => RL f (x e) (y e) h
  unfold RL
  cases x e with
  | string a => cases y e with
    | string b => exact .okB _
    | _ => exact .no
  | _ => exact .no
theorem TT : Kp (TR x y) := fun F e => by
  show Kr fun h => SE (x e) (y e) h
  unfold SE
  cases x e with
  | string a => cases y e with
    | string b => exact .bif (.ok _) .no
    | _ => exact .no
  | _ => exact .no
theorem YK {k : TK} {n : Bool} : Kp (oEq k n x y) := fun F e => by
  unfold oEq
  cases eqV k (x e) (y e) with
  | some r => exact .okB _
  | none => exact .no
theorem Qj {n : Bool} : Kp (JV n x) := fun F e => by
  show Kr fun h => QJ n (x e) h
  unfold QJ
  cases x e <;> first | exact .okB _ | exact .no
theorem Nw {k : KS} {n : Bool} : Kp (Eo k n x y) := fun F e => by
  unfold Eo
  cases eqC k (x e) (y e) with
  | some r => exact .okB _
  | none => exact .no
theorem To : Kp (BF x) := fun F e => by
  unfold BF
  cases x e with
  | bool b => exact .okB _
  | _ => exact .no
theorem TW : Kp (QT x) := fun F e => by
  unfold QT
  cases F0 .u8 (x e) with
  | no => exact .no
  | ok n => exact .bif (.okI _ _) .no
theorem Tk {k : IntKind} : Kp (Qg k x) := fun F e => by
  unfold Qg
  cases CH k (x e) with
  | no => exact .no
  | ok n => exact .okI _ _
theorem QP {k : IntKind} : Kp (CX k x) := fun F e => by
  unfold CX
  cases OO (x e) with
  | no => exact .no
  | ok n => exact .okI _ _
theorem Qn : Kp (LK x) := fun F e => by
  unfold LK
  cases x e with
  | string b => exact .ok _
  | _ => exact .no
theorem Oo : Kp (EZ x) := fun F e => by
  unfold EZ
  cases x e with
  | slice a n c =>
    refine Ll (k := fun cs h => match bytesOf cs with | some bs => .ok (.string ⟨⟨bs⟩⟩) h | none => .no) fun l => ?_
    cases bytesOf l with
    | some bs => exact .ok _
    | none => exact .no
  | _ => exact .no
theorem Oe {t : Nat} : Kp (Ia t x) := fun F e => .forceV (k := fun v h => .ok (.iface t v) h) fun v => .ok _
theorem QW {fn : Fn} {a b : List O} : Kp (Do fn a b) := fun F e => .forceL (k := fun f h => forceL (vals e b) fun c => .ok (.func fn ⟨f⟩ ⟨c⟩) h) fun f => .forceL (k := fun c h => .ok (.func fn ⟨f⟩ ⟨c⟩) h) fun c => .ok _
theorem Mh {lo hi : Option O} : Kp (Fs x lo hi) := fun F e => by
  unfold Fs
  cases x e with
  | string s => exact Gw (k := fun l hh _ h => .ok (.string ⟨⟨HV (Nat.sub hh l) (IB l s.data.toList)⟩⟩) h) fun a b c => .ok _
  | _ => exact .no
theorem SK {el s : Nat} {a : Option Addr} {mx : Bool} {l hh m : Nat} : Kr fun h => F8 el s a mx l hh m h := by
  unfold F8
  cases mx with
  | true => exact E9
  | false =>
    cases l with
    | zero => exact E9
    | succ l =>
      intro h h2 hb
      have : F3 el a h2 = F3 el a h := by
        unfold F3
        cases a with
        | none => rfl
        | some a =>
          have : rowOf h2 a.block = rowOf h a.block := by unfold rowOf; rw [hb]
          simp only [this]
      simp only [this]
      cases F3 el a h with
      | true => exact E9 h h2 hb
      | false => rfl
theorem TZ {el s : Nat} {lo hi mx : Option O} : Kp (Ct el s x lo hi mx) := fun F e => by
  unfold Ct
  cases x e with
  | slice a n c => exact Gw (k := fun l hh m h => F8 el s a mx.isSome l hh m h) fun _ _ _ => SK
  | _ => exact .no
theorem Me {n s : Nat} {lo hi mx : Option O} : Kp (Gf n s x lo hi mx) := fun F e => by
  unfold Gf
  cases DG (x e) with
  | ok a => exact Gw (k := fun l hh m h => CW (some a) s l hh m h) fun _ _ _ => E9
  | no => exact .no
theorem Ir {o : Nat} : Kp (AD o x) := fun F e => by
  unfold AD
  cases DG (x e) with
  | ok a => exact LS
  | no => exact .no
theorem Oc {g : Bool} {s o : Nat} : Kp (HE g s o x) := fun F e => by
  unfold HE
  cases x e with
  | agg cs => exact LP
  | _ => exact .no
theorem Nb {n s : Nat} {a : AA} {i : NN} : Kr fun h => Ip n s a i h := by
  unfold Ip
  cases i with
  | no => exact .no
  | ok i =>
    simp only
    cases Nat.blt i n with
    | false => exact .no
    | true =>
      cases a with
      | no => exact .no
      | ok a => exact LS
theorem Ml {n s : Nat} : Kp (CV n s x y) := fun F e => Nb
theorem Td {s : Nat} : Kp (A2 s x y) := fun F e => by
  unfold A2
  cases x e with
  | slice a n c => cases a; exact .no; exact Nb
  | _ => exact .no
theorem YI {g : Bool} {n s : Nat} : Kp (oAt g n s x y) := fun F e => by
  show Kr fun h => atF g n s (x e) (C9 (y e)) h
  unfold atF
  cases C9 (y e) with
  | no => exact .no
  | ok i =>
    refine .bif ?_ .no
    cases x e with
    | agg cs => exact LP
    | _ => exact .no
theorem OW : Kp (IY x y) := fun F e => by
  show Kr fun h => Jm (x e) (C9 (y e)) h
  unfold Jm
  cases C9 (y e) with
  | no => exact .no
  | ok i =>
    simp only
    cases x e with
    | string s =>
      simp only
      cases nth s.data.toList i with
      | some b => exact .okI _ _
      | none => exact .no
    | _ => exact .no
theorem LC {i : Nat} : Kp (Ah i x) := fun F e => by
  unfold Ah
  cases x e with
  | tuple vs =>
    simp only
    cases nth vs.toList i with
    | some v => exact .forceV (k := fun v h => .ok v h) fun v => .ok v
    | none => exact .no
  | _ => exact .no
theorem TM {n : Nat} : Kp (QK n x) := fun F e => by
  unfold QK
  cases x e with
  | slice a l c => cases a; exact .no; exact .bif (.ok _) .no
  | _ => exact .no
theorem Qa : Kp (Am x) := fun F e => by
  unfold Am
  cases x e with
  | slice a n c => exact .ok _
  | chan o => cases o; exact .no; exact .ok _
  | _ => exact .no
theorem Qc : Kp (LF x) := fun F e => by
  unfold LF
  cases x e with
  | string s => exact .forceN (k := fun n h => .ok (.int .i64 (.ofNat n)) h) fun n => .ok _
  | _ => exact .no
theorem QY : Kp (LE x) := fun F e => by
  unfold LE
  cases x e with
  | map r =>
    cases r with
    | none => exact .ok _
    | some r => exact .ents (k := fun es _ h => forceN (Bk es) fun n => .ok (.int .i64 (.ofNat n)) h) (z := fun _ => .no) (fun es _ => .forceN (k := fun n h => .ok (.int .i64 (.ofNat n)) h) fun n => .ok _) .no
  | _ => exact .no
theorem JO {l : Bool} {a b : Value} : Kr fun h => GD l a b h := by
  unfold GD
  cases a with
  | int k a =>
    simp only
    cases OO b with
    | no => exact .no
    | ok b => exact .bif (.ok _) (.ok _)
  | _ => exact .no
theorem Ti : Kp (Mr x y) := fun F e => JO
theorem Tg : Kp (YM x y) := fun F e => JO
theorem Oh : Kp (AH x) := fun F e => by
  unfold AH
  cases DG (x e) with
  | no => exact .no
  | ok a =>
    intro h h2 hb
    show load1 a h2 = cr h2 (load1 a h)
    have : rowOf h2 a.block = rowOf h a.block := by unfold rowOf; rw [hb]
    unfold load1
    rw [this]
    cases rowOf h a.block with
    | no => rfl
    | ok c s t =>
      simp only
      cases Nat.blt a.off s with
      | false => rfl
      | true => simp only [BR]; rfl
theorem Oj {n : Nat} : Kp (AL n x) := fun F e => by
  unfold AL
  cases DG (x e) with
  | no => exact .no
  | ok a => exact .row (k := fun c s _ h => bif Nat.ble (Nat.add a.off n) s then MO c a.off (fun l => .ok (.agg ⟨l⟩) h) n [] else .no) (z := fun _ => .no) (fun c s _ => .bif (NW (k := fun l h => .ok (.agg ⟨l⟩) h) (fun l => .ok _) _ _) .no) .no
theorem Mp {K : KS} {zv : Value} {ok : Bool} : Kp (Ho K zv ok x y) := fun F e => by
  show Kr fun h => Hh K zv (x e) (y e) ok h
  unfold Hh
  cases EH K (y e) with
  | false => exact .no
  | true =>
    simp only
    cases x e with
    | map r =>
      cases r with
      | none => exact IP
      | some r =>
        refine .ents (k := fun es _ h => match I6 K (y e) es with
          | some (some en) => C1 ok en.val true h
          | some none => C1 ok zv false h
          | none => .no) (z := fun _ => .no) (fun es _ => ?_) .no
        cases I6 K (y e) es with
        | none => exact .no
        | some o => cases o <;> exact IP
    | _ => exact .no
end
section
variable {ty : TTy} {f : Fr}
theorem Rt {op : BinOp} {t : Nat} {x y : Operand} : Kp (PT ty f op t x y) := by
  unfold PT
  refine .wTy fun ti _ => .w2 fun x y => ?_
  split
  · split
    · cases op <;> first | exact Qj | exact .oNo
    · exact .oNo
  · cases op <;> first | exact TH | exact TL | exact Tb | exact Tq | exact TO | exact Tt | exact Tv | exact TV | exact .oNo
  · cases op <;> first | exact TT | exact Ty | exact .oNo
  · split
    · cases op <;> first | exact Nw | exact .oNo
    · exact .oNo
  · split
    · cases op <;> first | exact Nw | exact .oNo
    · exact .oNo
  · cases op <;> first | exact YK | exact .oNo
theorem YN {op : Op} (hk : kd ty op = .p ∨ ∃ x, kd ty op = .r x) : Kp (opC ty f op) := by
  cases op with
  | move x => exact .w1 fun x => Ib
  | assign x => exact .w1 fun x => Ib
  | pick c a b => exact .w1 fun c => .w2 fun a b => Qk
  | build t ps =>
    refine .wTy fun ti _ => .wZ ?_
    split
    · split
      · exact JU
      · exact .oNo
    · refine .wTy fun ei _ => ?_
      split
      · exact JU
      · exact .oNo
    · exact .oNo
  | load t x =>
    refine .wTy fun ti _ => .w1 fun x => ?_
    split
    · exact Oj
    · exact Oh
  | nilCheck x => exact .w1 fun x => Tm
  | binOp op t x y u => exact Rt
  | unOp op t x =>
    refine .wTy fun ti _ => .w1 fun x => ?_
    split <;> first | exact To | exact Tk | exact TW | exact .oNo
  | convert src dst x =>
    refine .wTy fun si hsi => .wTy fun di hdi => .w1 fun x => ?_
    split
    · exact QP
    · exact Qn
    · refine .wTy fun ei _ => ?_
      split
      · exact Oo
      · exact .oNo
    · rename_i hd hs
      exfalso
      simp only [kd] at hk
      cases hb : Nat.beq src dst with
      | true => simp only [hb] at hk; rcases hk with hk | ⟨_, hk⟩ <;> cases hk
      | false =>
        have h1 : IO ty src = false := by unfold IO; rw [hsi]; simp only [hs]
        have h2 : FR ty dst = true := by unfold FR; rw [hdi]; simp only [hd]
        simp only [hb, h1, h2] at hk
        rcases hk with hk | ⟨_, hk⟩ <;> cases hk
    · rename_i hs hd
      split
      · rename_i hb
        exfalso
        simp only [kd, hb] at hk
        rcases hk with hk | ⟨_, hk⟩ <;> cases hk
      · exact .oNo
    · exact .oNo
  | makeInterface t x =>
    refine .wTy fun ti _ => .w1 fun x => ?_
    split
    · exact .oNo
    · exact Oe
  | makeFunc fn a b =>
    show Kp (match cOs f a.toList, cOs f b.toList with
      | some fs, some c => Do fn fs c
      | _, _ => oNo)
    split
    · exact QW
    · exact .oNo
  | slice t x lo hi mx =>
    refine .wTy fun ti _ => .w1 fun x => ?_
    split
    · split
      · split
        · exact Mh
        · exact .oNo
      · exact .wTy fun ei _ => TZ
      · exact .wTy fun ei _ => Me
      · exact .oNo
    · exact .oNo
  | fieldAddr t x i =>
    refine .wTy fun ti _ => .w1 fun x => ?_
    split
    · split <;> first | exact Ir | exact .oNo
    · exact .oNo
  | field t x i =>
    refine .wTy fun ti _ => .w1 fun x => ?_
    split
    · split
      · exact .wTy fun fi _ => Oc
      · exact .oNo
    · exact .oNo
  | indexAddr t x i =>
    refine .wTy fun ti _ => .w2 fun x y => ?_
    split
    · exact .wTy fun fi _ => Ml
    · exact .wTy fun fi _ => Td
    · exact .oNo
  | index t x i =>
    refine .wTy fun ti _ => .w2 fun x y => ?_
    split
    · exact .wTy fun fi _ => YI
    · exact OW
    · exact .oNo
  | lookup t x i ok =>
    refine .wTy fun ti _ => .w2 fun x y => ?_
    split
    · exact .wTy fun ei _ => .wZ (.wZero fun z => .wKey fun ks => Mp)
    · exact .oNo
  | extract t i => exact .w1 fun t => LC
  | sliceToArrayPointer t x =>
    refine .wTy fun ti _ => ?_
    split
    · exact .w1 fun x => TM
    · exact .oNo
  | call c =>
    simp only [kd] at hk
    cases hc : c.callee with
    | builtin b =>
      show Kp (match cOs f c.args.toList with
        | some args => match c.callee with
          | .builtin b => Gx ty b c.argTypes.toList args
          | .value g => match g with
            | .func g => AV g args
            | g => w1 f g fun g => Cy g args
          | .invoke recv name => w1 f recv fun x => Hn (ty.meths name fun k => k) x args
        | none => oNo)
      split
      · rename_i args ha
        simp only [hc]
        cases b with
        | len =>
          unfold Gx
          split <;> rename_i h1 <;> first | (cases h1; done) | skip
          all_goals (try (exact .oNo))
          split
          · refine .wTy fun ti _ => ?_
            split
            · exact Qa
            · exact Qc
            · exact QY
            · exact Ib
            · exact .oNo
          · exact .oNo
        | min =>
          unfold Gx
          split <;> rename_i h1 <;> first | (cases h1; done) | exact Ti | exact .oNo
        | max =>
          unfold Gx
          split <;> rename_i h1 <;> first | (cases h1; done) | exact Tg | exact .oNo
        | _ =>
          exfalso
          simp only [hc] at hk
          cases hl : c.args.toList with
          | nil => simp only [hl] at hk; rcases hk with hk | ⟨_, hk⟩ <;> cases hk
          | cons _ _ => simp only [hl] at hk; rcases hk with hk | ⟨_, hk⟩ <;> cases hk
      · exact .oNo
    | _ =>
      exfalso
      simp only [hc] at hk
      rcases hk with hk | ⟨_, hk⟩ <;> cases hk
  | _ => first | exact .oNo | (exfalso; rcases hk with hk | ⟨_, hk⟩ <;> cases hk)
end
end
end Go.Proofs.Ythcfmklkbakkpaa
set_option linter.unusedSimpArgs false
set_option linter.unusedVariables false
namespace Go.Proofs.Ythcfmklkbakkpaa
noncomputable section
open Go
abbrev Rho := Nat → Option Value
def rhoOf (A : List Nat) (σ : Sg) (e : Env) : Rho := fun t => match Lm A σ (.tmp t) with
  | some s => some (Iw s e)
  | none => none
def evR (ρ : Rho) : Operand → Option Value
  | .tmp t => ρ t
  | .const v => if EB v then some v else none
  | .func g => some (.func (.func g) #[] #[])
  | .global _ => none
theorem Dr (A : List Nat) (σ : Sg) (e : Env) (t : Nat) : rhoOf A σ e t = match Ci t σ with
    | some s => some (Iw s e)
    | none => match memN t A with
      | true => none
      | false => match Nat.blt t 320 with
        | true => some (AB t e)
        | false => none := by
  show (match Lm A σ (.tmp t) with | some s => some (Iw s e) | none => none) = _
  show (match (match Ci t σ with | some s => some s | none => match memN t A with | true => none | false => match Nat.blt t 320 with | true => some (Src.s t) | false => none) with | some s => some (Iw s e) | none => none) = _
  cases Ci t σ with
  | some s => rfl
  | none =>
    cases memN t A with
    | true => rfl
    | false => cases Nat.blt t 320 <;> rfl
theorem RK {A : List Nat} {σ : Sg} {x : Operand} {s : Src} (h : Lm A σ x = some s) (e : Env) : evR (rhoOf A σ e) x = some (Iw s e) := by
  cases x with
  | tmp t => show (match Lm A σ (.tmp t) with | some s => some (Iw s e) | none => none) = _; rw [h]
  | const v =>
    have h : (match EB v with | true => some (Src.c v) | false => none) = some s := h
    cases hp : EB v with
    | true => rw [hp] at h; cases h; show (if EB v then some v else none) = _; rw [if_pos hp]; rfl
    | false => rw [hp] at h; cases h
  | func g => cases h; rfl
  | global _ => cases h
theorem Ws {f : Fr} {x : Operand} {y : O} (h : cO f x = some y) : ∃ s, Lm f.A f.σ x = some s ∧ y = Iw s := by
  unfold cO at h
  split at h
  · rename_i s hs; cases h; exact ⟨s, hs, rfl⟩
  · cases h
theorem EK {A : List Nat} {σ : Sg} {x : Operand} {y : O} (h : cO ⟨A, σ⟩ x = some y) (e : Env) : evR (rhoOf A σ e) x = some (y e) := by
  obtain ⟨s, hs, rfl⟩ := Ws h
  exact RK hs e
theorem Ih {φ : Phi} {v : Value} (h : EB v = true) : RelV φ v v := by
  unfold EB at h
  split at h
  · rename_i cs
    exact .agg (l := cs.toList) (l' := cs.toList) (.plain h)
  · exact .plain h
structure SgOk (A : List Nat) (σ : Sg) : Prop where
  mem : ∀ p ∈ σ, memN p.1 A = true
  nodup : (σ.map (·.1)).Nodup
  lt : ∀ p ∈ σ, ∀ n, p.2 = .s n → n < 320
theorem SgOk.nil (A : List Nat) : SgOk A [] where
  mem := fun p hp => by cases hp
  nodup := List.nodup_nil
  lt := fun p hp => by cases hp
theorem Ee {a b : Nat} (h : Nat.beq a b = false) : a ≠ b := fun e => by rw [e, Nat.beq_refl] at h; cases h
theorem DZ : ∀ {σ : Sg} {t : Nat} {s : Src}, Ci t σ = some s → (t, s) ∈ σ
  | (d, s') :: l, t, s, h => by
    unfold Ci at h
    split at h
    · rename_i hb
      cases h
      have := A1.1 hb
      subst this; exact List.mem_cons_self
    · exact List.mem_cons_of_mem _ (DZ h)
theorem Dy : ∀ {σ : Sg} {t : Nat} {s : Src}, (σ.map (·.1)).Nodup → (t, s) ∈ σ → Ci t σ = some s
  | (d, s') :: l, t, s, hn, h => by
    unfold Ci
    rw [List.map_cons, List.nodup_cons] at hn
    rcases List.mem_cons.1 h with h | h
    · cases h
      rw [Nat.beq_refl]
    · have : d ≠ t := by
        intro e; subst e
        exact hn.1 (List.mem_map.2 ⟨_, h, rfl⟩)
      have hb : Nat.beq d t = false := by
        cases hb : Nat.beq d t with
        | true => exact absurd (A1.1 hb) this
        | false => rfl
      rw [hb]; exact Dy hn.2 h
theorem DY : ∀ {σ : Sg} {d : Nat}, (Eh d σ).Sublist σ ∧ ∀ p ∈ Eh d σ, p.2 ≠ .s d
  | [], d => ⟨.slnil, fun p hp => by cases hp⟩
  | (t, .s n) :: l, d => by
    obtain ⟨h1, h2⟩ := DY (σ := l) (d := d)
    unfold Eh
    split
    · exact ⟨h1.cons _, h2⟩
    · rename_i hb
      refine ⟨h1.cons_cons _, fun p hp => ?_⟩
      rcases List.mem_cons.1 hp with rfl | hp
      · intro e; cases e; exact Ee hb rfl
      · exact h2 p hp
  | (t, .c v) :: l, d => by
    obtain ⟨h1, h2⟩ := DY (σ := l) (d := d)
    unfold Eh
    refine ⟨h1.cons_cons _, fun p hp => ?_⟩
    rcases List.mem_cons.1 hp with rfl | hp
    · intro e; cases e
    · exact h2 p hp
theorem Es : ∀ {σ : Sg} {d : Nat}, (EG d σ).Sublist σ ∧ ∀ p ∈ EG d σ, p.1 ≠ d
  | [], d => ⟨.slnil, fun p hp => by cases hp⟩
  | (t, s) :: l, d => by
    obtain ⟨h1, h2⟩ := Es (σ := l) (d := d)
    unfold EG
    split
    · exact ⟨h1.cons _, h2⟩
    · rename_i hb
      refine ⟨h1.cons_cons _, fun p hp => ?_⟩
      rcases List.mem_cons.1 hp with rfl | hp
      · exact Ee hb
      · exact h2 p hp
theorem SgOk.sub {A : List Nat} {σ σ' : Sg} (h : SgOk A σ) (hs : σ'.Sublist σ) : SgOk A σ' :=
  ⟨fun p hp => h.mem p (hs.subset hp), (hs.map (·.1)).nodup h.nodup, fun p hp => h.lt p (hs.subset hp)⟩
theorem SgOk.alias {A : List Nat} {σ : Sg} (h : SgOk A σ) {d : Nat} (hd : memN d A = true) {s : Src} (hs : ∀ n, s = .s n → n < 320) : SgOk A ((d, s) :: EG d σ) := by
  have h' := h.sub (Es (d := d)).1
  refine ⟨fun p hp => ?_, ?_, fun p hp => ?_⟩
  · rcases List.mem_cons.1 hp with rfl | hp
    · exact hd
    · exact h'.mem p hp
  rotate_left
  · rcases List.mem_cons.1 hp with rfl | hp
    · exact hs
    · exact h'.lt p hp
  · rw [List.map_cons, List.nodup_cons]
    refine ⟨fun hm => ?_, h'.nodup⟩
    obtain ⟨p, hp, e⟩ := List.mem_map.1 hm
    exact (Es (d := d)).2 p hp e
theorem UB {A : List Nat} {σ : Sg} {e : Env} (hS : SgOk A σ) {d : Nat} (hd : memN d A = false) (hlt : d < 320) (v : Value) {t : Nat} {u : Value}
    (h : rhoOf A (Eh d σ) (Env.set d v e) t = some u) : if t = d then u = v else rhoOf A σ e t = some u := by
  rw [Dr] at h
  cases hf : Ci t (Eh d σ) with
  | some s =>
    simp only [hf] at h
    cases h
    have hm := DZ hf
    have hm' := DY.1.subset hm
    have hne := (DY (σ := σ) (d := d)).2 _ hm
    have hA := hS.mem _ hm'
    have ht : t ≠ d := by intro e; subst e; simp only at hA; rw [hd] at hA; cases hA
    rw [if_neg ht, Dr, Dy hS.nodup hm']
    simp only
    congr 1
    cases s with
    | c v => rfl
    | s n =>
      have hn : n ≠ d := fun e => hne (by rw [e])
      show AB n e = AB n (Env.set d v e)
      have h3 : n < 320 := hS.lt _ hm' n rfl
      rw [EE n h3, EE n h3, Env.get_set _ _ _ _ hlt h3, if_neg hn]
  | none =>
    simp only [hf] at h
    cases hm : memN t A with
    | true => simp only [hm] at h; cases h
    | false =>
      simp only [hm] at h
      cases hb : Nat.blt t 320 with
      | false => simp only [hb] at h; cases h
      | true =>
        simp only [hb] at h
        have h3 := Bu.1 hb
        cases h
        have hg : AB t (Env.set d v e) = if t = d then v else e.get t := by
          rw [EE t h3, Env.get_set _ _ _ _ hlt h3]
        rw [hg]
        split
        · rfl
        · have hf2 : Ci t σ = none := by
            cases hf2 : Ci t σ with
            | none => rfl
            | some s =>
              have := hS.mem _ (DZ hf2)
              simp only at this; rw [hm] at this; cases this
          rw [Dr]
          simp only [hf2, hm, hb]
          rw [EE t h3]
theorem Ou {A : List Nat} {σ : Sg} {e : Env} (hS : SgOk A σ) {d : Nat} (hd : memN d A = true) (s : Src) {t : Nat} {u : Value}
    (h : rhoOf A ((d, s) :: EG d σ) e t = some u) : if t = d then u = Iw s e else rhoOf A σ e t = some u := by
  rw [Dr] at h
  by_cases ht : t = d
  · rw [if_pos ht]
    subst ht
    have : Ci t ((t, s) :: EG t σ) = some s := by unfold Ci; rw [Nat.beq_refl]
    simp only [this] at h
    cases h; rfl
  · rw [if_neg ht]
    have hb : Nat.beq d t = false := by
      cases hb : Nat.beq d t with
      | true => exact absurd (A1.1 hb).symm ht
      | false => rfl
    have h1 : Ci t ((d, s) :: EG d σ) = Ci t (EG d σ) := by conv => lhs; unfold Ci; rw [hb]
    have h2 : Ci t (EG d σ) = Ci t σ := by
      cases hf : Ci t (EG d σ) with
      | some s' => exact (Dy hS.nodup (Es.1.subset (DZ hf))).symm
      | none =>
        cases hf2 : Ci t σ with
        | none => rfl
        | some s' =>
          have hm := DZ hf2
          have : ∀ {σ : Sg}, (t, s') ∈ σ → (t, s') ∈ EG d σ := by
            intro σ hm
            induction σ with
            | nil => cases hm
            | cons p l ih =>
              obtain ⟨a, b⟩ := p
              unfold EG
              rcases List.mem_cons.1 hm with h | h
              · cases h
                have hb2 : Nat.beq t d = false := by
                  cases hb : Nat.beq t d with
                  | true => exact absurd (A1.1 hb) ht
                  | false => rfl
                rw [hb2]; exact List.mem_cons_self
              · split
                · exact ih h
                · exact List.mem_cons_of_mem _ (ih h)
          have := Dy (hS.sub (Es (d := d)).1).nodup (this hm)
          rw [hf] at this; cases this
    rw [h1, h2] at h
    rw [Dr]; exact h
structure Eff (T : Nat → Prop) (φ : Phi) (h : Hp) (w : World) (φ' : Phi) (h' : Hp) (w' : World) : Prop where
  le : φ.Le φ'
  new : ∀ i p, φ' i = some p → φ i = some p ∨ h.next ≤ i
  next : h.next ≤ h'.next
  size : w.heap.size ≤ w'.heap.size
  tape : w'.tape = w.tape
  os : w'.os = w.os
  output : w'.output = w.output
  frame : ∀ k, k < w.heap.size → (∀ i p, φ i = some p → p.inp = false → T i → Live h i → p.blk ≠ k) → w'.heap[k]? = w.heap[k]?
  back : ∀ i p, φ' i = some p → Live h' i → p.blk < w.heap.size → ∃ j q, φ j = some q ∧ Live h j ∧ q.blk = p.blk ∧ q.inp = p.inp ∧ (j = i ∨ T j)
  kept : ∀ i, i < h.next → ¬ T i → h'.bl.get i = h.bl.get i
  shape : ∀ i, i < h.next → ShapeLe (h.bl.get i) (h'.bl.get i)
  only : ∀ i, i < h.next → φ i = none → h'.bl.get i = h.bl.get i
  all : ∀ i, h.next ≤ i → i < h'.next → ∃ p, φ' i = some p
theorem Evo.eff {φ ψ : Phi} {h h' : Hp} {w w' : World} (ev : Evo φ h w ψ h' w') : Eff (fun c => h'.low ≤ c ∧ c ≤ h'.high) φ h w ψ h' w' where
  le := ev.le
  new := ev.new
  next := ev.next
  size := ev.size
  tape := ev.tape
  os := ev.os
  output := ev.output
  frame := fun k hk hf => ev.frame k hk fun i p e hn h1 h2 hl => hf i p e hn ⟨h1, h2⟩ hl
  back := ev.back
  kept := fun i hi ht => ev.kept i hi (by
    rcases Nat.lt_or_ge i h'.low with h | h
    · exact .inl h
    · rcases Nat.lt_or_ge h'.high i with h2 | h2
      · exact .inr h2
      · exact absurd ⟨h, h2⟩ ht)
  shape := ev.shape
  only := ev.only
  all := ev.all
theorem Eff.of_bl {T : Nat → Prop} {φ ψ : Phi} {h h' g g' : Hp} {w w' : World} (ev : Eff T φ h w ψ h' w') (h1 : g.bl = h.bl) (h2 : g.next = h.next) (h3 : g'.bl = h'.bl) (h4 : g'.next = h'.next) : Eff T φ g w ψ g' w' where
  le := ev.le
  new := by rw [h2]; exact ev.new
  next := by rw [h2, h4]; exact ev.next
  size := ev.size
  tape := ev.tape
  os := ev.os
  output := ev.output
  frame := by unfold Live; rw [h1]; exact ev.frame
  back := by unfold Live; rw [h1, h3]; exact ev.back
  kept := by rw [h1, h2, h3]; exact ev.kept
  shape := by rw [h1, h2, h3]; exact ev.shape
  only := by rw [h1, h2, h3]; exact ev.only
  all := by rw [h2, h4]; exact ev.all
theorem Eff.evo {T : Nat → Prop} {φ ψ : Phi} {h h' : Hp} {w w' : World} (ev : Eff T φ h w ψ h' w') (hT : ∀ c, T c → h'.low ≤ c ∧ c ≤ h'.high) (hl : h'.low ≤ h.low) (hh : h.high ≤ h'.high) : Evo φ h w ψ h' w' where
  le := ev.le
  new := ev.new
  next := ev.next
  size := ev.size
  tape := ev.tape
  os := ev.os
  output := ev.output
  frame := fun k hk hf => ev.frame k hk fun i p e hn ht hl => hf i p e hn (hT i ht).1 (hT i ht).2 hl
  back := fun i p e hl hp => by
    obtain ⟨j, q, e1, e2, e3, e5, e4⟩ := ev.back i p e hl hp
    exact ⟨j, q, e1, e2, e3, e5, e4.imp id (hT j)⟩
  kept := fun i hi ho => ev.kept i hi fun ht => by have := hT i ht; omega
  low := hl
  high := hh
  shape := ev.shape
  only := ev.only
  all := ev.all
theorem RelW.of_bl {ty : TTy} {φ : Phi} {E : Nat → Prop} {h g : Hp} {w : World} (H : RelW ty φ E h w) (h1 : g.bl = h.bl) (h2 : g.next = h.next) : RelW ty φ E g w where
  dom := by rw [h2]; exact H.dom
  inj := by unfold Live; rw [h1]; exact H.inj
  row := by rw [h1]; exact H.row
  fresh := by rw [h1, h2]; exact H.fresh
  kind := by rw [h1]; exact H.kind
  inp := H.inp
def TouchR (ty : TTy) (ρ : Rho) (E : Nat → Prop) (op : Op) : Prop := match kd ty op with
  | .p => True
  | .a => True
  | .r x => ∀ u, evR ρ x = some u → ∀ b, blkOf u = .ok b → ¬ E b
  | .w _ => ∀ b, ¬ E b
  | .q => ∀ b, ¬ E b
theorem Eff.cut {T : Nat → Prop} {φ ψ : Phi} {h h' : Hp} {w w' : World} (ev : Eff T φ h w ψ h' w') (hd : ∀ i p, φ i = some p → i < h.next) : Eff (fun c => T c ∧ c < h.next) φ h w ψ h' w' where
  le := ev.le
  new := ev.new
  next := ev.next
  size := ev.size
  tape := ev.tape
  os := ev.os
  output := ev.output
  frame := fun k hk hf => ev.frame k hk fun i p e hn ht hl => hf i p e hn ⟨ht, hd i p e⟩ hl
  back := fun i p e hl hp => by
    obtain ⟨j, q, e1, e2, e3, e5, e4⟩ := ev.back i p e hl hp
    exact ⟨j, q, e1, e2, e3, e5, e4.imp id fun ht => ⟨ht, hd j q e1⟩⟩
  kept := fun i hi ho => ev.kept i hi fun ht => ho ⟨ht, hi⟩
  shape := ev.shape
  only := ev.only
  all := ev.all
theorem Eff.refl (φ : Phi) (h : Hp) (w : World) : Eff (fun _ => False) φ h w φ h w where
  le := .refl φ
  new := fun _ _ e => .inl e
  next := Nat.le_refl _
  size := Nat.le_refl _
  tape := rfl
  os := rfl
  output := rfl
  frame := fun _ _ _ => rfl
  back := fun i p e hl _ => ⟨i, p, e, hl, rfl, rfl, .inl rfl⟩
  kept := fun _ _ _ => rfl
  shape := fun _ _ => .refl _
  only := fun _ _ _ => rfl
  all := fun _ h1 h2 => absurd h2 (Nat.not_lt.2 h1)
def Tame (ty : TTy) (o : Oper) (ah : Ahead) : Prop := (kd ty o.op = .p ∨ ∃ x, kd ty o.op = .r x) ∨ (ah ≠ .plain ∧ ∀ old x xs, ah ≠ .chk old x xs)
structure Core (P : Program) (ty : TTy) (o : Oper) (ah : Ahead) (ρ : Rho) (h h' : Hp) (v : Value) (T : Nat → Prop) : Prop where
  does : ∀ (φ : Phi) (E : Nat → Prop) (w : World) (a : Act), RelW ty φ E h w → (∀ x ∈ o.op.operands.toList, ∀ u, evR ρ x = some u → RelV φ u (a.eval x)) → TouchR ty ρ E o.op →
    ∀ (next : Act → World → Prop) (Q : Exit → Act → World → Prop), (∀ ψ v' w', RelV ψ v v' → RelW ty ψ E h' w' → Eff T φ h w ψ h' w' → Evo φ h w ψ h' w' → next (a.put o.dst v') w') → o.wp P a w next Q
  tame : Tame ty o ah → h'.low ≤ h.low ∧ h.high ≤ h'.high ∧ (∀ c, T c → h'.low ≤ c ∧ c ≤ h'.high) ∧ h'.mark = h.mark
  tlt : ∀ c, T c → c < h.next
  tp : (kd ty o.op = .p ∨ ∃ x, kd ty o.op = .r x) → (∀ c, ¬ T c) ∧ h' = h
  strong : ah = .quiet .strong → ∀ c, ¬ T c
  weak : ah = .quiet .weak → ∀ c, T c → h.mark ≤ c
  wr : ∀ x xs, ah = .wr x xs → ∀ c, T c → ∃ u, evR ρ x = some u ∧ blkOf u = .ok c
structure Side (ah : Ahead) (ρ : Rho) (h : Hp) : Prop where
  wrx : ∀ x xs, ah = .wr x xs → ∀ y ∈ xs, ∀ u u' b, evR ρ x = some u → evR ρ y = some u' → blkOf u = .ok b → blkOf u' ≠ .ok b
  chk : ∀ old x xs, ah = .chk old x xs → ∀ y ∈ xs, ∀ u u' b, evR ρ x = some u → evR ρ y = some u' → blkOf u = .ok b → blkOf u' ≠ .ok b
  old : ∀ x xs, ah = .chk true x xs → ∀ u b, evR ρ x = some u → blkOf u = .ok b → b < h.mark
  known : ∀ x xs, (ah = .wr x xs ∨ ∃ old, ah = .chk old x xs) → (∃ u, evR ρ x = some u) ∧ ∀ y ∈ xs, ∃ u, evR ρ y = some u
structure SF (P : Program) (ty : TTy) (ops : List Oper) (o : Oper) (ah : Ahead) (ρ ρ' : Rho) (h h' : Hp) (v : Value) (run : Bool) (T : Nat → Prop) : Prop where
  slot : ∀ t u, ρ' t = some u → if o.dst = some t then u = v else ρ t = some u
  grd : match o.guard with
    | none => run = true
    | some (g, want) => ∃ og d c, ops[g]? = some og ∧ og.dst = some d ∧ ρ d = some c ∧ ((∃ b, c = .bool b ∧ run = (want == b)) ∨ (∃ l, c = .tuple l ∧ run = false))
  side : kd ty o.op ≠ .p → Side ah ρ h
  core : (run = true ∧ Core P ty o ah ρ h h' v T) ∨ (run = false ∧ v = noRes ∧ h' = h ∧ ∀ c, ¬ T c)
section
variable {P : Program} {ty : TTy} {F : CallF}
theorem IA (hT : CN P ty) (hF : Ca P ty F) {A : List Nat} {σ : Sg} {e : Env} {o : Oper} {g g' : Hp} {v : Value} (hr : opC ty ⟨A, σ⟩ o.op F e g = .ok v g') (φ : Phi) (E : Nat → Prop) (w : World) (a : Act) (H : RelW ty φ E g w)
    (hn : ∀ x ∈ o.op.operands.toList, ∀ u, evR (rhoOf A σ e) x = some u → RelV φ u (a.eval x)) (ht : TouchR ty (rhoOf A σ e) E o.op) : DW P ty φ E g v g' o a w := by
  refine YO hT hF H (f := ⟨A, σ⟩) (e := e) (F := F) (fun x hx y hy => hn x hx _ (EK hy e)) ?_ hr
  unfold FJ
  unfold TouchR at ht
  cases hk : kd ty o.op with
  | p => trivial
  | a => trivial
  | r x => rw [hk] at ht; exact fun y hy b hb => ht _ (EK hy e) b hb
  | w x => rw [hk] at ht; exact ht
  | q => rw [hk] at ht; exact ht
def Gp (h : Hp) : Hp := { next := h.next, low := h.next, high := 0, mark := h.mark, bl := h.bl }
theorem H9 (hT : CN P ty) (hF : Ca P ty F) {A : List Nat} {σ : Sg} {e : Env} {o : Oper} {ah : Ahead} (hah : ah = .plain ∨ ∃ old x xs, ah = .chk old x xs) {h h' : Hp} {v : Value} (hr : opC ty ⟨A, σ⟩ o.op F e h = .ok v h') : ∃ T, Core P ty o ah (rhoOf A σ e) h h' v T := by
  have hns : ah ≠ .quiet .strong := by rcases hah with rfl | ⟨_, _, _, rfl⟩ <;> exact fun h => by cases h
  have hnw : ah ≠ .quiet .weak := by rcases hah with rfl | ⟨_, _, _, rfl⟩ <;> exact fun h => by cases h
  have hnr : ∀ x xs, ah ≠ .wr x xs := by rcases hah with rfl | ⟨_, _, _, rfl⟩ <;> exact fun _ _ h => by cases h
  have hnm : ¬ (ah ≠ .plain ∧ ∀ old x xs, ah ≠ .chk old x xs) := by
    rcases hah with rfl | ⟨_, _, _, rfl⟩
    · exact fun h => h.1 rfl
    · exact fun h => h.2 _ _ _ rfl
  by_cases hk : kd ty o.op = .p ∨ ∃ x, kd ty o.op = .r x
  · have K := YN (ty := ty) (f := ⟨A, σ⟩) hk F e
    have hh := K.same hr
    have hr2 := K.at hr (Gp h) rfl
    subst hh
    refine ⟨fun _ => False, { does := fun φ E w a H hn ht next Q hnx => ?_, tame := fun _ => ⟨Nat.le_refl _, Nat.le_refl _, fun _ h => h.elim, rfl⟩, tlt := fun _ h => h.elim, tp := fun _ => ⟨fun _ h => h, rfl⟩, strong := fun h => absurd h hns, weak := fun h => absurd h hnw, wr := fun _ _ h => absurd h (hnr _ _) }⟩
    have key : ∀ ψ v' w', RelV ψ v v' → RelW ty ψ E (Gp h') w' → Evo φ (Gp h') w ψ (Gp h') w' → Eff (fun _ => False) φ h' w ψ h' w' := ?_
    · exact IA hT hF hr2 φ E w a (H.of_bl rfl rfl) hn ht next Q fun ψ v' w' hv H' ev => hnx ψ v' w' hv (H'.of_bl rfl rfl) (key ψ v' w' hv H' ev) ((key ψ v' w' hv H' ev).evo (fun _ h => h.elim) (Nat.le_refl _) (Nat.le_refl _))
    intro ψ v' w' hv H' ev
    have e1 : Eff (fun c => h'.next ≤ c ∧ c ≤ 0) φ h' w ψ h' w' := ev.eff.of_bl rfl rfl rfl rfl
    have hd : ∀ i p, φ i = some p → i < h'.next := fun i p e => (H.dom i p e).1
    have e2 := e1.cut hd
    exact { e2 with
      frame := fun k hk hf => e2.frame k hk fun i p e hn ht => by omega
      back := fun i p e hl hp => by
        obtain ⟨j, q, e1, e2, e3, e5, e4⟩ := e2.back i p e hl hp
        exact ⟨j, q, e1, e2, e3, e5, e4.imp id fun ht => by omega⟩
      kept := fun i hi _ => e2.kept i hi fun ht => by omega }
  · refine ⟨fun c => (h'.low ≤ c ∧ c ≤ h'.high) ∧ c < h.next, { does := fun φ E w a H hn ht next Q hnx => ?_, tame := fun h => absurd h (fun h => h.elim hk hnm), tlt := fun _ h => h.2, tp := fun h => absurd h hk, strong := fun h => absurd h hns, weak := fun h => absurd h hnw, wr := fun _ _ h => absurd h (hnr _ _) }⟩
    exact IA hT hF hr φ E w a H hn ht next Q fun ψ v' w' hv H' ev => hnx ψ v' w' hv H' (ev.eff.cut fun i p e => (H.dom i p e).1) ev
theorem GP (hT : CN P ty) (hF : Ca P ty F) {A : List Nat} {σ : Sg} {e : Env} {o : Oper} {ah : Ahead} {h h' g' : Hp} {v : Value} (hr : opC ty ⟨A, σ⟩ o.op F e (Gp h) = .ok v g')
    (h1 : h'.bl = g'.bl) (h2 : h'.next = g'.next) (h3 : h'.low = min h.low g'.low) (h4 : h'.high = max h.high g'.high) (h5 : h'.mark = h.mark)
    (hs : ah = .quiet .strong → h.next ≤ g'.low) (hw : ah = .quiet .weak → h.mark ≤ g'.low)
    (hx : ∀ x xs, ah = .wr x xs → ∀ c, g'.low ≤ c → c ≤ g'.high → c < h.next → ∃ u, evR (rhoOf A σ e) x = some u ∧ blkOf u = .ok c) (hnk : ¬ (kd ty o.op = .p ∨ ∃ x, kd ty o.op = .r x)) : ∃ T, Core P ty o ah (rhoOf A σ e) h h' v T := by
  refine ⟨fun c => (g'.low ≤ c ∧ c ≤ g'.high) ∧ c < h.next, { does := fun φ E w a H hn ht next Q hnx => ?_, tame := fun _ => ⟨by omega, by omega, fun c h => by omega, h5⟩, tlt := fun _ h => h.2, tp := fun h => absurd h hnk, strong := fun h c hc => ?_, weak := fun h c hc => ?_, wr := fun x xs h c hc => hx x xs h c hc.1.1 hc.1.2 hc.2 }⟩
  · refine IA hT hF hr φ E w a (H.of_bl rfl rfl) hn ht next Q fun ψ v' w' hv H' ev => ?_
    have e1 : Eff (fun c => g'.low ≤ c ∧ c ≤ g'.high) φ h w ψ h' w' := ev.eff.of_bl rfl rfl h1 h2
    exact hnx ψ v' w' hv (H'.of_bl h1 h2) (e1.cut fun i p e => (H.dom i p e).1) (e1.evo (fun c h => by omega) (by omega) (by omega))
  · have := hs h; omega
  · have := hw h; omega
end
end
end Go.Proofs.Ythcfmklkbakkpaa
