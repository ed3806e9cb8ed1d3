/-
  One operation: the whole table.
-/
import Derived.Test.YtkafejncffinmaaMapOps
set_option linter.unusedSimpArgs false
set_option linter.unusedVariables false
namespace Go.Proofs.Ytkafejncffinmaa
open Go

section
variable {P : Program} {ty : TTy} {φ : Phi} {E : Nat → Prop} {h h' : Hp} {w : World} {F : CallF} {e : Env} {v : Value} {f : Fr}

theorem touch_r {op : Op} {x : Operand} (hk : kd ty op = .r x) (hE : Touch ty f e E op) {y : O} (hy : cO f x = some y) : ∀ a, y e = .pointer (some a) → ¬ E a.block := by
  intro a ha
  unfold Touch at hE
  rw [hk] at hE
  exact hE y hy a.block (by rw [ha]; rfl)
theorem touch_w {op : Op} {x : Operand} (hk : kd ty op = .w x) (hE : Touch ty f e E op) : ∀ b, ¬ E b := by
  unfold Touch at hE; rw [hk] at hE; exact hE
theorem touch_q {op : Op} (hk : kd ty op = .q) (hE : Touch ty f e E op) : ∀ b, ¬ E b := by
  unfold Touch at hE; rw [hk] at hE; exact hE

theorem args1 {args : List O} {x : O} (hs : args = [x]) {l : List Operand} {ρ : Operand → Value} (ha : RelL φ (vals e args) (l.map ρ)) : ∃ x', l.map ρ = [x'] ∧ RelV φ (x e) x' := by
  subst hs
  generalize l.map ρ = r at ha
  cases ha with | cons h t => cases t; exact ⟨_, rfl, h⟩
theorem args2 {args : List O} {x y : O} (hs : args = [x, y]) {l : List Operand} {ρ : Operand → Value} (ha : RelL φ (vals e args) (l.map ρ)) : ∃ x' y', l.map ρ = [x', y'] ∧ RelV φ (x e) x' ∧ RelV φ (y e) y' := by
  subst hs
  generalize l.map ρ = r at ha
  cases ha with | cons h t => cases t with | cons h2 t => cases t; exact ⟨_, _, rfl, h, h2⟩

theorem built_ok (hT : TabOk P ty) (H : RelW ty φ E h w) {b : Builtin} {c : Call} (hc : c.callee = .builtin b) {o : Oper} {a : Act} (ho : o.op = .call c) {args : List O}
    (ha : RelL φ (vals e args) (c.args.toList.map a.eval)) (hE : (∀ b, ¬ E b) ∨ b = .min ∨ b = .max ∨ (b = .len ∧ ∀ x, args = [x] → ∀ t ti, c.argTypes[0]? = some t → ty.get t = some ti → (∃ k q, ti.k = .map k q) → ∀ r, x e = .map (some r) → ¬ E r))
    (hr : builtC ty b c.argTypes.toList args F e h = .ok v h') : OpDoes P ty φ E h v h' o a w := by
  have earr : c.args.map a.eval = ⟨c.args.toList.map a.eval⟩ := by apply Array.ext'; simp
  have hat0 : ∀ t l, c.argTypes.toList = t :: l → c.argTypes[0]? = some t := fun t l hl => by rw [← Array.getElem?_toList, hl]; rfl
  have hat1 : ∀ t t2 l, c.argTypes.toList = t :: t2 :: l → c.argTypes[1]? = some t2 := fun t t2 l hl => by rw [← Array.getElem?_toList, hl]; rfl
  have hex : ∀ s : Sem Value, (∀ cs, builtin b c.argTypes o.type cs ⟨c.args.toList.map a.eval⟩ = (do pure (.value (← s)))) → ∀ {vv : Value} {hh : Hp}, Gives ty φ E h w vv hh (s.run P w) → OpDoes P ty φ E h vv hh o a w := by
    intro s hs vv hh hg
    refine .of_gives (s := s) ?_ hg
    unfold execOp
    rw [ho]
    simp only [resolve, hc, earr]
    exact hs _
  cases b with
  | len =>
    match args, ha, hE, hr with
    | [x], ha, hE, hr =>
      obtain ⟨x', he, hx⟩ := args1 rfl ha
      cases hl : c.argTypes.toList with
      | nil => rw [hl] at hr; cases hr
      | cons t l =>
        rw [hl] at hr
        obtain ⟨ti, hti, hr⟩ := wTy_ok hr
        have h0 := hat0 t l hl
        cases hk : ti.k with
        | slice el => simp only [hk] at hr; exact hex _ (fun cs => by rw [he]; rfl) (oLenS_ok H h0 (hT t ti hti) hk hx hr)
        | string => simp only [hk] at hr; exact hex _ (fun cs => by rw [he]; rfl) (oLenT_ok H h0 (hT t ti hti) hk hx hr)
        | map k q =>
          simp only [hk] at hr
          refine hex _ (fun cs => by rw [he]; rfl) (oLenM_ok H h0 (hT t ti hti) hk hx (fun r hxr => ?_) hr)
          rcases hE with hE | hE | hE | ⟨_, hE⟩
          · exact hE r
          · cases hE
          · cases hE
          · exact hE x rfl t ti h0 hti ⟨k, q, hk⟩ r hxr
        | arr n el =>
          simp only [hk] at hr
          refine hex (Builtin.len_ c.argTypes o.type #[x']) (fun cs => by rw [he]; rfl) ?_
          rw [len_arr h0 (hT t ti hti) hk]
          have : v = .int .i64 (.ofNat n) ∧ h' = h := by
            unfold oMove kV at hr; rw [moveR_is] at hr; cases hr; exact ⟨rfl, rfl⟩
          obtain ⟨rfl, rfl⟩ := this
          exact .same H (.int _ _)
        | _ => simp only [hk] at hr; cases hr
    | [], _, _, hr => cases hr
    | _ :: _ :: _, _, _, hr => cases hr
  | cap =>
    match args, ha, hr with
    | [x], ha, hr =>
      obtain ⟨x', he, hx⟩ := args1 rfl ha
      cases hl : c.argTypes.toList with
      | nil => rw [hl] at hr; cases hr
      | cons t l =>
        rw [hl] at hr
        obtain ⟨ti, hti, hr⟩ := wTy_ok hr
        have h0 := hat0 t l hl
        cases hk : ti.k with
        | slice el => simp only [hk] at hr; exact hex (Builtin.cap_ c.argTypes o.type #[x']) (fun cs => by rw [he]; rfl) (oCapS_ok H h0 (hT t ti hti) hk hx hr)
        | _ => simp only [hk] at hr; cases hr
    | [], _, hr => cases hr
    | _ :: _ :: _, _, hr => cases hr
  | min =>
    match args, ha, hr with
    | [x, y], ha, hr =>
      obtain ⟨x', y', he, hx, hy⟩ := args2 rfl ha
      exact hex _ (fun cs => by rw [he]; rfl) (oMin_ok (F := F) H hx hy hr)
    | [], _, hr => cases hr
    | [_], _, hr => cases hr
    | _ :: _ :: _ :: _, _, hr => cases hr
  | max =>
    match args, ha, hr with
    | [x, y], ha, hr =>
      obtain ⟨x', y', he, hx, hy⟩ := args2 rfl ha
      exact hex _ (fun cs => by rw [he]; rfl) (oMax_ok (F := F) H hx hy hr)
    | [], _, hr => cases hr
    | [_], _, hr => cases hr
    | _ :: _ :: _ :: _, _, hr => cases hr
  | copy =>
    have hE' : ∀ b, ¬ E b := by
      rcases hE with h | h | h | ⟨h, _⟩
      · exact h
      all_goals cases h
    match args, ha, hr with
    | [d, x], ha, hr =>
      obtain ⟨d', x', he, hd, hx⟩ := args2 rfl ha
      cases hl : c.argTypes.toList with
      | nil => rw [hl] at hr; cases hr
      | cons t l =>
        rw [hl] at hr
        obtain ⟨ti, hti, hr⟩ := wTy_ok hr
        cases hk : ti.k with
        | slice el =>
          simp only [hk] at hr
          obtain ⟨ei, hei, hr⟩ := wTy_ok hr
          exact hex _ (fun cs => by rw [he]; rfl) (oCopy_ok H hE' (hat0 t l hl) (hT t ti hti) hk (hT el ei hei) hd hx hr)
        | _ => simp only [hk] at hr; cases hr
    | [], _, hr => cases hr
    | [_], _, hr => cases hr
    | _ :: _ :: _ :: _, _, hr => cases hr
  | clear =>
    have hE' : ∀ b, ¬ E b := by
      rcases hE with h | h | h | ⟨h, _⟩
      · exact h
      all_goals cases h
    match args, ha, hr with
    | [x], ha, hr =>
      obtain ⟨x', he, hx⟩ := args1 rfl ha
      cases hl : c.argTypes.toList with
      | nil => rw [hl] at hr; cases hr
      | cons t l =>
        rw [hl] at hr
        obtain ⟨ti, hti, hr⟩ := wTy_ok hr
        cases hk : ti.k with
        | slice el =>
          simp only [hk] at hr
          obtain ⟨ei, hei, hr⟩ := wTy_ok hr
          obtain ⟨hz, hr⟩ := wZ_ok hr
          exact hex _ (fun cs => by rw [he]; rfl) (oClear_ok H hE' (hat0 t l hl) (hT t ti hti) hk (hT el ei hei) hz hx hr)
        | map k q =>
          simp only [hk] at hr
          exact hex _ (fun cs => by rw [he]; rfl) (oClearMap_ok H hE' (hat0 t l hl) (hT t ti hti) hx hr)
        | _ => simp only [hk] at hr; cases hr
    | [], _, hr => cases hr
    | _ :: _ :: _, _, hr => cases hr
  | append =>
    have hE' : ∀ b, ¬ E b := by
      rcases hE with h | h | h | ⟨h, _⟩
      · exact h
      all_goals cases h
    match args, ha, hr with
    | [s, x], ha, hr =>
      obtain ⟨s', x', he, hs, hx⟩ := args2 rfl ha
      cases hl : c.argTypes.toList with
      | nil => rw [hl] at hr; cases hr
      | cons t l =>
        cases l with
        | nil => rw [hl] at hr; cases hr
        | cons t2 l =>
          rw [hl] at hr
          obtain ⟨ti, hti, hr⟩ := wTy_ok hr
          obtain ⟨xi, hxi, hr⟩ := wTy_ok hr
          have h0 := hat0 t _ hl
          have h1 := hat1 t t2 l hl
          cases hk : ti.k with
          | slice en =>
            cases hk2 : xi.k with
            | slice q =>
              simp only [hk, hk2] at hr
              obtain ⟨ei, hei, hr⟩ := wTy_ok hr
              cases hsz : ei.size with
              | zero => simp only [hsz] at hr; cases hr
              | succ n =>
                simp only [hsz] at hr
                obtain ⟨hz, hr⟩ := wZ_ok hr
                have hs2 : n.succ = ei.size := hsz.symm
                rw [hs2] at hr
                exact hex _ (fun cs => by rw [he]; rfl) (oAppend_ok H hE' h0 h1 (hT t ti hti) hk (hT t2 xi hxi) (.inl ⟨q, hk2⟩) hei (hT en ei hei) (by omega) hz hs hx hr)
            | string =>
              simp only [hk, hk2] at hr
              obtain ⟨ei, hei, hr⟩ := wTy_ok hr
              cases hsz : ei.size with
              | zero => simp only [hsz] at hr; cases hr
              | succ n =>
                simp only [hsz] at hr
                obtain ⟨hz, hr⟩ := wZ_ok hr
                have hs2 : n.succ = ei.size := hsz.symm
                rw [hs2] at hr
                exact hex _ (fun cs => by rw [he]; rfl) (oAppend_ok H hE' h0 h1 (hT t ti hti) hk (hT t2 xi hxi) (.inr hk2) hei (hT en ei hei) (by omega) hz hs hx hr)
            | int q =>
              simp only [hk, hk2] at hr
              obtain ⟨ei, hei, hr⟩ := wTy_ok hr
              cases hsz : ei.size with
              | zero => simp only [hsz] at hr; cases hr
              | succ n =>
                simp only [hsz] at hr
                obtain ⟨hz, hr⟩ := wZ_ok hr
                have hs2 : n.succ = ei.size := hsz.symm
                rw [hs2] at hr
                exact hex _ (fun cs => by rw [he]; rfl) (oAppendZ_ok H hE' h0 h1 (hT t ti hti) hk (hT t2 xi hxi) hk2 hei (hT en ei hei) (by omega) hz hs hx hr)
            | _ => simp only [hk, hk2] at hr; cases hr
          | _ => simp only [hk] at hr; cases hr
    | [], _, hr => cases hr
    | [_], _, hr => cases hr
    | _ :: _ :: _ :: _, _, hr => cases hr
  | delete =>
    have hE' : ∀ b, ¬ E b := by
      rcases hE with h | h | h | ⟨h, _⟩
      · exact h
      all_goals cases h
    match args, ha, hr with
    | [m, key], ha, hr =>
      obtain ⟨m', key', he, hm, hkey⟩ := args2 rfl ha
      cases hl : c.argTypes.toList with
      | nil => rw [hl] at hr; cases hr
      | cons t l =>
        rw [hl] at hr
        obtain ⟨ti, kt, el, K, hti, hk, hK, hr⟩ := wKey_ok (k := fun ks => oDelete ks m key) hr
        exact hex _ (fun cs => by rw [he]; rfl) (oDelete_ok hT H hE' (hat0 t l hl) (hT t ti hti) hk hK hm hkey hr)
    | [], _, hr => cases hr
    | [_], _, hr => cases hr
    | _ :: _ :: _ :: _, _, hr => cases hr
  | _ => cases hr

theorem opC_ok (hT : TabOk P ty) (hF : CallOk P ty F) (H : RelW ty φ E h w) {o : Oper} {a : Act} (hst : Names φ f e a.eval o.op) (hE : Touch ty f e E o.op) (hr : opC ty f o.op F e h = .ok v h') :
    OpDoes P ty φ E h v h' o a w := by
  cases ho : o.op with
  | move x =>
    rw [ho] at hr hst
    obtain ⟨x', hx', hr⟩ := w1_ok hr
    exact .of_gives (s := pure (a.eval x)) (by unfold execOp; rw [ho]; rfl) (oMove_ok H (hst x (by simp [Op.operands]) x' hx') hr)
  | assign x =>
    rw [ho] at hr hst
    obtain ⟨x', hx', hr⟩ := w1_ok hr
    exact .of_gives (s := pure (a.eval x)) (by unfold execOp; rw [ho]; rfl) (oMove_ok H (hst x (by simp [Op.operands]) x' hx') hr)
  | pick c x y =>
    rw [ho] at hr hst
    obtain ⟨c', hc', hr⟩ := w1_ok hr
    obtain ⟨x', y', hx', hy', hr⟩ := w2_ok hr
    refine .of_gives (s := (do pure (if ← asBool (a.eval c) then a.eval x else a.eval y))) ?_ (oPick_ok H (hst c (by simp [Op.operands]) c' hc') (hst x (by simp [Op.operands]) x' hx') (hst y (by simp [Op.operands]) y' hy') hr)
    unfold execOp; rw [ho]; simp
  | alloc t =>
    rw [ho] at hr hst
    obtain ⟨ti, hti, hr⟩ := wTy_ok hr
    obtain ⟨hz, hr⟩ := wZ_ok hr
    cases hc : setAll .mt 0 ti.zero with
    | none => rw [hc] at hr; cases hr
    | some c =>
      rw [hc] at hr
      exact .of_gives (by unfold execOp; rw [ho]) (oAlloc_ok H (hT t ti hti) hz hc hr)
  | box t x =>
    rw [ho] at hr hst
    obtain ⟨x', hx', hr⟩ := w1_ok hr
    exact .of_gives (by unfold execOp; rw [ho]) (oBox_ok H (hst x (by simp [Op.operands]) x' hx') hr)
  | build t parts =>
    rw [ho] at hr hst
    obtain ⟨ti, hti, hr⟩ := wTy_ok hr
    obtain ⟨hz, hr⟩ := wZ_ok hr
    have hps : ∀ p ∈ parts.toList, ∀ y, cO f p.2 = some y → RelV φ (y e) (a.eval p.2) := fun p hp => hst p.2 (by simp only [Op.operands, List.mem_map]; exact ⟨p, hp, rfl⟩)
    cases hk : ti.k with
    | struct fs =>
      simp only [hk] at hr
      cases hp : partsC f (placeS fs) parts.toList with
      | none => rw [hp] at hr; cases hr
      | some ps =>
        rw [hp] at hr
        exact .of_gives (by unfold execOp; rw [ho]) (oBuildS_ok H (hT t ti hti) hk hz (ps' := parts.map fun (i, x) => (i, a.eval x)) (by simpa using parts_ok (ρ := a.eval) hp hps) hr)
    | arr n el =>
      simp only [hk] at hr
      obtain ⟨ei, hei, hr⟩ := wTy_ok hr
      cases hp : partsC f (fun i => some (Nat.mul i ei.size, ei.size)) parts.toList with
      | none => rw [hp] at hr; cases hr
      | some ps =>
        rw [hp] at hr
        exact .of_gives (by unfold execOp; rw [ho]) (oBuildA_ok H (hT t ti hti) hk (hT el ei hei) hz (ps' := parts.map fun (i, x) => (i, a.eval x)) (by simpa using parts_ok (ρ := a.eval) hp hps) hr)
    | _ => simp only [hk] at hr; cases hr
  | buildSlice t len parts =>
    rw [ho] at hr hst
    obtain ⟨ti, hti, hr⟩ := wTy_ok hr
    have hps : ∀ p ∈ parts.toList, ∀ y, cO f p.2 = some y → RelV φ (y e) (a.eval p.2) := fun p hp => hst p.2 (by simp only [Op.operands, List.mem_map]; exact ⟨p, hp, rfl⟩)
    cases hk : ti.k with
    | slice el =>
      simp only [hk] at hr
      obtain ⟨ei, hei, hr⟩ := wTy_ok hr
      obtain ⟨hz, hr⟩ := wZ_ok hr
      cases hp : partsC f (fun i => some (Nat.mul i ei.size, ei.size)) parts.toList with
      | none => rw [hp] at hr; cases hr
      | some ps =>
        rw [hp] at hr
        simp only at hr
        cases hb : Nat.ble (Nat.mul len ei.size) 16777216 with
        | false => rw [hb] at hr; cases hr
        | true =>
          rw [hb] at hr
          exact .of_gives (by unfold execOp; rw [ho]) (oBuildSlice_ok H (hT t ti hti) hk (hT el ei hei) hz (nat_ble.1 hb) (ps' := parts.map fun (i, x) => (i, a.eval x)) (by simpa using parts_ok (ρ := a.eval) hp hps) hr)
    | _ => simp only [hk] at hr; cases hr
  | load t x =>
    rw [ho] at hr hst hE
    obtain ⟨ti, hti, hr⟩ := wTy_ok hr
    obtain ⟨x', hx', hr⟩ := w1_ok hr
    have hx := hst x (by simp [Op.operands]) x' hx'
    cases hk : ti.k.agg with
    | true => rw [hk] at hr; exact .of_gives (by unfold execOp; rw [ho]) (oLoadN_ok H (hT t ti hti) hk hx (touch_r rfl hE hx') hr)
    | false => rw [hk] at hr; exact .of_gives (by unfold execOp; rw [ho]) (oLoad1_ok H (hT t ti hti) hk hx (touch_r rfl hE hx') hr)
  | store t x y =>
    rw [ho] at hr hst hE
    obtain ⟨ti, hti, hr⟩ := wTy_ok hr
    obtain ⟨x', y', hx', hy', hr⟩ := w2_ok hr
    exact .of_skips (by unfold execOp; rw [ho]) (oStore_ok H (hT t ti hti) (hst x (by simp [Op.operands]) x' hx') (hst y (by simp [Op.operands]) y' hy') (fun a _ => touch_w (x := x) rfl hE _) hr)
  | nilCheck x =>
    rw [ho] at hr hst
    obtain ⟨x', hx', hr⟩ := w1_ok hr
    obtain ⟨hv, rfl, hne⟩ := oNil_ok H (hst x (by simp [Op.operands]) x' hx') hr
    refine .of_gives (s := pure (a.eval x)) ?_ (.same H hv)
    unfold execOp; rw [ho]
    obtain ⟨h1, h2, h3, h4⟩ := hne
    simp only
    generalize a.eval x = z at h1 h2 h3 h4 ⊢
    cases z <;> first | rfl | (exact absurd rfl h2) | (exact absurd rfl h3) | skip
  | binOp op t x y yt => rw [ho] at hr hst; exact bin_ok hT H ho (by rw [ho]; exact hst) hr
  | unOp op t x =>
    rw [ho] at hr hst
    obtain ⟨ti, hti, hr⟩ := wTy_ok hr
    obtain ⟨x', hx', hr⟩ := w1_ok hr
    have hx := hst x (by simp [Op.operands]) x' hx'
    have hex : execOp a.eval o = (do pure (.value (← Op.unary op (a.eval x)))) := by unfold execOp; rw [ho]
    cases op with
    | not => exact .of_gives hex (oNot_ok H hx (by revert hr; cases ti.k <;> exact id))
    | neg =>
      cases hk : ti.k with
      | int k => simp only [hk] at hr; exact .of_gives hex (oNeg_ok H hx hr)
      | _ => simp only [hk] at hr; cases hr
    | plus => revert hr; cases ti.k <;> intro hr <;> cases hr
    | xor =>
      cases hk : ti.k with
      | int k => cases k <;> simp only [hk] at hr <;> first | cases hr; done | exact .of_gives hex (oCpl_ok H hx hr)
      | _ => simp only [hk] at hr; cases hr
  | fieldAddr t x i =>
    rw [ho] at hr hst
    obtain ⟨ti, hti, hr⟩ := wTy_ok hr
    obtain ⟨x', hx', hr⟩ := w1_ok hr
    have hx := hst x (by simp [Op.operands]) x' hx'
    cases hk : ti.k with
    | struct fs =>
      simp only [hk] at hr
      cases hn : nth fs i with
      | none => rw [hn] at hr; cases hr
      | some q =>
        obtain ⟨off, s, ft⟩ := q
        rw [hn] at hr
        cases s with
        | zero => cases hr
        | succ s => exact .of_gives (by unfold execOp; rw [ho]) (oFieldAddr_ok H (hT t ti hti) hk hn hx hr)
    | _ => simp only [hk] at hr; cases hr
  | field t x i =>
    rw [ho] at hr hst
    obtain ⟨ti, hti, hr⟩ := wTy_ok hr
    obtain ⟨x', hx', hr⟩ := w1_ok hr
    have hx := hst x (by simp [Op.operands]) x' hx'
    cases hk : ti.k with
    | struct fs =>
      simp only [hk] at hr
      cases hn : nth fs i with
      | none => rw [hn] at hr; cases hr
      | some q =>
        obtain ⟨off, s, ft⟩ := q
        rw [hn] at hr
        obtain ⟨fi, hfi, hr⟩ := wTy_ok hr
        exact .of_gives (by unfold execOp; rw [ho]) (oField_ok H (hT t ti hti) hk hn (hT ft fi hfi) hx hr)
    | _ => simp only [hk] at hr; cases hr
  | indexAddr t x ix =>
    rw [ho] at hr hst
    obtain ⟨ti, hti, hr⟩ := wTy_ok hr
    obtain ⟨x', y', hx', hy', hr⟩ := w2_ok hr
    have hx := hst x (by simp [Op.operands]) x' hx'
    have hy := hst ix (by simp [Op.operands]) y' hy'
    cases hk : ti.k with
    | arr n el =>
      simp only [hk] at hr
      obtain ⟨ei, hei, hr⟩ := wTy_ok hr
      exact .of_gives (by unfold execOp; rw [ho]) (oIdxArr_ok H (hT t ti hti) hk (hT el ei hei) hx hy hr)
    | slice el =>
      simp only [hk] at hr
      obtain ⟨ei, hei, hr⟩ := wTy_ok hr
      exact .of_gives (by unfold execOp; rw [ho]) (oIdx_ok H (hT t ti hti) hk (hT el ei hei) hx hy hr)
    | _ => simp only [hk] at hr; cases hr
  | index t x ix =>
    rw [ho] at hr hst
    obtain ⟨ti, hti, hr⟩ := wTy_ok hr
    obtain ⟨x', y', hx', hy', hr⟩ := w2_ok hr
    have hx := hst x (by simp [Op.operands]) x' hx'
    have hy := hst ix (by simp [Op.operands]) y' hy'
    cases hk : ti.k with
    | arr n el =>
      simp only [hk] at hr
      obtain ⟨ei, hei, hr⟩ := wTy_ok hr
      exact .of_gives (by unfold execOp; rw [ho]) (oAt_ok H (hT t ti hti) hk (hT el ei hei) hx hy hr)
    | string =>
      simp only [hk] at hr
      exact .of_gives (by unfold execOp; rw [ho]) (oAtStr_ok H (hT t ti hti) hk hx hy hr)
    | _ => simp only [hk] at hr; cases hr
  | extract x i =>
    rw [ho] at hr hst
    obtain ⟨x', hx', hr⟩ := w1_ok hr
    exact .of_gives (by unfold execOp; rw [ho]) (oExtract_ok H (hst x (by simp [Op.operands]) x' hx') hr)
  | makeInterface t x =>
    rw [ho] at hr hst
    obtain ⟨ti, hti, hr⟩ := wTy_ok hr
    obtain ⟨x', hx', hr⟩ := w1_ok hr
    have hx := hst x (by simp [Op.operands]) x' hx'
    have hne : ti.k ≠ .iface := by intro hk; rw [hk] at hr; cases hr
    have hr' : oIface t x' F e h = .ok v h' := by revert hr hne; cases ti.k <;> intro hr hne <;> first | exact hr | exact absurd rfl hne
    exact .of_gives (by unfold execOp; rw [ho]) (oIface_ok H (hT t ti hti) hne hx hr')
  | makeFunc fn first cap =>
    rw [ho] at hr hst
    simp only [opC] at hr
    cases h1 : cOs f first.toList with
    | none => simp only [h1] at hr; cases hr
    | some fs =>
      cases h2 : cOs f cap.toList with
      | none => simp only [h1, h2] at hr; cases hr
      | some cs =>
        simp only [h1, h2] at hr
        refine .of_gives (s := Instr.makeFunc fn (first.map a.eval) (cap.map a.eval)) (by unfold execOp; rw [ho]) ?_
        have e1 : first.map a.eval = ⟨first.toList.map a.eval⟩ := by apply Array.ext'; simp
        have e2 : cap.map a.eval = ⟨cap.toList.map a.eval⟩ := by apply Array.ext'; simp
        rw [e1, e2]
        exact oFunc_ok H (cOs_ok h1 fun x hx => hst x (by simp [Op.operands] at hx ⊢; exact .inl hx)) (cOs_ok h2 fun x hx => hst x (by simp [Op.operands] at hx ⊢; exact .inr hx)) hr
  | makeMap t r =>
    rw [ho] at hr hst
    cases r with
    | some _ => cases hr
    | none => exact .of_gives (by unfold execOp; rw [ho]; rfl) (oMap_ok (F := F) (e := e) H (t := t) hr)
  | makeSlice t l c =>
    rw [ho] at hr hst
    obtain ⟨ti, hti, hr⟩ := wTy_ok hr
    cases hk : ti.k with
    | slice el =>
      simp only [hk] at hr
      obtain ⟨ei, hei, hr⟩ := wTy_ok hr
      obtain ⟨hz, hr⟩ := wZ_ok hr
      obtain ⟨l', c', hl', hc', hr⟩ := w2_ok hr
      exact .of_gives (by unfold execOp; rw [ho]) (oMake_ok H (hT t ti hti) hk (hT el ei hei) hz (hst l (by simp [Op.operands]) l' hl') (hst c (by simp [Op.operands]) c' hc') hr)
    | _ => simp only [hk] at hr; cases hr
  | sliceToArrayPointer t x =>
    rw [ho] at hr hst
    obtain ⟨ti, hti, hr⟩ := wTy_ok hr
    cases hk : ti.k with
    | arr n el =>
      simp only [hk] at hr
      cases n with
      | zero => cases hr
      | succ n =>
        obtain ⟨x', hx', hr⟩ := w1_ok hr
        exact .of_gives (by unfold execOp; rw [ho]) (oArr_ok H (hT t ti hti) hk (Nat.succ_pos _) (hst x (by simp [Op.operands]) x' hx') hr)
    | _ => simp only [hk] at hr; cases hr
  | slice t x lo hi mx =>
    rw [ho] at hr hst
    obtain ⟨ti, hti, hr⟩ := wTy_ok hr
    obtain ⟨x', hx', hr⟩ := w1_ok hr
    have hx := hst x (by simp [Op.operands]) x' hx'
    cases h1 : cOo f lo with
    | none => simp only [h1] at hr; cases hr
    | some lo' =>
      cases h2 : cOo f hi with
      | none => simp only [h1, h2] at hr; cases hr
      | some hi' =>
        cases h3 : cOo f mx with
        | none => simp only [h1, h2, h3] at hr; cases hr
        | some mx' =>
          simp only [h1, h2, h3] at hr
          have r1 : RelO φ e lo' (lo.map a.eval) := cOo_ok h1 fun z hz => hst z (by rw [hz]; simp [Op.operands])
          have r2 : RelO φ e hi' (hi.map a.eval) := cOo_ok h2 fun z hz => hst z (by rw [hz]; simp [Op.operands])
          have r3 : RelO φ e mx' (mx.map a.eval) := cOo_ok h3 fun z hz => hst z (by rw [hz]; simp [Op.operands])
          cases hk : ti.k with
          | string =>
            simp only [hk] at hr
            cases mx' with
            | some _ => cases hr
            | none =>
              have hcut : oCutStr x' lo' hi' F e h = .ok v h' := hr
              have hmx : mx = none := by
                cases mx with
                | none => rfl
                | some z => cases r3
              subst hmx
              exact .of_gives (by unfold execOp; rw [ho]; rfl) (oCutStr_ok H (hT t ti hti) hk hx r1 r2 hcut)
          | slice el =>
            simp only [hk] at hr
            obtain ⟨ei, hei, hr⟩ := wTy_ok hr
            exact .of_gives (by unfold execOp; rw [ho]) (oCut_ok H (hT t ti hti) hk hei (hT el ei hei) hx r1 r2 r3 hr)
          | arr n el =>
            simp only [hk] at hr
            obtain ⟨ei, hei, hr⟩ := wTy_ok hr
            exact .of_gives (by unfold execOp; rw [ho]) (oCutArr_ok H (hT t ti hti) hk (hT el ei hei) hx r1 r2 r3 hr)
          | _ => simp only [hk] at hr; cases hr
  | convert src dst x =>
    rw [ho] at hr hst hE
    obtain ⟨si, hsi, hr⟩ := wTy_ok hr
    obtain ⟨di, hdi, hr⟩ := wTy_ok hr
    obtain ⟨x', hx', hr⟩ := w1_ok hr
    have hx := hst x (by simp [Op.operands]) x' hx'
    have hex : execOp a.eval o = (do pure (.value (← convert src dst (a.eval x)))) := by unfold execOp; rw [ho]
    obtain ⟨ds, hds, ks⟩ := (hT src si hsi).und
    obtain ⟨dd, hdd, kd⟩ := (hT dst di hdi).und
    cases hk : di.k with
    | int k =>
      cases hk2 : si.k with
      | int k2 =>
        simp only [hk, hk2] at hr
        obtain ⟨q, n, hxe, hg⟩ := oConv_ok (P := P) H hx hr
        rw [hk] at kd; cases kd
        rw [hk2] at ks; cases ks
        refine .of_gives hex ?_
        rw [hxe]
        have : (convert src dst (.int q n)).run P w = (Conv.intToInt k n).run P w := by
          simp only [convert, Sem.run_bind, run_underlying hds, run_underlying hdd, Result.andThen_ok]
        rw [this]; exact hg
      | _ => simp only [hk, hk2] at hr; cases hr
    | string =>
      cases hk2 : si.k with
      | string =>
        simp only [hk, hk2] at hr
        obtain ⟨s, hxe, hg⟩ := oSame_ok H hx hr
        rw [hk] at kd; cases kd
        rw [hk2] at ks; cases ks
        refine .of_gives hex ?_
        rw [hxe] at hg ⊢
        have : (convert src dst (.string s)).run P w = .ok (.string s) w := by
          simp only [convert, Sem.run_bind, run_underlying hds, run_underlying hdd, Result.andThen_ok, Sem.run_pure]
        rw [this]; exact hg
      | slice el =>
        simp only [hk, hk2] at hr
        obtain ⟨ei, hei, hr⟩ := wTy_ok hr
        cases hk3 : ei.k with
        | int k3 =>
          cases k3 <;> simp only [hk3] at hr <;> first | (cases hr; done) | skip
          refine .of_gives hex (oToStr_ok H (fun a l c hxe => ?_) (hT src si hsi) hk2 (hT dst di hdi) hk (hT el ei hei) hk3 hx hr)
          cases hb : Nat.beq src dst with
          | true => exact touch_q (by simp only [Go.Proofs.Ytkafejncffinmaa.kd, hb]) hE _
          | false =>
            have hi : isIntT ty src = false := by unfold isIntT; rw [hsi]; simp only [hk2]
            have hi2 : isSliceT ty dst = false := by unfold isSliceT; rw [hdi]; simp only [hk]
            have hkd : Go.Proofs.Ytkafejncffinmaa.kd ty (.convert src dst x) = .r x := by simp only [Go.Proofs.Ytkafejncffinmaa.kd, hb, hi, hi2]
            unfold Touch at hE
            rw [hkd] at hE
            exact hE x' hx' _ (by rw [hxe]; rfl)
        | _ => simp only [hk3] at hr; cases hr
      | _ => simp only [hk, hk2] at hr; cases hr
    | slice el =>
      cases hk2 : si.k with
      | string =>
        simp only [hk, hk2] at hr
        obtain ⟨ei, hei, hr⟩ := wTy_ok hr
        cases hk3 : ei.k with
        | int k3 =>
          cases k3 <;> simp only [hk3] at hr <;> first | (cases hr; done) | skip
          cases hb : Nat.beq ei.size 1 with
          | false => rw [hb] at hr; cases hr
          | true =>
            rw [hb] at hr
            exact .of_gives hex (oToBytes_ok H (hT src si hsi) hk2 (hT dst di hdi) hk (hT el ei hei) hk3 hei (nat_beq.1 hb) hx hr)
        | _ => simp only [hk3] at hr; cases hr
      | slice el2 =>
        simp only [hk, hk2] at hr
        cases hb : Nat.beq src dst with
        | false => rw [hb] at hr; cases hr
        | true =>
          rw [hb] at hr
          have heq : src = dst := nat_beq.1 hb
          have hE' := touch_q (by simp only [Go.Proofs.Ytkafejncffinmaa.kd, hb]) hE
          obtain ⟨ei, hei, hr⟩ := wTy_ok hr
          cases hk3 : ei.k with
          | int k3 =>
            cases k3 <;> simp only [hk3] at hr <;> first | (cases hr; done) | skip
            have hg := oBytes_ok (P := P) H hE' (hT dst di hdi) hk (hT el ei hei) hk3 hx hr
            rw [heq] at hex
            exact .of_gives hex hg
          | _ => simp only [hk3] at hr; cases hr
      | _ => simp only [hk, hk2] at hr; cases hr
    | _ => simp only [hk] at hr; cases hr
  | call c =>
    rw [ho] at hr hst hE
    simp only [opC] at hr
    cases h1 : cOs f c.args.toList with
    | none => simp only [h1] at hr; cases hr
    | some args =>
      simp only [h1] at hr
      have ha : RelL φ (vals e args) (c.args.toList.map a.eval) := cOs_ok h1 fun x hx => hst x (by
        unfold Op.operands Call.operands
        cases hc : c.callee <;> simp [hc] <;> first | exact Or.inr (by simpa using hx) | exact (by simpa using hx))
      cases hc : c.callee with
      | builtin b =>
        simp only [hc] at hr
        refine built_ok hT H hc ho ha ?_ hr
        cases b with
        | len =>
          refine .inr (.inr (.inr ⟨rfl, fun x hx t ti ht hti hm r hxr => ?_⟩))
          subst hx
          cases hl : c.args.toList with
          | nil => rw [hl] at h1; cases h1
          | cons x0 l =>
            cases l with
            | cons x1 l =>
              rw [hl] at h1
              unfold cOs at h1
              cases hx0 : cO f x0 with
              | none => rw [hx0] at h1; cases h1
              | some y0 =>
                rw [hx0] at h1
                cases hx1 : cOs f (x1 :: l) with
                | none => rw [hx1] at h1; cases h1
                | some ys =>
                  rw [hx1] at h1
                  cases h1
                  unfold cOs at hx1
                  cases hq : cO f x1 with
                  | none => rw [hq] at hx1; cases hx1
                  | some y1 =>
                    rw [hq] at hx1
                    cases hq2 : cOs f l with
                    | none => rw [hq2] at hx1; cases hx1
                    | some ys => rw [hq2] at hx1; cases hx1
            | nil =>
              rw [hl] at h1
              have hx0 : cO f x0 = some x := by
                unfold cOs at h1
                cases hx0 : cO f x0 with
                | none => rw [hx0] at h1; cases h1
                | some y0 => rw [hx0] at h1; cases h1; rfl
              obtain ⟨k, q, hm⟩ := hm
              have hmap : isMapT ty (c.argTypes.getD 0 0) = true := by
                have : c.argTypes.getD 0 0 = t := by rw [Array.getD_eq_getD_getElem?, ht]; rfl
                rw [this]; unfold isMapT; rw [hti]; simp only [hm]
              have hk : kd ty (.call c) = .r x0 := by simp only [kd, hc, hl, hmap]
              unfold Touch at hE
              rw [hk] at hE
              exact hE x hx0 r (by rw [hxr]; rfl)
        | min => exact .inr (.inl rfl)
        | max => exact .inr (.inr (.inl rfl))
        | _ =>
          refine .inl ?_
          cases hl : c.args.toList with
          | nil => exact touch_q (by simp only [kd, hc, hl]) hE
          | cons x l => exact touch_w (x := x) (by simp only [kd, hc, hl]) hE
      | value g =>
        simp only [hc] at hr
        have hE' : ∀ b, ¬ E b := touch_q (by simp only [kd, hc]) hE
        cases g with
        | func g => exact oCall_ok hF H hE' hc ho ha hr
        | tmp t =>
          obtain ⟨g', hg', hr⟩ := w1_ok hr
          exact oApply_ok hF H hE' hc ho (hst (.tmp t) (by unfold Op.operands Call.operands; simp [hc]) g' hg') ha hr
        | const t =>
          obtain ⟨g', hg', hr⟩ := w1_ok hr
          exact oApply_ok hF H hE' hc ho (hst (.const t) (by unfold Op.operands Call.operands; simp [hc]) g' hg') ha hr
        | global t =>
          obtain ⟨g', hg', hr⟩ := w1_ok hr
          exact oApply_ok hF H hE' hc ho (hst (.global t) (by unfold Op.operands Call.operands; simp [hc]) g' hg') ha hr
      | invoke recv name =>
        simp only [hc] at hr
        have hE' : ∀ b, ¬ E b := touch_q (by simp only [kd, hc]) hE
        obtain ⟨x', hx', hr⟩ := w1_ok hr
        exact oInvoke_ok hT hF H hE' hc ho (hst recv (by unfold Op.operands Call.operands; simp [hc]) x' hx') ha hr
  | lookup t x ix ok =>
    rw [ho] at hr hst hE
    obtain ⟨ti, hti, hr⟩ := wTy_ok hr
    obtain ⟨x', ix', hx', hix', hr⟩ := w2_ok hr
    cases hk : ti.k with
    | map kt el =>
      simp only [hk] at hr
      obtain ⟨ei, hei, hr⟩ := wTy_ok hr
      obtain ⟨hz, hr⟩ := wZ_ok hr
      unfold wZero at hr
      cases hzv : zeroV ei with
      | none => rw [hzv] at hr; cases hr
      | some z =>
        rw [hzv] at hr
        obtain ⟨ti2, kt2, el2, K, hti2, hk2, hK, hr⟩ := wKey_ok hr
        rw [hti] at hti2; cases hti2
        rw [hk] at hk2; cases hk2
        refine .of_gives (by unfold execOp; rw [ho]) (oLookup_ok hT H (hT t ti hti) hk (hT el ei hei) hz hzv hK (hst x (by simp [Op.operands]) x' hx') (hst ix (by simp [Op.operands]) ix' hix') (fun r hxr => ?_) hr)
        have hkd : kd ty (.lookup t x ix ok) = .r x := rfl
        unfold Touch at hE
        rw [hkd] at hE
        exact hE x' hx' r (by rw [hxr]; rfl)
    | _ => simp only [hk] at hr; cases hr
  | mapUpdate t m k x =>
    rw [ho] at hr hst hE
    obtain ⟨ti, kt, el, K, hti, hk, hK, hr⟩ := wKey_ok (k := fun ks => w1 f m fun m => w2 f k x fun key x => oUpdate ks m key x) hr
    obtain ⟨m', hm', hr⟩ := w1_ok hr
    obtain ⟨k', x', hk', hx', hr⟩ := w2_ok hr
    exact .of_skips (by unfold execOp; rw [ho]) (oUpdate_ok hT H (touch_w (x := m) rfl hE) (hT t ti hti) hk hK (hst m (by simp [Op.operands]) m' hm') (hst k (by simp [Op.operands]) k' hk') (hst x (by simp [Op.operands]) x' hx') hr)
  | insert t m k x =>
    rw [ho] at hr hst hE
    obtain ⟨ti, kt, el, K, hti, hk, hK, hr⟩ := wKey_ok (k := fun ks => w1 f m fun m => w2 f k x fun key x => oUpdate ks m key x) hr
    obtain ⟨m', hm', hr⟩ := w1_ok hr
    obtain ⟨k', x', hk', hx', hr⟩ := w2_ok hr
    exact .of_skips (by unfold execOp; rw [ho]) (oUpdate_ok hT H (touch_w (x := m) rfl hE) (hT t ti hti) hk hK (hst m (by simp [Op.operands]) m' hm') (hst k (by simp [Op.operands]) k' hk') (hst x (by simp [Op.operands]) x' hx') hr)
  | range t x =>
    rw [ho] at hr hst hE
    obtain ⟨ti, hti, hr⟩ := wTy_ok hr
    cases hk : ti.k with
    | map k q =>
      simp only [hk] at hr
      obtain ⟨x', hx', hr⟩ := w1_ok hr
      exact .of_gives (by unfold execOp; rw [ho]) (oRange_ok H (touch_q rfl hE) (hT t ti hti) hk (hst x (by simp [Op.operands]) x' hx') hr)
    | _ => simp only [hk] at hr; cases hr
  | next x s =>
    rw [ho] at hr hst hE
    cases s with
    | true => cases hr
    | false =>
      obtain ⟨x', hx', hr⟩ := w1_ok hr
      exact .of_gives (by unfold execOp; rw [ho]) (oNext_ok (t := o.type) H (touch_q rfl hE) (hst x (by simp [Op.operands]) x' hx') hr)
  | entry x =>
    rw [ho] at hr hst hE
    obtain ⟨x', hx', hr⟩ := w1_ok hr
    exact .of_gives (by unfold execOp; rw [ho]) (oEntry_ok H (touch_q rfl hE) (hst x (by simp [Op.operands]) x' hx') hr)
  | typeAssert x xt t ok =>
    rw [ho] at hr hst hE
    obtain ⟨ti, hti, hr⟩ := wTy_ok hr
    obtain ⟨x', hx', hr⟩ := w1_ok hr
    have hr2 : ti.k ≠ .iface ∧ wZ ti (wZero ti fun z => oAssert t ok z x') F e h = .ok v h' := by
      cases hk : ti.k with
      | iface => simp only [hk] at hr; cases hr
      | _ => simp only [hk] at hr; exact ⟨nofun, hr⟩
    obtain ⟨hki, hr⟩ := hr2
    obtain ⟨hz, hr⟩ := wZ_ok hr
    unfold wZero at hr
    cases hzv : zeroV ti with
    | none => rw [hzv] at hr; cases hr
    | some z =>
      rw [hzv] at hr
      exact .of_gives (by unfold execOp; rw [ho]) (oAssert_ok H (hT t ti hti) hki hz hzv (hst x (by simp [Op.operands]) x' hx') hr)
  | _ => rw [ho] at hr; cases hr
end
end Go.Proofs.Ytkafejncffinmaa
