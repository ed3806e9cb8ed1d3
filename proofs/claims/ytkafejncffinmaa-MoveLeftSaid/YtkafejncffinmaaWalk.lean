/-
  A walk through a map that searches: each round by itself, from the same memory; whatever the order, what it comes to is the same.
-/
import Derived.Test.YtkafejncffinmaaDraw2
import Derived.Test.YtkafejncffinmaaIso
import Derived.LoopN
set_option linter.unusedSimpArgs false
set_option linter.unusedVariables false
namespace Go.Proofs.Ytkafejncffinmaa
open Go


/-! ### which slots a piece of code may write -/
def Ag (S : List Nat) (e e' : Env) : Prop := ∀ t, t < 320 → t ∉ S → e'.get t = e.get t
theorem Ag.refl (S : List Nat) (e : Env) : Ag S e e := fun _ _ _ => rfl
theorem Ag.trans {S : List Nat} {e e1 e2 : Env} (h : Ag S e e1) (h2 : Ag S e1 e2) : Ag S e e2 := fun t ht hn => (h2 t ht hn).trans (h t ht hn)
def KeepX (S : List Nat) (e : Env) : X → Prop
  | .no => True
  | .norm e' _ => Ag S e e'
  | .exit _ e' _ => Ag S e e'
  | .ret e' _ => Ag S e e'
theorem KeepX.of {S : List Nat} {e e1 : Env} {x : X} (h : Ag S e e1) (h2 : KeepX S e1 x) : KeepX S e x := by
  cases x with
  | no => trivial
  | norm _ _ => exact h.trans h2
  | exit _ _ _ => exact h.trans h2
  | ret _ _ => exact h.trans h2
def Keeps (S : List Nat) (c : C) : Prop := ∀ F e h, KeepX S e (c F e h)

theorem ag_set {S : List Nat} {d : Nat} (hd : d ∈ S) (hl : d < 320) (v : Value) (e : Env) : Ag S e (Env.set d v e) := fun t ht hn => by
  rw [Env.get_set _ _ _ _ hl ht, if_neg (by rintro rfl; exact hn hd)]
theorem ag_clear {S : List Nat} : ∀ (l : List Nat) (e : Env), (∀ d ∈ l, d ∈ S ∧ d < 320) → Ag S e (clearS e l)
  | [], e, _ => .refl _ _
  | d :: l, e, h => (ag_set (h d List.mem_cons_self).1 (h d List.mem_cons_self).2 _ e).trans (ag_clear l _ fun d hd => h d (List.mem_cons_of_mem _ hd))
theorem ag_lay {S : List Nat} : ∀ (l : List (Nat × Value)) (e : Env), (∀ d ∈ l, d.1 ∈ S ∧ d.1 < 320) → Ag S e (layS e l)
  | [], e, _ => .refl _ _
  | d :: l, e, h => (ag_set (h d List.mem_cons_self).1 (h d List.mem_cons_self).2 _ e).trans (ag_lay l _ fun d hd => h d (List.mem_cons_of_mem _ hd))

section
variable {S : List Nat}
theorem keeps_no : Keeps S cNo := fun _ _ _ => trivial
theorem keeps_norm : Keeps S cNorm := fun _ e _ => .refl _ e
theorem keeps_ret : Keeps S cRet := fun _ e _ => .refl _ e
theorem keeps_exit (id : Nat) : Keeps S (cExit id) := fun _ e _ => .refl _ e
theorem keeps_op {d : Nat} {f : OpF} {k : C} (hd : d ∈ S) (hl : d < 320) (hk : Keeps S k) : Keeps S (cOp (slotT d) f k) := fun F e h => by
  unfold cOp
  cases f F e h with
  | no => trivial
  | ok v h' =>
    show KeepX S e (slotT d (fun e => k F e h') v e)
    rw [slotT_is d hl]
    exact .of (ag_set hd hl v e) (hk F _ h')
theorem keeps_do {f : OpF} {k : C} (hk : Keeps S k) : Keeps S (cDo f k) := fun F e h => by
  unfold cDo
  cases f F e h with
  | no => trivial
  | ok v h' => exact hk F e h'
theorem keeps_g {g : Env → Value} {w : Bool} {d : Nat} {f : OpF} {k : C} (hd : d ∈ S) (hl : d < 320) (hk : Keeps S k) : Keeps S (cG g w (slotT d) f k) := fun F e h => by
  have h0 : KeepX S e (slotT d (fun e => k F e h) noRes e) := by
    rw [slotT_is d hl]
    exact .of (ag_set hd hl _ e) (hk F _ h)
  unfold cG
  split
  · rename_i b _
    cases (w == b) with
    | true => exact keeps_op hd hl hk F e h
    | false => exact h0
  · exact h0
  · trivial
theorem keeps_chk {w : Env → Value} {rs : List (Env → Value)} {k : C} (hk : Keeps S k) : Keeps S (cChk w rs k) := fun F e h => by
  unfold cChk
  split
  · rename_i b _
    cases cApart b e rs with
    | true => exact hk F e h
    | false => trivial
  · exact hk F e h
theorem keeps_old {x : O} {k : C} (hk : Keeps S k) : Keeps S (cOld x k) := fun F e h => by
  unfold cOld
  split
  · rename_i b _
    cases Nat.blt b h.mark with
    | true => exact hk F e h
    | false => trivial
  · exact hk F e h
theorem keeps_mark {k : C} (hk : Keeps S k) : Keeps S (cMark k) := fun F e h => hk F e _
theorem keeps_seq {a b : C} (ha : Keeps S a) (hb : Keeps S b) : Keeps S (cSeq a b) := fun F e h => by
  have := ha F e h
  unfold cSeq
  cases hx : a F e h with
  | no => trivial
  | norm e1 h1 => rw [hx] at this; exact .of this (hb F e1 h1)
  | exit i e1 h1 => rw [hx] at this; exact this
  | ret e1 h1 => rw [hx] at this; exact this
theorem keeps_cond {c : O} {a b : C} (ha : Keeps S a) (hb : Keeps S b) : Keeps S (cCond c a b) := fun F e h => by
  show KeepX S e (condV (c e) (a F e h) (b F e h))
  cases c e <;> first | trivial | skip
  rename_i t
  cases t with
  | true => exact ha F e h
  | false => exact hb F e h
theorem keeps_block {id : Nat} {a : C} (ha : Keeps S a) : Keeps S (cBlock id a) := fun F e h => by
  have := ha F e h
  unfold cBlock
  cases hx : a F e h with
  | no => trivial
  | norm e1 h1 => rw [hx] at this; exact this
  | exit i e1 h1 =>
    rw [hx] at this
    show KeepX S e (bif Nat.beq i id then .norm e1 h1 else .exit i e1 h1)
    cases Nat.beq i id <;> exact this
  | ret e1 h1 => rw [hx] at this; exact this
theorem keeps_iter {a : C} (ha : Keeps S a) : ∀ n, Keeps S (iter a n)
  | 0 => fun _ _ _ => trivial
  | n + 1 => fun F e h => by
    have := ha F e h
    unfold iter
    cases hx : a F e h with
    | no => trivial
    | norm e1 h1 => rw [hx] at this; exact .of this (keeps_iter ha n F e1 h1)
    | exit i e1 h1 => rw [hx] at this; exact this
    | ret e1 h1 => rw [hx] at this; exact this
theorem keeps_loop {a : C} (ha : Keeps S a) : Keeps S (cLoop a) := keeps_iter ha rounds
theorem takeS_slots {e : Env} : ∀ {l : List Nat}, ∀ d ∈ takeS e l, d.1 ∈ l
  | s :: l, d, hd => by
    unfold takeS at hd
    have ih : d ∈ takeS e l → d.1 ∈ s :: l := fun h => List.mem_cons_of_mem _ (takeS_slots d h)
    split at hd
    · rcases List.mem_cons.1 hd with rfl | hd
      · exact List.mem_cons_self
      · exact ih hd
    · rcases List.mem_cons.1 hd with rfl | hd
      · exact List.mem_cons_self
      · exact ih hd
    · exact ih hd
theorem walkR_slots {k : Walk} {body : C} {F : CallF} {e : Env} {h : Hp} {b m last : Nat} : ∀ {es : List Ent} {acc : WR} {vs : List (Nat × Value)}, (∀ us, acc = .stop us → ∀ d ∈ us, d.1 ∈ k.rs) → walkR k body F e h b m last es acc = .stop vs → ∀ d ∈ vs, d.1 ∈ k.rs
  | [], acc, vs, ha, hr => ha vs hr
  | x :: l, acc, vs, ha, hr => by
    unfold walkR at hr
    split at hr
    case h_2 => cases hr
    split at hr
    · rename_i h1 _
      cases hb : Nat.ble h.next h1.low with
      | false => rw [hb] at hr; cases hr
      | true => rw [hb] at hr; exact walkR_slots ha hr
    · rename_i e1 h1 _
      cases hb : Nat.ble h.next h1.low with
      | false => rw [hb] at hr; cases hr
      | true =>
        rw [hb] at hr
        have hr : walkStop k e1 acc (walkR k body F e h b m last l) = .stop vs := hr
        unfold walkStop at hr
        cases acc with
        | go => exact walkR_slots (fun ws hw => by cases hw; exact takeS_slots) hr
        | stop ws =>
          cases hs : sameS ws (takeS e1 k.rs) with
          | false => simp only [hs] at hr; cases hr
          | true => simp only [hs] at hr; exact walkR_slots ha hr
        | no => cases hr
    · cases hr
theorem keepX_bif {e : Env} {c : Bool} {x : X} (hx : KeepX S e x) : KeepX S e (bif c then x else .no) := by
  cases c
  · trivial
  · exact hx
theorem keeps_walk {k : Walk} {a : C} (hw : ∀ d ∈ k.ws, d ∈ S ∧ d < 320) (hm : k.more ∈ S ∧ k.more < 320) (hr : ∀ d ∈ k.rs, d ∈ S ∧ d < 320) (ha : Keeps S a) : Keeps S (cWalk k a) := fun F e h => by
  have hl := keeps_loop ha F e h
  have hat : ∀ ad m since last es c, KeepX S e (walkAt k a F e h ad m since last es c) := fun ad m since last es c => by
    unfold walkAt
    refine keepX_bif (keepX_bif (keepX_bif (keepX_bif (keepX_bif ?_))))
    unfold walkEnd
    cases h.bl.set ad.block .dead with
    | none => trivial
    | some bl =>
      simp only
      cases hvs : walkR k a F e h ad.block m last es .go with
      | no => trivial
      | go => exact (ag_clear _ _ hw).trans (ag_set hm.1 hm.2 _ _)
      | stop vs =>
        have h1 := walkR_slots (fun us h => by cases h) hvs
        exact (ag_clear _ _ hw).trans (ag_lay _ _ fun d hd => hr _ (h1 d hd))
  have hal : ∀ b, KeepX S e (allWalk k a F e h b) := fun b => by
    unfold allWalk
    cases firstE k a F e b 5 { next := h.next, low := h.next, high := 0, mark := h.mark, bl := h.bl } [] with
    | none => trivial
    | some p =>
      simp only
      cases p.1.bl.set b .dead with
      | none => trivial
      | some bc =>
        simp only
        cases copyB bc (Nat.sub p.1.next p.1.low) p.1.low h.bl with
        | none => trivial
        | some br => exact keepX_bif ((ag_clear _ _ hw).trans (ag_set hm.1 hm.2 _ _))
  unfold cWalk
  cases slotG k.it e <;> first | trivial | skip
  rename_i o
  cases o with
  | none => trivial
  | some ad =>
    simp only
    cases iterB (h.bl.get ad.block) with
    | ok m since seen last =>
      cases m with
      | none => exact hl
      | some m =>
        cases seen with
        | cons _ _ => trivial
        | nil =>
          simp only
          cases entsOf h m with
          | no => trivial
          | ok es c =>
            cases es with
            | nil => exact hl
            | cons x l =>
              cases l with
              | nil => exact hl
              | cons y l =>
                show KeepX S e (match walkAt k a F e h ad m since last (x :: y :: l) c with
                  | .no => bif Nat.beq ad.off 0 then (bif Nat.ble 256 ad.block then allWalk k a F e h ad.block else .no) else .no
                  | x => x)
                have h1 := hat ad m since last (x :: y :: l) c
                cases hx : walkAt k a F e h ad m since last (x :: y :: l) c with
                | no => exact keepX_bif (keepX_bif (hal _))
                | norm _ _ => rw [hx] at h1; exact h1
                | exit _ _ _ => rw [hx] at h1; exact h1
                | ret _ _ => rw [hx] at h1; exact h1
    | _ => exact hl
end

theorem dsts_mem {o : Oper} {d : Nat} (hd : o.dst = some d) : ∀ (l : List Oper), o ∈ l → d ∈ dsts l := by
  intro l
  induction l with
  | nil => intro h; cases h
  | cons p l ih =>
    intro h
    unfold dsts
    rcases List.mem_cons.1 h with h | h
    · rw [← h, hd]; exact List.mem_cons_self
    · have := ih h
      split
      · exact List.mem_cons_of_mem _ this
      · exact this
theorem retS_sub : ∀ {c : Code} {d : Nat}, d ∈ retS c → d ∈ wrs c
  | .seq a b, d, h => by
    have h0 : d ∈ retS a ++ retS b → d ∈ wrs a ++ wrs b := fun h => by
      rcases List.mem_append.1 h with h | h
      · exact List.mem_append_left _ (retS_sub h)
      · exact List.mem_append_right _ (retS_sub h)
    unfold retS at h
    split at h
    · split at h
      · exact List.mem_append_left _ h
      · exact List.mem_append_left _ (retS_sub h)
    · exact h0 h
  | .cond _ a b, d, h => by
    have h : d ∈ retS a ++ retS b := h
    rcases List.mem_append.1 h with h | h
    · exact List.mem_append_left _ (retS_sub h)
    · exact List.mem_append_right _ (retS_sub h)
  | .block _ a, d, h => retS_sub (c := a) h
  | .loop a, d, h => retS_sub (c := a) h
  | .scope a, d, h => retS_sub (c := a) h
  | .region _ _ _, d, h => by cases h
  | .skip, d, h => by cases h
  | .exit _, d, h => by cases h
  | .ret, d, h => by cases h
  | .rangeFunc _ _ _ _, d, h => by cases h
  | .label _, d, h => by cases h
  | .goto _, d, h => by cases h
  | .refuse _, d, h => by cases h
theorem fewN_ok : ∀ {l : List Nat}, fewN l = true → ∀ d ∈ l, d < 320
  | d :: l, h, x, hx => by
    unfold fewN at h
    split at h
    · rename_i hb
      rcases List.mem_cons.1 hx with rfl | hx
      · exact nat_blt.1 hb
      · exact fewN_ok h x hx
    · cases h

/-- what is known of a walk -/
structure WalkIs (A : List Nat) (a : Code) (k : Walk) (id : Nat) (o1 o2 : Oper) (r2 : Code) : Prop where
  code : a = .seq (.region id #[o1, o2] false) (.seq (.cond (.tmp k.more) .skip (.exit k.out)) r2)
  op1 : o1.op = .next (.tmp k.it) false
  dst1 : o1.dst = some k.nx
  grd1 : o1.guard = none
  op2 : o2.op = .extract (.tmp k.nx) 0
  dst2 : o2.dst = some k.more
  grd2 : o2.guard = none
  ne : k.nx ≠ k.more
  itA : memN k.it A = false
  nxA : memN k.nx A = false
  moA : memN k.more A = false
  itL : k.it < 320
  nxL : k.nx < 320
  moL : k.more < 320
  ws : k.ws = wrs a
  itW : k.it ∉ k.ws
  few : ∀ d ∈ k.ws, d < 320
  rs : ∀ d ∈ k.rs, d ∈ k.ws
theorem memN_false {t : Nat} : ∀ {l : List Nat}, memN t l = false → t ∉ l
  | d :: l, h, hm => by
    unfold memN at h
    split at h
    · cases h
    · rename_i hb
      rcases List.mem_cons.1 hm with rfl | hm
      · rw [Nat.beq_refl] at hb; cases hb
      · exact memN_false h hm
theorem outW_ok {more out : Nat} {c : Code} (h : outW more c = some out) : ∃ r2, c = .seq (.cond (.tmp more) .skip (.exit out)) r2 := by
  cases c with
  | seq a r => cases a with
    | cond c x y => cases c with
      | tmp t => cases x with
        | skip => cases y with
          | exit id =>
            have h : (match Nat.beq t more with | true => some id | false => none) = some out := h
            cases hb : Nat.beq t more with
            | false => rw [hb] at h; cases h
            | true =>
              rw [hb] at h
              cases h
              have := nat_beq.1 hb
              subst this
              exact ⟨r, rfl⟩
          | _ => cases h
        | _ => cases h
      | _ => cases h
    | _ => cases h
  | _ => cases h
theorem walkP_ok {A : List Nat} {a : Code} {k : Walk} (h : walkP A a = some k) : ∃ id o1 o2 r2, WalkIs A a k id o1 o2 r2 := by
  unfold walkP at h
  split at h
  case h_2 => cases h
  rename_i x rest
  split at h
  case h_2 => cases h
  rename_i id ops draw
  split at h
  case h_2 => cases h
  unfold walkOps at h
  split at h
  case h_2 => cases h
  rename_i o1 l1 hl0
  split at h
  case h_2 => cases h
  rename_i o2 l2
  split at h
  case h_2 => cases h
  split at h
  case h_2 => cases h
  rename_i x str hop1
  split at h
  case h_2 => cases h
  rename_i it
  split at h
  case h_2 => cases h
  split at h
  case h_2 => cases h
  rename_i nx hd1 hg1
  split at h
  case h_2 => cases h
  rename_i y i hop2
  split at h
  case h_2 => cases h
  rename_i n2
  split at h
  case h_2 => cases h
  rename_i more hd2 hg2
  split at h
  case h_2 => cases h
  rename_i hb
  split at h
  case h_2 => cases h
  rename_i out hout
  cases h
  simp only [Bool.and_eq_true, Bool.not_eq_true'] at hb
  obtain ⟨b1, b2, b3, b4, b5, b6, b7, b8, b9, b10, b11⟩ := hb
  obtain ⟨r2, rfl⟩ := outW_ok hout
  have e1 := nat_beq.1 b1
  have e2 := nat_beq.1 b2
  subst e1; subst e2
  have hops : ops = #[o1, o2] := Array.ext' hl0
  subst hops
  refine ⟨id, o1, o2, r2, { code := rfl, op1 := hop1, dst1 := hd1, grd1 := hg1, op2 := hop2, dst2 := hd2, grd2 := hg2, ne := beq_false b3, itA := b4, nxA := b5, moA := b6, itL := nat_blt.1 b7, nxL := nat_blt.1 b8, moL := nat_blt.1 b9, ws := ?_, itW := memN_false b10, few := ?_, rs := ?_ }⟩
  · show _ = dsts [o1, o2] ++ _
    simp only [dsts, hd1, hd2]
    rfl
  · intro d hd
    rcases List.mem_cons.1 hd with rfl | hd
    · exact nat_blt.1 b8
    · rcases List.mem_cons.1 hd with rfl | hd
      · exact nat_blt.1 b9
      · exact fewN_ok b11 d hd
  · intro d hd
    exact List.mem_cons_of_mem _ (List.mem_cons_of_mem _ (retS_sub hd))

section
variable {ty : TTy} {A S : List Nat}
theorem keeps_ahead {f : Fr} {a : Ahead} {o : OpF} {k : OpF → C} (hk : ∀ p, Keeps S (k p)) : Keeps S (aheadC f a o k) := by
  unfold aheadC
  split
  · exact hk _
  · exact hk _
  · split
    · exact keeps_chk (hk _)
    · exact keeps_no
  · split
    · split
      · exact keeps_old (keeps_chk (hk _))
      · exact keeps_chk (hk _)
    · exact keeps_no
theorem keeps_ops {all : List Oper} {k : Sg → C} (hk : ∀ σ, Keeps S (k σ)) : ∀ (l : List Oper) (ah : List Ahead) (σ : Sg), (∀ o ∈ l, ∀ d, o.dst = some d → d ∈ S) → Keeps S (opsC ty A all k ah l σ)
  | [], ah, σ, _ => by unfold opsC; exact hk σ
  | o :: l, ah, σ, h => by
    have ih : ∀ ah σ, Keeps S (opsC ty A all k ah l σ) := fun ah σ => keeps_ops hk l ah σ fun o ho => h o (List.mem_cons_of_mem _ ho)
    have hd := h o List.mem_cons_self
    unfold opsC
    split
    · exact keeps_ahead fun p => keeps_do (ih _ _)
    · rename_i d _ hdd
      split
      · split
        · split
          · exact ih _ _
          · exact keeps_no
        · exact keeps_no
      · split
        · rename_i hb
          exact keeps_ahead fun p => keeps_op (hd d hdd) (nat_blt.1 hb) (ih _ _)
        · exact keeps_no
    · rename_i d _ hdd
      split
      · exact keeps_no
      · split
        · split
          · split
            · split
              · rename_i hb
                exact keeps_ahead fun p => keeps_g (hd d hdd) (nat_blt.1 hb) (ih _ _)
              · exact keeps_no
            · exact keeps_no
          · exact keeps_no
        · exact keeps_no
    · exact keeps_no
theorem keeps_then {k : Option (Sg → C)} (hk : ∀ k', k = some k' → ∀ σ, Keeps S (k' σ)) (σ : Sg) : Keeps S (thenC k σ) := by
  cases k with
  | none => exact keeps_norm
  | some k => exact hk k rfl σ
theorem keeps_code : ∀ (c : Code) {σ : Sg} {k : Option (Sg → C)}, (∀ d ∈ wrs c, d ∈ S) → (∀ k', k = some k' → ∀ σ, Keeps S (k' σ)) → Keeps S (codeC ty A c σ k)
  | .skip, σ, k, hw, hk => keeps_then hk σ
  | .region _ ops draw, σ, k, hw, hk => by
    have ho : ∀ o ∈ ops.toList, ∀ d, o.dst = some d → d ∈ S := fun o ho d hd => hw d (dsts_mem hd _ ho)
    unfold codeC
    split
    · exact keeps_ops (fun σ => keeps_then hk σ) _ _ _ ho
    · split
      · exact keeps_mark (keeps_ops (fun σ => keeps_then hk σ) _ _ _ ho)
      · exact keeps_no
  | .seq a b, σ, k, hw, hk => by
    have h1 : ∀ d ∈ wrs a, d ∈ S := fun d hd => hw d (List.mem_append_left _ hd)
    have h2 : ∀ d ∈ wrs b, d ∈ S := fun d hd => hw d (List.mem_append_right _ hd)
    exact keeps_code a (σ := σ) (k := some fun σ => codeC ty A b σ k) h1 fun k' e σ => by cases e; exact keeps_code b h2 hk
  | .cond c a b, σ, k, hw, hk => by
    have h1 : ∀ d ∈ wrs a, d ∈ S := fun d hd => hw d (List.mem_append_left _ hd)
    have h2 : ∀ d ∈ wrs b, d ∈ S := fun d hd => hw d (List.mem_append_right _ hd)
    unfold codeC
    split
    · split
      · exact keeps_cond (keeps_code a h1 fun _ e => by cases e) (keeps_code b h2 fun _ e => by cases e)
      · rename_i k'
        split
        · exact keeps_seq (keeps_cond (keeps_code a h1 fun _ e => by cases e) (keeps_code b h2 fun _ e => by cases e)) (hk k' rfl [])
        · exact keeps_cond (keeps_code a h1 hk) (keeps_code b h2 hk)
    · exact keeps_no
  | .block id a, σ, k, hw, hk => by
    have h1 : ∀ d ∈ wrs a, d ∈ S := hw
    unfold codeC
    split
    · exact keeps_block (keeps_code a h1 fun _ e => by cases e)
    · rename_i k'
      exact keeps_seq (keeps_block (keeps_code a h1 fun _ e => by cases e)) (hk k' rfl [])
  | .loop a, σ, k, hw, hk => by
    have h1 : ∀ d ∈ wrs a, d ∈ S := hw
    have h2 : Keeps S (codeC ty A a [] none) := keeps_code a h1 fun _ e => by cases e
    unfold codeC
    split
    · rename_i k hk
      obtain ⟨id, o1, o2, r2, W⟩ := walkP_ok hk
      have hm : ∀ d ∈ k.ws, d ∈ S ∧ d < 320 := fun d hd => ⟨h1 d (W.ws ▸ hd), W.few d hd⟩
      refine keeps_walk hm (hm _ ?_) (fun d hd => hm d (W.rs d hd)) h2
      rw [W.ws, W.code]
      show _ ∈ dsts [o1, o2] ++ _
      simp [dsts, W.dst1, W.dst2]
    · exact keeps_loop h2
  | .exit id, σ, k, hw, hk => keeps_exit id
  | .ret, σ, k, hw, hk => keeps_ret
  | .scope a, σ, k, hw, hk => keeps_code a (σ := σ) (k := k) hw hk
  | .label _, σ, k, hw, hk => keeps_then hk σ
  | .rangeFunc _ _ _ _, σ, k, hw, hk => keeps_no
  | .goto _, σ, k, hw, hk => keeps_no
  | .refuse _, σ, k, hw, hk => keeps_no
end

/-! ### what code comes to -/
/-- where the two stand behind a piece of code -/
structure Good (ty : TTy) (A : List Nat) (N : Nat) (φ : Phi) (h : Hp) (w : World) (σ : Sg) (e : Env) (h' : Hp) (ψ : Phi) (a : Act) (w' : World) : Prop where
  sg : SgOk A σ
  rel : RelW ty ψ nil h' w'
  ar : AR N ψ (rhoOf A σ e) a
  evo : Evo φ h w ψ h' w'

section
variable {P : Program} {ty : TTy} {F : CallF} {A : List Nat} {N : Nat}

theorem rho_nil {σ : Sg} (hS : SgOk A σ) {e : Env} {t : Nat} {u : Value} (h : rhoOf A [] e t = some u) : rhoOf A σ e t = some u := by
  rw [rhoOf_is] at h ⊢
  have h : (match memN t A with | true => none | false => match Nat.blt t 320 with | true => some (slotG t e) | false => none) = some u := h
  cases hf : findS t σ with
  | some s =>
    have := hS.mem _ (findS_mem hf)
    simp only at this
    rw [this] at h; cases h
  | none => exact h
theorem AR.nil {φ : Phi} {σ : Sg} {e : Env} {a : Act} (hS : SgOk A σ) (h : AR N φ (rhoOf A σ e) a) : AR N φ (rhoOf A [] e) a := ⟨h.size, h.defs, fun t u hu => h.rel t u (rho_nil hS hu)⟩
theorem Good.nil {φ ψ : Phi} {h h' : Hp} {w w' : World} {σ : Sg} {e : Env} {a : Act} (g : Good ty A N φ h w σ e h' ψ a w') : Good ty A N φ h w [] e h' ψ a w' := ⟨.nil A, g.rel, g.ar.nil g.sg, g.evo⟩
theorem Good.trans {φ ψ χ : Phi} {h h' h2 : Hp} {w w' w2 : World} {σ σ2 : Sg} {e e2 : Env} {a a2 : Act} (g : Good ty A N φ h w σ e h' ψ a w') (g2 : Good ty A N ψ h' w' σ2 e2 h2 χ a2 w2) : Good ty A N φ h w σ2 e2 h2 χ a2 w2 :=
  ⟨g2.sg, g2.rel, g2.ar, g.evo.trans g2.evo⟩

/-- what is asked of what comes behind a piece of code -/
structure Post (ty : TTy) (A : List Nat) (N : Nat) (F : CallF) (φ : Phi) (h : Hp) (w : World) (k : Option (Sg → C)) (X : X) (Q : Exit → Act → World → Prop) : Prop where
  go : ∀ k', k = some k' → ∀ σ e h' ψ a' w', Good ty A N φ h w σ e h' ψ a' w' → k' σ F e h' = X → Q .normal a' w'
  norm : k = none → ∀ e h' ψ a' w', Good ty A N φ h w [] e h' ψ a' w' → X = .norm e h' → Q .normal a' w'
  exit : ∀ id e h' ψ a' w', Good ty A N φ h w [] e h' ψ a' w' → X = .exit id e h' → Q (.exit id) a' w'
  ret : ∀ e h' ψ a' w', Good ty A N φ h w [] e h' ψ a' w' → X = .ret e h' → Q .ret a' w'

theorem Post.then {φ : Phi} {h : Hp} {w : World} {k : Option (Sg → C)} {X : X} {Q : Exit → Act → World → Prop} (p : Post ty A N F φ h w k X Q) {σ : Sg} {e : Env} {h' : Hp} {ψ : Phi} {a' : Act} {w' : World} (g : Good ty A N φ h w σ e h' ψ a' w') (hx : thenC k σ F e h' = X) : Q .normal a' w' := by
  cases k with
  | none => exact p.norm rfl e h' ψ a' w' g.nil hx.symm
  | some k' => exact p.go k' rfl σ e h' ψ a' w' g hx

/-! ### one step of the model's walk -/
theorem next_any {w : World} {pb mb clk : Nat} {seen : List Nat} {es : List MapEntry} {t : TypeId} (hw : w.heap[pb]? = some (.mapIter (some mb) clk ⟨seen⟩ clk)) (hm : w.heap[mb]? = some (.map ⟨es⟩ clk)) (hb : ∀ x ∈ es, x.born < clk) :
    ((∀ x ∈ es, x.born ∈ seen) ∧ (Instr.next (.pointer (some ⟨pb, 0, none⟩)) false t).run P w = .ok (.tuple #[.bool false]) w) ∨
    ∃ x ∈ es, x.born ∉ seen ∧ ∃ w1 : World, w1.heap = w.heap ∧ w1.tape = w.tape ∧ w1.os = w.os ∧ w1.output = w.output ∧
      (Instr.next (.pointer (some ⟨pb, 0, none⟩)) false t).run P w = .ok (.tuple #[.bool true, x.key, x.val]) { w1 with heap := w1.heap.setIfInBounds pb (.mapIter (some mb) clk ⟨seen ++ [x.born]⟩ clk) } := by
  have hstop : (!(⟨seen⟩ : Array Nat).isEmpty && !(⟨es⟩ : Array MapEntry).isEmpty && (⟨es⟩ : Array MapEntry).all (fun e => decide (e.born ≥ clk))) = false := by
    cases es with
    | nil => simp
    | cons x l =>
      have := hb x List.mem_cons_self
      simp [Nat.not_le.2 this]
  generalize hl : es.filter (fun e => !seen.contains e.born) = left
  have hmem : ∀ x ∈ left, x ∈ es ∧ x.born ∉ seen := fun x hx => by
    rw [← hl, List.mem_filter] at hx
    exact ⟨hx.1, by simpa using hx.2⟩
  have hlt : ∀ x ∈ left, x.born < clk := fun x hx => hb x (hmem x hx).1
  have f1 : (⟨es⟩ : Array MapEntry).filter (fun e => !(⟨seen⟩ : Array Nat).contains e.born) = ⟨left⟩ := by
    rw [← hl]; apply Array.ext'; simp
  have f2 : (⟨left⟩ : Array MapEntry).filter (fun e => decide (e.born < clk)) = ⟨left⟩ := by
    apply Array.ext'; rw [Array.toList_filter]
    exact List.filter_eq_self.2 fun x hx => by simpa using hlt x hx
  have f3 : (⟨left⟩ : Array MapEntry).filter (fun e => decide (e.born ≥ clk)) = #[] := by
    apply Array.ext'; rw [Array.toList_filter]
    exact List.filter_eq_nil_iff.2 fun x hx => by simpa using hlt x hx
  cases hc : left with
  | nil =>
    left
    refine ⟨fun x hx => ?_, ?_⟩
    · by_cases hs : x.born ∈ seen
      · exact hs
      · have : x ∈ left := by rw [← hl, List.mem_filter]; exact ⟨hx, by simpa using hs⟩
        rw [hc] at this; cases this
    · subst hc
      simp only [Instr.next, Sem.run_bind, getObj_run hw rfl, Result.andThen_ok, getObj_run hm rfl, hstop, Bool.false_eq_true, if_false, f1, f2, f3]
      simp [run_choose, Question.forced]
  | cons y ys =>
    right
    have hpos : 0 < left.length := by rw [hc]; simp
    have hne : (⟨left⟩ : Array MapEntry).isEmpty = false := by rw [hc]; simp
    -- which one
    have key : ∀ (i : Nat) (hi : i < left.length) (w1 : World), (choose (.mapNext left.length)).run P w = .ok i w1 → w1.heap = w.heap →
        (Instr.next (.pointer (some ⟨pb, 0, none⟩)) false t).run P w = .ok (.tuple #[.bool true, (left[i]).key, (left[i]).val]) { w1 with heap := w1.heap.setIfInBounds pb (.mapIter (some mb) clk ⟨seen ++ [(left[i]).born]⟩ clk) } := by
      intro i hi w1 hch hh
      have hcand : ((#[] : Array (Option MapEntry)) ++ ((⟨left⟩ : Array MapEntry) ++ #[]).map some)[i]? = some (some left[i]) := by
        simp [List.getElem?_eq_getElem hi]
      have hsz : ((#[] : Array (Option MapEntry)) ++ ((⟨left⟩ : Array MapEntry) ++ #[]).map some).size = left.length := by simp
      have hset := setObj_run (P := P) (w := w1) (ob' := .mapIter (some mb) clk ⟨seen ++ [(left[i]).born]⟩ clk) (by rw [hh]; exact hw) rfl
      simp only [Instr.next, Sem.run_bind, getObj_run hw rfl, Result.andThen_ok, getObj_run hm rfl, hstop, Bool.false_eq_true, if_false, f1, f2, f3, hne, hsz, hch, hcand]
      have hpush : (⟨seen⟩ : Array Nat).push (left[i]).born = ⟨seen ++ [(left[i]).born]⟩ := by apply Array.ext'; simp
      rw [hpush, hset]
      simp
    have pick : ∀ (i : Nat) (hi : i < left.length) (w1 : World), (choose (.mapNext left.length)).run P w = .ok i w1 → w1.heap = w.heap → w1.tape = w.tape → w1.os = w.os → w1.output = w.output →
        ∃ x ∈ es, x.born ∉ seen ∧ ∃ w1 : World, w1.heap = w.heap ∧ w1.tape = w.tape ∧ w1.os = w.os ∧ w1.output = w.output ∧
          (Instr.next (.pointer (some ⟨pb, 0, none⟩)) false t).run P w = .ok (.tuple #[.bool true, x.key, x.val]) { w1 with heap := w1.heap.setIfInBounds pb (.mapIter (some mb) clk ⟨seen ++ [x.born]⟩ clk) } := by
      intro i hi w1 hch h1 h2 h3 h4
      have := hmem left[i] (List.getElem_mem hi)
      exact ⟨left[i], this.1, this.2, w1, h1, h2, h3, h4, key i hi w1 hch h1⟩
    by_cases hf : left.length ≤ 1
    · exact pick 0 hpos w (by rw [run_choose]; simp [Question.forced, hf]) rfl rfl rfl rfl
    · exact pick (w.tape w.drawn (.mapNext left.length) % left.length) (Nat.mod_lt _ hpos) { w with drawn := w.drawn + 1 } (by rw [run_choose]; simp [Question.forced, hf, Question.cut]) rfl rfl rfl rfl

theorem wanted_plain {o : Oper} (h : o.guard = none) (f : Nat → Option Bool) : Region.wanted o f = true := by
  unfold Region.wanted; rw [h]
theorem put_two (a : Act) (d : Nat) (v : Value) (t : Nat) : (a.put (some d) v).eval (.tmp t) = if d = t ∧ t < a.tmps.size then v else a.eval (.tmp t) := by
  show (a.put (some d) v).tmps.getD t undef = _
  rw [put_getD]
  by_cases h : d = t
  · subst h; simp [Act.eval]
  · rw [if_neg (fun h2 => h (Option.some.inj h2.1)), if_neg (fun h2 => h h2.1)]; rfl

theorem step_walk {k : Walk} {a0 : Code} {id : Nat} {o1 o2 : Oper} {r2 : Code} (W : WalkIs A a0 k id o1 o2 r2) {a : Act} {w : World} {pb mb clk : Nat} {seen : List Nat} {es : List MapEntry}
    (hit : a.eval (.tmp k.it) = .pointer (some ⟨pb, 0, none⟩)) (hnx : k.nx < a.tmps.size) (hw : w.heap[pb]? = some (.mapIter (some mb) clk ⟨seen⟩ clk)) (hm : w.heap[mb]? = some (.map ⟨es⟩ clk)) (hb : ∀ x ∈ es, x.born < clk)
    {Q : Exit → Act → World → Prop} (hover : (∀ x ∈ es, x.born ∈ seen) → Q .normal ((a.put (some k.nx) (.tuple #[.bool false])).put (some k.more) (.bool false)) w)
    (hgo : ∀ x ∈ es, x.born ∉ seen → ∀ w1 : World, w1.heap = w.heap.setIfInBounds pb (.mapIter (some mb) clk ⟨seen ++ [x.born]⟩ clk) → w1.tape = w.tape → w1.os = w.os → w1.output = w.output →
      Q .normal ((a.put (some k.nx) (.tuple #[.bool true, x.key, x.val])).put (some k.more) (.bool true)) w1) :
    (Code.region id #[o1, o2] false).wp P Q a w := by
  refine wp_region_list ?_
  have hx1 : execOp a.eval o1 = (do pure (.value (← Instr.next (a.eval (.tmp k.it)) false o1.type))) := by unfold execOp; rw [W.op1]
  have two : ∀ (c : Bool) (vs : Array Value) (w1 : World), Q .normal ((a.put (some k.nx) (.tuple (#[.bool c] ++ vs))).put (some k.more) (.bool c)) w1 → wpList P #[o1, o2] Q [o2] (a.put (some k.nx) (.tuple (#[.bool c] ++ vs))) w1 := by
    intro c vs w1 hq
    unfold wpList
    rw [if_pos (wanted_plain W.grd2 _)]
    refine .inl ?_
    have hx2 : execOp (a.put (some k.nx) (.tuple (#[.bool c] ++ vs))).eval o2 = (do pure (.value (← Instr.extract ((a.put (some k.nx) (.tuple (#[.bool c] ++ vs))).eval (.tmp k.nx)) 0))) := by unfold execOp; rw [W.op2]
    unfold Oper.wp
    rw [hx2, put_two, if_pos ⟨rfl, hnx⟩]
    have hex : (Instr.extract (.tuple (#[.bool c] ++ vs)) 0).run P w1 = .ok (.bool c) w1 := by
      have h0 : (#[Value.bool c] ++ vs)[0]? = some (.bool c) := by simp [Array.getElem?_append]
      simp only [Instr.extract, h0, Sem.run_pure]
    rw [Sem.run_bind, hex, Result.andThen_ok, Sem.run_pure, Oper.upon_value, W.dst2]
    exact hq
  show wpList P #[o1, o2] Q [o1, o2] a w
  rw [show wpList P #[o1, o2] Q [o1, o2] a w = (if Region.wanted o1 (yielded #[o1, o2] a.tmps) then o1.wp P a w (wpList P #[o1, o2] Q [o2]) Q ∨ (o1.asks P a w ∧ LetsOut Q) else wpList P #[o1, o2] Q [o2] (a.put o1.dst undef) w) from rfl]
  rw [if_pos (wanted_plain W.grd1 _)]
  refine .inl ?_
  unfold Oper.wp
  rw [hx1, hit]
  rcases next_any (P := P) (t := o1.type) hw hm hb with ⟨hall, hrun⟩ | ⟨x, hx, hns, w1, e1, e2, e3, e4, hrun⟩
  · rw [Sem.run_bind, hrun, Result.andThen_ok, Sem.run_pure, Oper.upon_value, W.dst1]
    exact two false #[] w (hover hall)
  · rw [Sem.run_bind, hrun, Result.andThen_ok, Sem.run_pure, Oper.upon_value, W.dst1]
    exact two true #[x.key, x.val] _ (hgo x hx hns _ (by rw [e1]) e2 e3 e4)

/-! ### the search -/
theorem ar_slots {φ : Phi} {e : Env} {a : Act} : AR N φ (rhoOf A [] e) a ↔ a.tmps.size = N ∧ a.defers = [] ∧ ∀ t, t < 320 → memN t A = false → RelV φ (e.get t) (a.tmps.getD t undef) := by
  have hr : ∀ t u, rhoOf A [] e t = some u ↔ (memN t A = false ∧ t < 320 ∧ e.get t = u) := fun t u => by
    rw [rhoOf_is]
    show (match memN t A with | true => none | false => match Nat.blt t 320 with | true => some (slotG t e) | false => none) = some u ↔ _
    cases memN t A with
    | true => simp
    | false =>
      cases hb : Nat.blt t 320 with
      | true =>
        have := nat_blt.1 hb
        simp only [slotG_is t this, Option.some.injEq, true_and, this]
      | false =>
        have : ¬ t < 320 := fun h => by rw [nat_blt.2 h] at hb; cases hb
        simp [this]
  constructor
  · exact fun h => ⟨h.size, h.defs, fun t ht hA => h.rel t _ ((hr t _).2 ⟨hA, ht, rfl⟩)⟩
  · exact fun ⟨h1, h2, h3⟩ => ⟨h1, h2, fun t u hu => by obtain ⟨q1, q2, rfl⟩ := (hr t u).1 hu; exact h3 t q2 q1⟩
theorem clearS_get : ∀ (l : List Nat) (e : Env) (t : Nat), (∀ d ∈ l, d < 320) → t < 320 → (clearS e l).get t = if t ∈ l then .chan none else e.get t
  | [], e, t, _, _ => by simp [clearS]
  | d :: l, e, t, hl, ht => by
    unfold clearS
    rw [clearS_get l _ t (fun d hd => hl d (List.mem_cons_of_mem _ hd)) ht, Env.get_set _ _ _ _ (hl d List.mem_cons_self) ht]
    by_cases h1 : t ∈ l
    · simp [h1]
    · by_cases h2 : t = d
      · simp [h1, h2]
      · simp [h1, h2]
theorem layS_get : ∀ (l : List (Nat × Value)) (e : Env) (t : Nat), (∀ d ∈ l, d.1 < 320) → t < 320 → (layS e l).get t = e.get t ∨ (t, (layS e l).get t) ∈ l
  | [], e, t, _, _ => .inl rfl
  | d :: l, e, t, hl, ht => by
    unfold layS
    rcases layS_get l (Env.set d.1 d.2 e) t (fun d hd => hl d (List.mem_cons_of_mem _ hd)) ht with h | h
    · rw [h, Env.get_set _ _ _ _ (hl d List.mem_cons_self) ht]
      by_cases h2 : t = d.1
      · right
        rw [if_pos h2, h2]
        exact List.mem_cons_self
      · rw [if_neg h2]; exact .inl rfl
    · exact .inr (List.mem_cons_of_mem _ h)
theorem layS_in : ∀ (l : List (Nat × Value)) (e : Env) (t : Nat), (∀ d ∈ l, d.1 < 320) → t < 320 → t ∈ l.map (·.1) → (t, (layS e l).get t) ∈ l
  | d :: l, e, t, hl, ht, hm => by
    have hl' : ∀ d ∈ l, d.1 < 320 := fun d hd => hl d (List.mem_cons_of_mem _ hd)
    unfold layS
    by_cases h1 : t ∈ l.map (·.1)
    · exact List.mem_cons_of_mem _ (layS_in l _ t hl' ht h1)
    · have h2 : t = d.1 := by
        rcases List.mem_cons.1 hm with h | h
        · exact h
        · exact absurd h h1
      rcases layS_get l (Env.set d.1 d.2 e) t hl' ht with h | h
      · rw [h, Env.get_set _ _ _ _ (hl d List.mem_cons_self) ht, if_pos h2, h2]
        exact List.mem_cons_self
      · exact absurd (List.mem_map_of_mem (f := (·.1)) h) h1
/-- plain data: the same on both sides -/
theorem takeS_plain {e : Env} : ∀ {l : List Nat}, ∀ p ∈ takeS e l, slotG p.1 e = p.2 ∧ ∀ (φ ψ : Phi) (v' : Value), RelV φ p.2 v' → RelV ψ p.2 v'
  | s :: l, p, hp => by
    unfold takeS at hp
    split at hp
    · rename_i b hb
      rcases List.mem_cons.1 hp with rfl | hp
      · exact ⟨hb, fun φ ψ v' h => by cases h; exact .bool _⟩
      · exact takeS_plain p hp
    · rename_i k n hb
      rcases List.mem_cons.1 hp with rfl | hp
      · exact ⟨hb, fun φ ψ v' h => by cases h; exact .int _ _⟩
      · exact takeS_plain p hp
    · exact takeS_plain p hp
theorem sameS_ok : ∀ {us vs : List (Nat × Value)}, sameS us vs = true → us = vs
  | [], [], _ => rfl
  | [], _ :: _, h => by cases h
  | _ :: _, [], h => by cases h
  | (a, x) :: us, (b, y) :: vs, h => by
    unfold sameS at h
    obtain ⟨h1, h⟩ := bif_true h
    have h1 : a = b := nat_beq.1 h1
    subst h1
    simp only at h
    split at h
    · obtain ⟨h2, h3⟩ := bif_true h
      rw [eq_of_beq h2, sameS_ok h3]
    · split at h
      · rename_i hk
        obtain ⟨h2, h3⟩ := bif_true h
        rw [iEq_is] at h2
        rw [sameK_eq hk, eq_of_beq h2, sameS_ok h3]
      · cases h
    · cases h

/-- what each round came to -/
theorem walkR_ok {k : Walk} {body : C} {F : CallF} {e : Env} {h : Hp} {b m last : Nat} : ∀ {es : List Ent} {acc r : WR}, walkR k body F e h b m last es acc = r → r ≠ .no →
    (∀ us, acc = .stop us → r = .stop us) ∧ ∀ x ∈ es, ∃ bl, h.bl.set b (.pick m x.born last none) = some bl ∧
      ((∃ e1 h1, body F (clearS e k.ws) { next := h.next, low := h.next, high := 0, mark := h.mark, bl := bl } = .norm e1 h1 ∧ h.next ≤ h1.low) ∨
       ∃ e1 h1, body F (clearS e k.ws) { next := h.next, low := h.next, high := 0, mark := h.mark, bl := bl } = .ret e1 h1 ∧ h.next ≤ h1.low ∧ r = .stop (takeS e1 k.rs))
  | [], acc, r, hr, hn => by
    have hr : acc = r := hr
    subst hr
    exact ⟨fun us h => h, fun x hx => by cases hx⟩
  | x :: l, acc, r, hr, hn => by
    unfold walkR at hr
    split at hr
    case h_2 => exact absurd hr.symm hn
    rename_i bl hbl
    split at hr
    · rename_i e1 h1 hb
      cases hq : Nat.ble h.next h1.low with
      | false => rw [hq] at hr; exact absurd hr.symm hn
      | true =>
        rw [hq] at hr
        obtain ⟨q1, q2⟩ := walkR_ok hr hn
        refine ⟨q1, fun y hy => ?_⟩
        rcases List.mem_cons.1 hy with rfl | hy
        · exact ⟨bl, hbl, .inl ⟨e1, h1, hb, nat_ble.1 hq⟩⟩
        · exact q2 y hy
    · rename_i e1 h1 hb
      cases hq : Nat.ble h.next h1.low with
      | false => rw [hq] at hr; exact absurd hr.symm hn
      | true =>
        rw [hq] at hr
        have hr : walkStop k e1 acc (walkR k body F e h b m last l) = r := hr
        unfold walkStop at hr
        cases acc with
        | go =>
          have hr : walkR k body F e h b m last l (.stop (takeS e1 k.rs)) = r := hr
          obtain ⟨q1, q2⟩ := walkR_ok hr hn
          refine ⟨(fun us h => by cases h), fun y hy => ?_⟩
          rcases List.mem_cons.1 hy with rfl | hy
          · exact ⟨bl, hbl, .inr ⟨e1, h1, hb, nat_ble.1 hq, q1 _ rfl⟩⟩
          · exact q2 y hy
        | stop us =>
          cases hs : sameS us (takeS e1 k.rs) with
          | false => simp only [hs] at hr; exact absurd hr.symm hn
          | true =>
            simp only [hs] at hr
            have hr : walkR k body F e h b m last l (.stop us) = r := hr
            have := sameS_ok hs
            subst this
            obtain ⟨q1, q2⟩ := walkR_ok hr hn
            refine ⟨q1, fun y hy => ?_⟩
            rcases List.mem_cons.1 hy with rfl | hy
            · exact ⟨bl, hbl, .inr ⟨e1, h1, hb, nat_ble.1 hq, q1 _ rfl⟩⟩
            · exact q2 y hy
        | no => exact absurd hr.symm hn
    · exact absurd hr.symm hn
theorem risingE_ok {clk : Nat} : ∀ {es : List Ent} {lo : Nat}, risingE clk lo es = true → ∀ x ∈ es, lo ≤ x.born ∧ x.born < clk
  | e :: l, lo, h, x, hx => by
    unfold risingE at h
    obtain ⟨h1, h⟩ := bif_true h
    obtain ⟨h2, h⟩ := bif_true h
    have h1 := nat_ble.1 h1
    have h2 := nat_blt.1 h2
    rcases List.mem_cons.1 hx with rfl | hx
    · exact ⟨h1, h2⟩
    · have := risingE_ok h x hx
      have h3 : e.born + 1 ≤ x.born := this.1
      exact ⟨by omega, this.2⟩
theorem rel_mem {φ : Phi} : ∀ {es : List Ent} {es' : List MapEntry} {x' : MapEntry}, RelE φ es es' → x' ∈ es' → ∃ x ∈ es, x.born = x'.born
  | _, _, x', .cons (k := k) (v := v) (b := b) hk hv t, hx => by
    rcases List.mem_cons.1 hx with rfl | hx
    · exact ⟨⟨k, v, b⟩, List.mem_cons_self, rfl⟩
    · obtain ⟨x, h1, h2⟩ := rel_mem t hx
      exact ⟨x, List.mem_cons_of_mem _ h1, h2⟩
/-- with rising stamps an entry is found by its own -/
theorem rel_find {φ : Phi} {clk : Nat} : ∀ {es : List Ent} {es' : List MapEntry} {lo : Nat} {x' : MapEntry}, RelE φ es es' → risingE clk lo es = true → x' ∈ es' → ∃ x, findB x'.born es = some x ∧ RelV φ x.key x'.key ∧ RelV φ x.val x'.val
  | _, _, lo, x', .cons (k := k) (v := v) (b := b) (l := l) hk hv t, hr, hx => by
    unfold findB
    rcases List.mem_cons.1 hx with rfl | hx
    · rw [Nat.beq_refl]; exact ⟨_, rfl, hk, hv⟩
    · unfold risingE at hr
      obtain ⟨_, hr⟩ := bif_true hr
      obtain ⟨_, hr⟩ := bif_true hr
      obtain ⟨y, hy, he⟩ := rel_mem t hx
      have h3 : b + 1 ≤ y.born := (risingE_ok hr y hy).1
      have hb : Nat.beq b x'.born = false := by
        cases hb : Nat.beq b x'.born with
        | false => rfl
        | true => have := nat_beq.1 hb; omega
      rw [hb]
      exact rel_find t hr hx

/-- all rounds went on: so does the walk -/
theorem walkR_go {k : Walk} {body : C} {F : CallF} {e : Env} {h : Hp} {b m last : Nat} : ∀ {es : List Ent} {acc r : WR}, walkR k body F e h b m last es acc = r → r ≠ .no →
    (∀ x ∈ es, ∀ bl, h.bl.set b (.pick m x.born last none) = some bl → ∃ e1 h1, body F (clearS e k.ws) { next := h.next, low := h.next, high := 0, mark := h.mark, bl := bl } = .norm e1 h1) → r = acc
  | [], acc, r, hr, hn, _ => hr.symm
  | x :: l, acc, r, hr, hn, hg => by
    unfold walkR at hr
    split at hr
    case h_2 => exact absurd hr.symm hn
    rename_i bl hbl
    obtain ⟨e1, h1, he⟩ := hg x List.mem_cons_self bl hbl
    rw [he] at hr
    simp only at hr
    cases hq : Nat.ble h.next h1.low with
    | false => rw [hq] at hr; exact absurd hr.symm hn
    | true => rw [hq] at hr; exact walkR_go hr hn fun y hy => hg y (List.mem_cons_of_mem _ hy)

/-- the loop's code, as the machine has it: a step, then the rest -/
theorem whole_is {k : Walk} {a0 : Code} {id : Nat} {o1 o2 : Oper} {r2 : Code} (W : WalkIs A a0 k id o1 o2 r2) :
    codeC ty A a0 [] none = cOp (slotT k.nx) (oNext (slotG k.it)) (cOp (slotT k.more) (oExtract 0 (slotG k.nx)) (codeC ty A (.seq (.cond (.tmp k.more) .skip (.exit k.out)) r2) [] none)) := by
  have hA : ∀ t, memN t A = false → t < 320 → cO ⟨A, []⟩ (.tmp t) = some (slotG t) := fun t h1 h2 => by
    show (match srcO A [] (.tmp t) with | some s => some (srcG s) | none => none) = _
    show (match (match memN t A with | true => none | false => match Nat.blt t 320 with | true => some (Src.s t) | false => none) with | some s => some (srcG s) | none => none) = _
    rw [h1, nat_blt.2 h2]
    rfl
  rw [W.code]
  show codeC ty A (.region id #[o1, o2] false) [] (some fun σ => codeC ty A (.seq (.cond (.tmp k.more) .skip (.exit k.out)) r2) σ none) = _
  show opsC ty A [o1, o2] (thenC (some fun σ => codeC ty A (.seq (.cond (.tmp k.more) .skip (.exit k.out)) r2) σ none)) [] [o1, o2] [] = _
  unfold opsC
  rw [W.grd1, W.dst1]
  simp only [W.nxA, nat_blt.2 W.nxL]
  unfold opsC
  rw [W.grd2, W.dst2]
  simp only [W.moA, nat_blt.2 W.moL]
  have e1 : opC ty ⟨A, []⟩ o1.op = oNext (slotG k.it) := by
    rw [W.op1]
    show w1 ⟨A, []⟩ (.tmp k.it) (fun x => oNext x) = _
    unfold w1
    rw [hA _ W.itA W.itL]
  have e2 : opC ty ⟨A, dropS k.nx []⟩ o2.op = oExtract 0 (slotG k.nx) := by
    rw [W.op2]
    show w1 ⟨A, []⟩ (.tmp k.nx) (fun t => oExtract 0 t) = _
    unfold w1
    rw [hA _ W.nxA W.nxL]
  rw [e1, e2]
  rfl

theorem cOp_ok {t : (Env → X) → Value → Env → X} {f : OpF} {k : C} {e : Env} {h h' : Hp} {v : Value} (hf : f F e h = .ok v h') : cOp t f k F e h = t (fun e => k F e h') v e := by
  unfold cOp
  rw [hf]
theorem cOp_no {t : (Env → X) → Value → Env → X} {f : OpF} {k : C} {e : Env} {h : Hp} (hf : f F e h = .no) : cOp t f k F e h = .no := by
  unfold cOp
  rw [hf]
/-- a round: what the machine runs, out of an entry -/
theorem pick_is {k : Walk} {a0 : Code} {id : Nat} {o1 o2 : Oper} {r2 : Code} (W : WalkIs A a0 k id o1 o2 r2) {e : Env} {h : Hp} {ad : Addr} {m s last c lo hi mk : Nat} {es : List Ent} {x : Ent} {bl : BT} {sn : Option (List Nat)} {Y : Go.Proofs.Ytkafejncffinmaa.X}
    (hit : slotG k.it e = .pointer (some ad)) (hoff : Nat.beq ad.off 0 = true) (hm : entsOf h m = .ok es c) (hmb : m ≠ ad.block) (hx : findB s es = some x) (hbl : h.bl.set ad.block (.pick m s last sn) = some bl)
    (hr : codeC ty A a0 [] none F e { next := h.next, low := lo, high := hi, mark := mk, bl := bl } = Y) (hn : Y ≠ .no) :
    ∃ bl', bl.set ad.block (pickB m s last sn) = some bl' ∧
      codeC ty A (.seq (.cond (.tmp k.more) .skip (.exit k.out)) r2) [] none F (Env.set k.more (.bool true) (Env.set k.nx (.tuple ⟨[.bool true, x.key, x.val]⟩) e)) { next := h.next, low := lo, high := hi, mark := mk, bl := bl' } = Y := by
  rw [whole_is W] at hr
  have hb : bl.get ad.block = .pick m s last sn := by rw [BT.get_set _ _ _ _ hbl, if_pos rfl]
  have hme : entsOf ({ next := h.next, low := lo, high := hi, mark := mk, bl := bl } : Hp) m = .ok es c := by
    show entB (bl.get m) = _
    rw [BT.get_set _ _ _ _ hbl, if_neg hmb]; exact hm
  have hnx : oNext (slotG k.it) F e { next := h.next, low := lo, high := hi, mark := mk, bl := bl } = match bl.set ad.block (pickB m s last sn) with
      | some bl' => .ok (.tuple ⟨[.bool true, x.key, x.val]⟩) { next := h.next, low := lo, high := hi, mark := mk, bl := bl' }
      | none => .no := by
    unfold oNext
    rw [hit]
    show (bif Nat.beq ad.off 0 then nextF ad _ else .no) = _
    rw [hoff]
    show nextF ad _ = _
    unfold nextF
    simp only
    rw [hb]
    show (match entsOf ({ next := h.next, low := lo, high := hi, mark := mk, bl := bl } : Hp) m with | .ok es _ => _ | .no => _) = _
    rw [hme]
    simp only [hx]
    cases bl.set ad.block (pickB m s last sn) <;> rfl
  cases hs : bl.set ad.block (pickB m s last sn) with
  | none =>
    rw [hs] at hnx
    rw [cOp_no hnx] at hr
    exact absurd hr.symm hn
  | some bl' =>
    refine ⟨bl', rfl, ?_⟩
    rw [hs] at hnx
    rw [← hr]
    have hex : oExtract 0 (slotG k.nx) F (Env.set k.nx (.tuple ⟨[.bool true, x.key, x.val]⟩) e) { next := h.next, low := lo, high := hi, mark := mk, bl := bl' } = .ok (.bool true) { next := h.next, low := lo, high := hi, mark := mk, bl := bl' } := by
      unfold oExtract
      rw [slotG_is _ W.nxL, Env.get_set _ _ _ _ W.nxL W.nxL, if_pos rfl]
      rfl
    symm
    rw [cOp_ok hnx, slotT_is _ W.nxL, cOp_ok hex, slotT_is _ W.moL]

/-- where the model stands ahead of a round -/
structure Rd (A : List Nat) (N : Nat) (φ : Phi) (ws : List Nat) (e : Env) (w : World) (pb qb c : Nat) (seen : List Nat) (ak : Act) (wk : World) : Prop where
  size : ak.tmps.size = N
  defs : ak.defers = []
  slots : ∀ t, t < 320 → memN t A = false → t ∉ ws → RelV φ (e.get t) (ak.tmps.getD t undef)
  grow : w.heap.size ≤ wk.heap.size
  same : ∀ j, j < w.heap.size → j ≠ pb → wk.heap[j]? = w.heap[j]?
  tape : wk.tape = w.tape
  os : wk.os = w.os
  output : wk.output = w.output
  iter : wk.heap[pb]? = some (.mapIter (some qb) c ⟨seen⟩ c)
theorem rel_mem2 {φ : Phi} : ∀ {es : List Ent} {es' : List MapEntry} {x : Ent}, RelE φ es es' → x ∈ es → ∃ x' ∈ es', x'.born = x.born
  | _, _, x, .cons (k' := k) (v' := v) (b := b) hk hv t, hx => by
    rcases List.mem_cons.1 hx with rfl | hx
    · exact ⟨⟨k, v, b⟩, List.mem_cons_self, rfl⟩
    · obtain ⟨x, h1, h2⟩ := rel_mem2 t hx
      exact ⟨x, List.mem_cons_of_mem _ h1, h2⟩
theorem findB_mem {n : Nat} : ∀ {es : List Ent} {x : Ent}, findB n es = some x → x ∈ es ∧ x.born = n
  | y :: l, x, h => by
    unfold findB at h
    cases hb : Nat.beq y.born n with
    | true => rw [hb] at h; cases h; exact ⟨List.mem_cons_self, nat_beq.1 hb⟩
    | false =>
      rw [hb] at h
      obtain ⟨h1, h2⟩ := findB_mem h
      exact ⟨List.mem_cons_of_mem _ h1, h2⟩
theorem filter_le {p q : MapEntry → Bool} (h : ∀ x, p x = true → q x = true) : ∀ l : List MapEntry, (l.filter p).length ≤ (l.filter q).length
  | [] => Nat.le_refl _
  | x :: l => by
    have ih := filter_le h l
    rw [List.filter_cons, List.filter_cons]
    cases hp : p x with
    | true => rw [h x hp]; simpa using ih
    | false =>
      cases q x with
      | true => simp; omega
      | false => simpa using ih
theorem filter_lt {p q : MapEntry → Bool} (h : ∀ x, p x = true → q x = true) {y : MapEntry} (hq : q y = true) (hp : p y = false) : ∀ {l : List MapEntry}, y ∈ l → (l.filter p).length + 1 ≤ (l.filter q).length
  | x :: l, hm => by
    rw [List.filter_cons, List.filter_cons]
    rcases List.mem_cons.1 hm with rfl | hm
    · rw [hq, hp]
      have := filter_le h l
      simp; omega
    · have ih := filter_lt h hq hp hm
      cases hx : p x with
      | true => rw [h x hx]; simpa using ih
      | false =>
        cases q x with
        | true => simp; omega
        | false => simpa using ih
theorem fewer {seen : List Nat} {x' : MapEntry} {es : List MapEntry} (hx : x' ∈ es) (hn : x'.born ∉ seen) : (es.filter (fun x => !(seen ++ [x'.born]).contains x.born)).length + 1 ≤ (es.filter (fun x => !seen.contains x.born)).length :=
  filter_lt (fun x h => by
    simp only [Bool.not_eq_true', List.contains_eq_mem, decide_eq_false_iff_not] at h ⊢
    exact fun h2 => h (List.mem_append_left _ h2)) (by simpa using hn) (by simp) hx
theorem bifX {b : Bool} {Y X : Go.Proofs.Ytkafejncffinmaa.X} (h : (bif b then Y else .no) = X) (hn : X ≠ .no) : b = true ∧ Y = X := by
  cases b with
  | false => exact absurd h.symm hn
  | true => exact ⟨rfl, h⟩

theorem walk_ok {k : Walk} {a0 : Code} {id : Nat} {o1 o2 : Oper} {r2 : Code} (W : WalkIs A a0 k id o1 o2 r2) (hd : k.nx < N ∧ k.more < N)
    (ih : ∀ {e : Env} {h : Hp} {X : Go.Proofs.Ytkafejncffinmaa.X}, codeC ty A (.seq (.cond (.tmp k.more) .skip (.exit k.out)) r2) [] none F e h = X → X ≠ .no → ∀ (φ : Phi) (w : World) (a : Act), RelW ty φ nil h w → AR N φ (rhoOf A [] e) a → ∀ (Q : Exit → Act → World → Prop), Post ty A N F φ h w none X Q → (Code.seq (.cond (.tmp k.more) .skip (.exit k.out)) r2).wp P Q a w)
    {e : Env} {h : Hp} {X : Go.Proofs.Ytkafejncffinmaa.X} {ad : Addr} {m since last c : Nat} {es : List Ent} (hit : slotG k.it e = .pointer (some ad)) (hiter : iterB (h.bl.get ad.block) = .ok (some m) since [] last) (hents : entsOf h m = .ok es c)
    (hr : walkAt k (codeC ty A a0 [] none) F e h ad m since last es c = X) (hn : X ≠ .no) {φ : Phi} {w : World} {a : Act} (H : RelW ty φ nil h w) (HA : AR N φ (rhoOf A [] e) a) {Q : Exit → Act → World → Prop}
    (pe : ∀ id e h' ψ a' w', Good ty A N φ h w [] e h' ψ a' w' → X = .exit id e h' → Q (.exit id) a' w') (pr : ∀ e h' ψ a' w', Good ty A N φ h w [] e h' ψ a' w' → X = .ret e h' → Q .ret a' w') :
    (Code.loop a0).wp P Q a w := by
  unfold walkAt at hr
  obtain ⟨hoff, hr1⟩ := bifX hr hn
  obtain ⟨h256, hr2⟩ := bifX hr1 hn
  obtain ⟨hcs, hr3⟩ := bifX hr2 hn
  obtain ⟨hcl, hr4⟩ := bifX hr3 hn
  obtain ⟨hris, hr5⟩ := bifX hr4 hn
  clear hr hr1 hr2 hr3 hr4
  have hr := hr5
  clear hr5
  have h256 := nat_ble.1 h256
  have hcs := nat_beq.1 hcs
  have hcl := nat_beq.1 hcl
  subst hcs; subst hcl
  unfold walkEnd at hr
  cases hkill : h.bl.set ad.block .dead with
  | none => rw [hkill] at hr; exact absurd hr.symm hn
  | some bld =>
  rw [hkill] at hr
  simp only at hr
  generalize hrr : walkR k (codeC ty A a0 [] none) F e h ad.block m c es .go = r at hr
  have hrn : r ≠ .no := fun h => by rw [h] at hr; exact hn hr.symm
  obtain ⟨_, hrounds⟩ := walkR_ok hrr hrn
  -- the model's iterator and map
  have hbi := iter_ok hiter
  obtain ⟨hsz, hdf, hslots⟩ := ar_slots.1 HA
  have hitR := hslots k.it W.itL W.itA
  rw [← slotG_is k.it W.itL, hit] at hitR
  obtain ⟨ad', had', hra⟩ := hitR.ptr_inv
  obtain ⟨pb, hpb, rfl⟩ := hra.eq
  have hoff0 : ad.off = 0 := nat_beq.1 hoff
  have hrow := H.row ad.block pb hpb (fun h => h)
  rw [hbi] at hrow
  obtain ⟨q, hp0, hq, hwi⟩ : ∃ q, pb.off = 0 ∧ φ m = some q ∧ w.heap[pb.blk]? = some (.mapIter (some q.blk) c ⟨[]⟩ c) := by
    generalize w.heap[pb.blk]? = ob at hrow
    cases hrow with
    | iter h1 h2 => exact ⟨_, h1, h2, rfl⟩
  obtain ⟨es', hwm, hrel⟩ := H.entsAt hq (fun h => h) hents
  have hqb : q.blk ≠ pb.blk := fun h => by rw [h, hwi] at hwm; cases hwm
  have hmb : m ≠ ad.block := fun h => by
    have := ents_ok hents
    rw [h, hbi] at this; cases this
  have hin := H.notInp hpb h256
  have hlive : Live h ad.block := by unfold Live; rw [hbi]; intro h; cases h
  have hpbs := (H.dom _ _ hpb).2
  have hborn : ∀ x ∈ es', x.born < c := fun x hx => by
    obtain ⟨y, hy, he⟩ := rel_mem hrel hx
    rw [← he]; exact (risingE_ok hris y hy).2
  have hsep : ∀ i p, φ i = some p → i ≠ ad.block → Live h i → p.blk ≠ pb.blk := fun i p hp hi hl hb =>
    hi (H.inj i ad.block p pb hp hpb (fun h => h) (fun h => h) hl hlive (.inr hin) hb)
  -- heaps that are as h is but for the iterator
  have base : ∀ (o : Blk) (bl : BT) (lo hi mk : Nat) (wk : World), (∀ i, bl.get i = if i = ad.block then o else h.bl.get i) → w.heap.size ≤ wk.heap.size → (∀ j, j < w.heap.size → j ≠ pb.blk → wk.heap[j]? = w.heap[j]?) →
      RelB ty φ pb o wk.heap[pb.blk]? → (∀ cc s el, o ≠ .cells cc s el) → RelW ty φ nil { next := h.next, low := lo, high := hi, mark := mk, bl := bl } wk := fun o bl lo hi mk wk hbl hs hsame hB hoc => {
    dom := fun i p hp => ⟨(H.dom i p hp).1, Nat.lt_of_lt_of_le (H.dom i p hp).2 hs⟩
    inj := fun i j p q hp hq _ _ hi hj hio hpq => by
      have lv : ∀ i, bl.get i ≠ .dead → Live h i := fun i hi => by
        by_cases hib : i = ad.block
        · rw [hib]; exact hlive
        · rw [hbl, if_neg hib] at hi; exact hi
      exact H.inj i j p q hp hq (fun h => h) (fun h => h) (lv i hi) (lv j hj) hio hpq
    row := fun i p hp _ => by
      show RelB ty φ p (bl.get i) _
      rw [hbl]
      by_cases hib : i = ad.block
      · rw [if_pos hib]
        subst hib
        rw [hpb] at hp; cases hp
        exact hB
      · rw [if_neg hib]
        by_cases hdd : h.bl.get i = .dead
        · rw [hdd]; exact .dead
        · rw [hsame p.blk (H.dom i p hp).2 (hsep i p hp hib hdd)]
          exact H.row i p hp (fun h => h)
    fresh := fun i hi => by
      have hi : h.next ≤ i := hi
      show bl.get i = _
      have := (H.dom _ _ hpb).1
      rw [hbl, if_neg (by omega)]; exact H.fresh i hi
    kind := fun i p cc s el hp he => by
      have he : bl.get i = .cells cc s el := he
      rw [hbl] at he
      by_cases hib : i = ad.block
      · rw [if_pos hib] at he; exact absurd he (hoc _ _ _)
      · rw [if_neg hib] at he; exact H.kind i p cc s el hp he
    inp := H.inp }
  let hend : Hp := { next := h.next, low := minN h.low ad.block, high := maxN h.high ad.block, mark := h.mark, bl := bld }
  have hbld : ∀ i, bld.get i = if i = ad.block then .dead else h.bl.get i := fun i => BT.get_set _ _ _ _ hkill i
  have evoEnd : ∀ wk : World, w.heap.size ≤ wk.heap.size → (∀ j, j < w.heap.size → j ≠ pb.blk → wk.heap[j]? = w.heap[j]?) → wk.tape = w.tape → wk.os = w.os → wk.output = w.output → Evo φ h w φ hend wk := fun wk hs hsame h1 h2 h3 => {
    le := .refl φ
    new := fun _ _ e => .inl e
    next := Nat.le_refl _
    size := hs
    tape := h1
    os := h2
    output := h3
    frame := fun j hj hf => hsame j hj fun hjp => hf ad.block pb hpb hin (by show minN _ _ ≤ _; rw [minN_is]; exact Nat.min_le_right _ _) (by show _ ≤ maxN _ _; rw [maxN_is]; exact Nat.le_max_right _ _) hlive hjp.symm
    back := fun i p hp hl _ => by
      refine ⟨i, p, hp, ?_, rfl, rfl, .inl rfl⟩
      intro hdd; apply hl
      show bld.get i = _
      rw [hbld]; split
      · rfl
      · exact hdd
    kept := fun i _ hi => by
      show bld.get i = _
      have hi : i < minN h.low ad.block ∨ maxN h.high ad.block < i := hi
      rw [minN_is, maxN_is] at hi
      rw [hbld, if_neg (by omega)]
    low := by show minN _ _ ≤ _; rw [minN_is]; exact Nat.min_le_left _ _
    high := by show _ ≤ maxN _ _; rw [maxN_is]; exact Nat.le_max_left _ _
    shape := fun i _ => by
      show ShapeLe _ (bld.get i)
      rw [hbld]; split
      · exact .inl rfl
      · exact .refl _
    only := fun i _ h0 => by
      show bld.get i = _
      rw [hbld, if_neg (fun e => by rw [e, hpb] at h0; cases h0)]
    all := fun _ h1 h2 => absurd h2 (Nat.not_lt.2 h1) }
  have hkeep : Keeps k.ws (codeC ty A (.seq (.cond (.tmp k.more) .skip (.exit k.out)) r2) [] none) := keeps_code _ (fun d hd => by
    rw [W.ws, W.code]
    exact List.mem_append_right _ hd) (fun _ h => by cases h)
  have hnxw : k.nx ∈ k.ws := by rw [W.ws, W.code]; show _ ∈ dsts [o1, o2] ++ _; simp [dsts, W.dst1, W.dst2]
  have hmow : k.more ∈ k.ws := by rw [W.ws, W.code]; show _ ∈ dsts [o1, o2] ++ _; simp [dsts, W.dst1, W.dst2]
  have hcg : ∀ t, t < 320 → (clearS e k.ws).get t = if t ∈ k.ws then .chan none else e.get t := fun t ht => clearS_get _ _ _ W.few ht
  have hcut : ∀ {ψ : Phi} {v v' v'' : Value}, φ.Le ψ → RelV ψ v v' → RelV φ v v'' → RelV φ v v' := fun {ψ v v' v''} hle h1 h2 => RelV.cut (χ := φ) (fun b p hp ⟨q, hq⟩ => by
    have := hle b q hq
    rw [hp] at this; cases this
    exact hq) h1 h2
  have hevit : ∀ {ak : Act}, RelV φ (e.get k.it) (ak.tmps.getD k.it undef) → ak.eval (.tmp k.it) = .pointer (some ⟨pb.blk, 0, none⟩) := fun {ak} h1 => by
    rw [← slotG_is k.it W.itL, hit] at h1
    obtain ⟨a2, ha2, hr2⟩ := h1.ptr_inv
    obtain ⟨p2, hp2, rfl⟩ := hr2.eq
    rw [hpb] at hp2; cases hp2
    show ak.tmps.getD k.it undef = _
    rw [ha2, hp0, hoff0]
  have putD : ∀ (ak : Act) (v1 v2 : Value) (t : Nat), ak.tmps.size = N → t < 320 → ((ak.put (some k.nx) v1).put (some k.more) v2).tmps.getD t undef = if t = k.more then v2 else if t = k.nx then v1 else ak.tmps.getD t undef := fun ak v1 v2 t hs ht => by
    rw [put_getD, put_size, put_getD]
    by_cases h1 : t = k.more
    · rw [if_pos ⟨by rw [h1], by rw [h1, hs]; exact hd.2⟩, if_pos h1]
    · rw [if_neg (fun h => h1 (Option.some.inj h.1).symm), if_neg h1]
      by_cases h2 : t = k.nx
      · rw [if_pos ⟨by rw [h2], by rw [h2, hs]; exact hd.1⟩, if_pos h2]
      · rw [if_neg (fun h => h2 (Option.some.inj h.1).symm), if_neg h2]
  -- a round
  have round : ∀ (K : Act → World → Prop) (seen : List Nat) (ak : Act) (wk : World), Rd A N φ k.ws e w pb.blk q.blk c seen ak wk →
      (∀ x ∈ es, x.born ∈ seen → ∀ bl, h.bl.set ad.block (.pick m x.born c none) = some bl → ∃ e1 h1, codeC ty A a0 [] none F (clearS e k.ws) { next := h.next, low := h.next, high := 0, mark := h.mark, bl := bl } = .norm e1 h1) →
      (∀ x' ∈ es', x'.born ∉ seen → ∀ a2 w2, Rd A N φ k.ws e w pb.blk q.blk c (seen ++ [x'.born]) a2 w2 →
        (∀ x ∈ es, x.born ∈ seen ++ [x'.born] → ∀ bl, h.bl.set ad.block (.pick m x.born c none) = some bl → ∃ e1 h1, codeC ty A a0 [] none F (clearS e k.ws) { next := h.next, low := h.next, high := 0, mark := h.mark, bl := bl } = .norm e1 h1) → K a2 w2) →
      a0.wp P (Exit.then K Q) ak wk := by
    intro K seen ak wk R hg hK
    have hmk : wk.heap[q.blk]? = some (.map ⟨es'⟩ c) := by rw [R.same q.blk (H.dom _ _ hq).2 hqb]; exact hwm
    rw [W.code]
    refine wp_seq (step_walk W (pb := pb.blk) (mb := q.blk) (clk := c) (seen := seen) (es := es') (hevit (R.slots k.it W.itL W.itA W.itW)) (by rw [R.size]; exact hd.1) R.iter hmk hborn (fun hall => ?_) (fun x' hx' hns w1 e1 e2' e3 e4 => ?_))
    · -- none is left
      show (Code.seq (.cond (.tmp k.more) .skip (.exit k.out)) r2).wp P (Exit.then K Q) ((ak.put (some k.nx) (.tuple #[.bool false])).put (some k.more) (.bool false)) wk
      refine wp_seq (wp_cond_false ?_ (wp_exit ?_))
      · show ((ak.put (some k.nx) (.tuple #[.bool false])).put (some k.more) (.bool false)).tmps.getD k.more undef = _
        rw [putD _ _ _ _ R.size W.moL, if_pos rfl]
      · show Q (.exit k.out) ((ak.put (some k.nx) (.tuple #[.bool false])).put (some k.more) (.bool false)) wk
        have hgo : r = .go := walkR_go hrr hrn fun x hx bl hbl => hg x hx (by
          obtain ⟨x', hx', he⟩ := rel_mem2 hrel hx
          rw [← he]; exact hall x' hx') bl hbl
        subst hgo
        refine pe k.out _ hend φ _ wk ⟨.nil A, base .dead bld _ _ _ wk hbld R.grow R.same .dead (fun _ _ _ h => by cases h), ar_slots.2 ⟨by rw [put_size, put_size]; exact R.size, by rw [put_defs, put_defs]; exact R.defs, fun t ht hA => ?_⟩, evoEnd wk R.grow R.same R.tape R.os R.output⟩ hr.symm
        rw [putD _ _ _ _ R.size ht, Env.get_set _ _ _ _ W.moL ht, hcg t ht]
        by_cases q1 : t = k.more
        · rw [if_pos q1, if_pos q1]; exact .bool _
        · rw [if_neg q1, if_neg q1]
          by_cases q2 : t ∈ k.ws
          · rw [if_pos q2]; exact .unk
          · rw [if_neg q2, if_neg (fun h : t = k.nx => q2 (h ▸ hnxw))]
            exact R.slots t ht hA q2
    · -- an entry
      show (Code.seq (.cond (.tmp k.more) .skip (.exit k.out)) r2).wp P (Exit.then K Q) ((ak.put (some k.nx) (.tuple #[.bool true, x'.key, x'.val])).put (some k.more) (.bool true)) w1
      obtain ⟨x, hfx, hkr, hvr⟩ := rel_find hrel hris hx'
      obtain ⟨hxm, hxb⟩ := findB_mem hfx
      obtain ⟨bl, hbl, hor⟩ := hrounds x hxm
      have hitc : slotG k.it (clearS e k.ws) = .pointer (some ad) := by
        rw [slotG_is _ W.itL, hcg _ W.itL, if_neg W.itW, ← slotG_is _ W.itL]; exact hit
      have hws1 : w1.heap.size = wk.heap.size := by rw [e1]; simp
      have hw1p : w1.heap[pb.blk]? = some (.mapIter (some q.blk) c ⟨seen ++ [x'.born]⟩ c) := by
        have hlt : pb.blk < wk.heap.size := Nat.lt_of_lt_of_le hpbs R.grow
        rw [e1, Array.getElem?_setIfInBounds, if_pos rfl, if_pos hlt]
      have hw1s : ∀ j, j < w.heap.size → j ≠ pb.blk → w1.heap[j]? = w.heap[j]? := fun j hj hjp => by
        rw [e1, Array.getElem?_setIfInBounds, if_neg (fun h => hjp h.symm)]; exact R.same j hj hjp
      have grow1 : w.heap.size ≤ w1.heap.size := by rw [hws1]; exact R.grow
      -- what is known of a round of this entry
      have step : ∀ Y : Go.Proofs.Ytkafejncffinmaa.X, codeC ty A a0 [] none F (clearS e k.ws) { next := h.next, low := h.next, high := 0, mark := h.mark, bl := bl } = Y → Y ≠ .no →
          (∀ e2 h2, (Y = .norm e2 h2 ∨ Y = .ret e2 h2) → h.next ≤ h2.low) → (∀ i e2 h2, Y ≠ .exit i e2 h2) →
          (∀ (e2 : Env) (h2 : Hp) (a2 : Act) (w2 : World), Y = .norm e2 h2 → Rd A N φ k.ws e w pb.blk q.blk c (seen ++ [x'.born]) a2 w2 → K a2 w2) →
          (∀ (e2 : Env) (h2 : Hp) (ψ : Phi) (a2 : Act) (w2 : World), Y = .ret e2 h2 → Rd A N φ k.ws e w pb.blk q.blk c (seen ++ [x'.born]) a2 w2 → (∀ t, t < 320 → memN t A = false → RelV ψ (e2.get t) (a2.tmps.getD t undef)) → Q .ret a2 w2) →
          (Code.seq (.cond (.tmp k.more) .skip (.exit k.out)) r2).wp P (Exit.then K Q) ((ak.put (some k.nx) (.tuple #[.bool true, x'.key, x'.val])).put (some k.more) (.bool true)) w1 := by
        intro Y hY hYn hlow hne hnorm hret
        obtain ⟨bl', hbl', hB⟩ := pick_is W (x := x) (s := x.born) hitc hoff hents hmb (by rw [hxb]; exact hfx) hbl hY hYn
        have hblc : ∀ i, bl'.get i = if i = ad.block then .cur m x.born c else h.bl.get i := fun i => by
          rw [BT.get_set _ _ _ _ hbl', BT.get_set _ _ _ _ hbl]
          split <;> rfl
        have HR := base (.cur m x.born c) bl' h.next 0 h.mark w1 hblc grow1 hw1s (by rw [hw1p]; exact .cur hp0 hq (by rw [hxb]; simp)) (fun _ _ _ h => by cases h)
        have HAR : AR N φ (rhoOf A [] (Env.set k.more (.bool true) (Env.set k.nx (.tuple ⟨[.bool true, x.key, x.val]⟩) (clearS e k.ws)))) ((ak.put (some k.nx) (.tuple #[.bool true, x'.key, x'.val])).put (some k.more) (.bool true)) := by
          refine ar_slots.2 ⟨by rw [put_size, put_size]; exact R.size, by rw [put_defs, put_defs]; exact R.defs, fun t ht hA => ?_⟩
          rw [putD _ _ _ _ R.size ht, Env.get_set _ _ _ _ W.moL ht, Env.get_set _ _ _ _ W.nxL ht, hcg t ht]
          by_cases q1 : t = k.more
          · rw [if_pos q1, if_pos q1]; exact .bool _
          · rw [if_neg q1, if_neg q1]
            by_cases q2 : t = k.nx
            · rw [if_pos q2, if_pos q2]; exact .tuple (.cons (.bool _) (.cons hkr (.cons hvr .nil)))
            · rw [if_neg q2, if_neg q2]
              by_cases q3 : t ∈ k.ws
              · rw [if_pos q3]; exact .unk
              · rw [if_neg q3]; exact R.slots t ht hA q3
        -- behind it
        have after : ∀ (e2 : Env) (h2 : Hp) (ψ : Phi) (a2 : Act) (w2 : World), (Y = .norm e2 h2 ∨ Y = .ret e2 h2) → Good ty A N φ { next := h.next, low := h.next, high := 0, mark := h.mark, bl := bl' } w1 [] e2 h2 ψ a2 w2 →
            Rd A N φ k.ws e w pb.blk q.blk c (seen ++ [x'.born]) a2 w2 := fun e2 h2 ψ a2 w2 hx g => by
          obtain ⟨g1, g2, g3⟩ := ar_slots.1 g.ar
          have hl := hlow e2 h2 hx
          have hfr : ∀ j, j < w1.heap.size → w2.heap[j]? = w1.heap[j]? := fun j hj => g.evo.frame j hj fun i p hp _ hl2 _ _ => by
            have := (HR.dom i p hp).1
            have h3 : i < h.next := this
            omega
          have hag := hkeep F (Env.set k.more (.bool true) (Env.set k.nx (.tuple ⟨[.bool true, x.key, x.val]⟩) (clearS e k.ws))) { next := h.next, low := h.next, high := 0, mark := h.mark, bl := bl' }
          rw [hB] at hag
          have hag : Ag k.ws (Env.set k.more (.bool true) (Env.set k.nx (.tuple ⟨[.bool true, x.key, x.val]⟩) (clearS e k.ws))) e2 := by
            rcases hx with rfl | rfl <;> exact hag
          exact {
            size := g1
            defs := g2
            slots := fun t ht hA hw => by
              have q1 := g3 t ht hA
              rw [hag t ht hw, Env.get_set _ _ _ _ W.moL ht, if_neg (fun h : t = k.more => hw (h ▸ hmow)), Env.get_set _ _ _ _ W.nxL ht, if_neg (fun h : t = k.nx => hw (h ▸ hnxw)), hcg t ht, if_neg hw] at q1
              exact hcut g.evo.le q1 (R.slots t ht hA hw)
            grow := Nat.le_trans grow1 g.evo.size
            same := fun j hj hjp => by rw [hfr j (Nat.lt_of_lt_of_le hj grow1)]; exact hw1s j hj hjp
            tape := g.evo.tape.trans (e2'.trans R.tape)
            os := g.evo.os.trans (e3.trans R.os)
            output := g.evo.output.trans (e4.trans R.output)
            iter := by rw [hfr pb.blk (Nat.lt_of_lt_of_le hpbs grow1)]; exact hw1p }
        refine ih hB hYn φ w1 _ HR HAR _ { go := (fun _ h => by cases h), norm := fun _ e2 h2 ψ a2 w2 g hx => ?_, exit := fun i e2 h2 ψ a2 w2 g hx => absurd hx (hne i e2 h2), ret := fun e2 h2 ψ a2 w2 g hx => ?_ }
        · exact hnorm e2 h2 a2 w2 hx (after e2 h2 ψ a2 w2 (.inl hx) g)
        · exact hret e2 h2 ψ a2 w2 hx (after e2 h2 ψ a2 w2 (.inr hx) g) (ar_slots.1 g.ar).2.2
      rcases hor with ⟨e1', h1', hY, hlow⟩ | ⟨e1', h1', hY, hlow, hrs⟩
      · refine step _ hY (fun h => by cases h) (fun e2 h2 hx => by rcases hx with hx | hx <;> cases hx; exact hlow) (fun _ _ _ h => by cases h) (fun e2 h2 a2 w2 hx R2 => hK x' hx' hns a2 w2 R2 fun y hy hyb bl2 hbl2 => ?_) (fun _ _ _ _ _ hx => by cases hx)
        rcases List.mem_append.1 hyb with hyb | hyb
        · exact hg y hy hyb bl2 hbl2
        · have hyb : y.born = x'.born := by simpa using hyb
          have e5 : y.born = x.born := hyb.trans hxb.symm
          rw [e5] at hbl2
          rw [hbl] at hbl2; cases hbl2
          exact ⟨_, _, hY⟩
      · refine step _ hY (fun h => by cases h) (fun e2 h2 hx => by rcases hx with hx | hx <;> cases hx; exact hlow) (fun _ _ _ h => by cases h) (fun _ _ _ _ hx => by cases hx) (fun e2 h2 ψ a2 w2 hx R2 hsl => ?_)
        cases hx
        subst hrs
        have hul : ∀ d ∈ takeS e1' k.rs, d.1 < 320 := fun d hd => W.few _ (W.rs _ (takeS_slots d hd))
        refine pr _ hend φ a2 w2 ⟨.nil A, base .dead bld _ _ _ w2 hbld R2.grow R2.same .dead (fun _ _ _ h => by cases h), ar_slots.2 ⟨R2.size, R2.defs, fun t ht hA => ?_⟩, evoEnd w2 R2.grow R2.same R2.tape R2.os R2.output⟩ hr.symm
        rcases layS_get (takeS e1' k.rs) (clearS e k.ws) t hul ht with h3 | h3
        · rw [h3, hcg t ht]
          by_cases q3 : t ∈ k.ws
          · rw [if_pos q3]; exact .unk
          · rw [if_neg q3]; exact R2.slots t ht hA q3
        · obtain ⟨h4, h5⟩ := takeS_plain _ h3
          have h6 := hsl t ht hA
          rw [← slotG_is t ht] at h6
          rw [h4] at h6
          exact h5 _ _ _ h6
  have main : ∀ (n : Nat) (seen : List Nat) (ak : Act) (wk : World), (es'.filter (fun x => !seen.contains x.born)).length ≤ n → Rd A N φ k.ws e w pb.blk q.blk c seen ak wk →
      (∀ x ∈ es, x.born ∈ seen → ∀ bl, h.bl.set ad.block (.pick m x.born c none) = some bl → ∃ e1 h1, codeC ty A a0 [] none F (clearS e k.ws) { next := h.next, low := h.next, high := 0, mark := h.mark, bl := bl } = .norm e1 h1) →
      Code.rounds P a0 Q (n + 1) ak wk := by
    intro n
    induction n with
    | zero =>
      intro seen ak wk hcnt R hg
      refine round _ seen ak wk R hg fun x' hx' hns a2 w2 _ _ => ?_
      exfalso
      have : x' ∈ es'.filter (fun x => !seen.contains x.born) := List.mem_filter.2 ⟨hx', by simpa using hns⟩
      have := List.length_pos_of_mem this
      omega
    | succ n ihn =>
      intro seen ak wk hcnt R hg
      refine round _ seen ak wk R hg fun x' hx' hns a2 w2 R2 hg2 => ihn _ a2 w2 ?_ R2 hg2
      have := fewer hx' hns
      omega
  refine wp_loop_rounds (es'.length + 1) (main es'.length [] a w ?_ { size := hsz, defs := hdf, slots := fun t ht hA _ => hslots t ht hA, grow := Nat.le_refl _, same := fun _ _ _ => rfl, tape := rfl, os := rfl, output := rfl, iter := hwi } (fun x hx h => by cases h))
  exact List.length_filter_le _ _


/-! ### a walk whose rounds write -/
theorem rest_nil {seen : List Nat} : ∀ {es : List Ent}, (∀ x ∈ es, x.born ∈ seen) → restE seen es = []
  | [], _ => rfl
  | x :: l, h => by
    unfold restE
    rw [memL_is, show seen.contains x.born = true by simpa using h x List.mem_cons_self]
    exact rest_nil fun y hy => h y (List.mem_cons_of_mem _ hy)
theorem rest_mem {seen : List Nat} : ∀ {es : List Ent} {x : Ent}, x ∈ es → x.born ∉ seen → x ∈ restE seen es
  | y :: l, x, hx, hn => by
    unfold restE
    rcases List.mem_cons.1 hx with rfl | hx
    · rw [memL_is, show seen.contains x.born = false by simpa using hn]
      exact List.mem_cons_self
    · have ih := rest_mem hx hn
      cases memL y.born seen with
      | true => exact ih
      | false => exact List.mem_cons_of_mem _ ih
theorem allEn_ok {f : Ent → Bool} : ∀ {l : List Ent}, allEn f l = true → ∀ x ∈ l, f x = true
  | [], _, x, hx => by cases hx
  | y :: l, h, x, hx => by
    obtain ⟨h1, h2⟩ := bif_true h
    rcases List.mem_cons.1 hx with rfl | hx
    · exact h1
    · exact allEn_ok h2 x hx
theorem copyB_get {t : BT} : ∀ {n i : Nat} {r r' : BT}, copyB t n i r = some r' → ∀ j, r'.get j = if i ≤ j ∧ j < i + n then t.get j else r.get j
  | 0, i, r, r', h, j => by
    cases h
    rw [if_neg (by omega)]
  | n + 1, i, r, r', h, j => by
    unfold copyB at h
    cases hs : r.set i (t.get i) with
    | none => rw [hs] at h; cases h
    | some r1 =>
      rw [hs] at h
      have ih := copyB_get h j
      have he : Nat.succ i = i + 1 := rfl
      rw [ih, BT.get_set _ _ _ _ hs]
      by_cases h1 : j = i
      · rw [if_neg (by omega), if_pos h1, if_pos (by omega), h1]
      · rw [if_neg h1]
        by_cases h2 : i ≤ j ∧ j < i + (n + 1)
        · rw [if_pos h2, if_pos (by omega)]
        · rw [if_neg h2, if_neg (by omega)]
/-- one block is another, that did not come in -/
theorem RelW.one {φ : Phi} {h : Hp} {w w' : World} {b : Nat} {pb : Pl} {o : Blk} {bl : BT} (H : RelW ty φ nil h w) (hpb : φ b = some pb) (hin : pb.inp = false) (hlive : Live h b) (hbl : ∀ i, bl.get i = if i = b then o else h.bl.get i)
    (hs : w.heap.size ≤ w'.heap.size) (hsame : ∀ j, j < w.heap.size → j ≠ pb.blk → w'.heap[j]? = w.heap[j]?) (hB : RelB ty φ pb o w'.heap[pb.blk]?) (hoc : ∀ cc s el, o ≠ .cells cc s el) (lo hi mk : Nat) :
    RelW ty φ nil { next := h.next, low := lo, high := hi, mark := mk, bl := bl } w' where
  dom := fun i p hp => ⟨(H.dom i p hp).1, Nat.lt_of_lt_of_le (H.dom i p hp).2 hs⟩
  inj := fun i j p q hp hq _ _ hi hj hio hpq => by
    have lv : ∀ i, bl.get i ≠ .dead → Live h i := fun i hi => by
      by_cases hib : i = b
      · rw [hib]; exact hlive
      · rw [hbl, if_neg hib] at hi; exact hi
    exact H.inj i j p q hp hq (fun h => h) (fun h => h) (lv i hi) (lv j hj) hio hpq
  row := fun i p hp _ => by
    show RelB ty φ p (bl.get i) _
    rw [hbl]
    by_cases hib : i = b
    · rw [if_pos hib]
      subst hib
      rw [hpb] at hp; cases hp
      exact hB
    · rw [if_neg hib]
      by_cases hdd : h.bl.get i = .dead
      · rw [hdd]; exact .dead
      · rw [hsame p.blk (H.dom i p hp).2 (fun hb => hib (H.inj i b p pb hp hpb (fun h => h) (fun h => h) hdd hlive (.inr hin) hb))]
        exact H.row i p hp (fun h => h)
  fresh := fun i hi => by
    have hi : h.next ≤ i := hi
    show bl.get i = _
    have := (H.dom _ _ hpb).1
    rw [hbl, if_neg (by omega)]; exact H.fresh i hi
  kind := fun i p cc s el hp he => by
    have he : bl.get i = .cells cc s el := he
    rw [hbl] at he
    by_cases hib : i = b
    · rw [if_pos hib] at he; exact absurd he (hoc _ _ _)
    · rw [if_neg hib] at he; exact H.kind i p cc s el hp he
  inp := H.inp
theorem Evo.one {φ : Phi} {h : Hp} {w w' : World} {b : Nat} {pb : Pl} {o : Blk} {bl : BT} (hpb : φ b = some pb) (hin : pb.inp = false) (hlive : Live h b) (hbl : ∀ i, bl.get i = if i = b then o else h.bl.get i)
    (hs : w.heap.size ≤ w'.heap.size) (hsame : ∀ j, j < w.heap.size → j ≠ pb.blk → w'.heap[j]? = w.heap[j]?) (ht : w'.tape = w.tape) (hos : w'.os = w.os) (hou : w'.output = w.output) (ho : ShapeLe (h.bl.get b) o) (mk : Nat) :
    Evo φ h w φ { next := h.next, low := minN h.low b, high := maxN h.high b, mark := mk, bl := bl } w' where
  le := .refl φ
  new := fun _ _ e => .inl e
  next := Nat.le_refl _
  size := hs
  tape := ht
  os := hos
  output := hou
  frame := fun j hj hf => hsame j hj fun hjp => hf b pb hpb hin (by show minN _ _ ≤ _; rw [minN_is]; exact Nat.min_le_right _ _) (by show _ ≤ maxN _ _; rw [maxN_is]; exact Nat.le_max_right _ _) hlive hjp.symm
  back := fun i p hp hl _ => by
    refine ⟨i, p, hp, ?_, rfl, rfl, .inl rfl⟩
    by_cases hib : i = b
    · rw [hib]; exact hlive
    · have hl : bl.get i ≠ .dead := hl
      rw [hbl, if_neg hib] at hl; exact hl
  kept := fun i _ hi => by
    show bl.get i = _
    have hi : i < minN h.low b ∨ maxN h.high b < i := hi
    rw [minN_is, maxN_is] at hi
    rw [hbl, if_neg (by omega)]
  low := by show minN _ _ ≤ _; rw [minN_is]; exact Nat.min_le_left _ _
  high := by show _ ≤ maxN _ _; rw [maxN_is]; exact Nat.le_max_left _ _
  shape := fun i _ => by
    show ShapeLe _ (bl.get i)
    rw [hbl]
    by_cases hib : i = b
    · rw [if_pos hib, hib]; exact ho
    · rw [if_neg hib]; exact .refl _
  only := fun i _ h0 => by
    show bl.get i = _
    rw [hbl, if_neg (fun e => by rw [e, hpb] at h0; cases h0)]
  all := fun _ h1 h2 => absurd h2 (Nat.not_lt.2 h1)

theorem expl_ok {k : Walk} {a0 : Code} {id : Nat} {o1 o2 : Oper} {r2 : Code} (W : WalkIs A a0 k id o1 o2 r2) (hd : k.nx < N ∧ k.more < N)
    (ih : ∀ {e : Env} {h : Hp} {X : Go.Proofs.Ytkafejncffinmaa.X}, codeC ty A (.seq (.cond (.tmp k.more) .skip (.exit k.out)) r2) [] none F e h = X → X ≠ .no → ∀ (φ : Phi) (w : World) (a : Act), RelW ty φ nil h w → AR N φ (rhoOf A [] e) a → ∀ (Q : Exit → Act → World → Prop), Post ty A N F φ h w none X Q → (Code.seq (.cond (.tmp k.more) .skip (.exit k.out)) r2).wp P Q a w)
    {e : Env} {ad : Addr} (hit : slotG k.it e = .pointer (some ad)) (hoff : Nat.beq ad.off 0 = true) (h256 : 256 ≤ ad.block) {φ0 : Phi} {hr : Hp} {w0 : World} {a : Act} (hslots : ∀ t, t < 320 → memN t A = false → RelV φ0 (e.get t) (a.tmps.getD t undef))
    {fin : Hp → Rds → Bool} {Q : Exit → Act → World → Prop}
    (hfin : ∀ (hk : Hp) (tr : Rds) (φk : Phi) (wk : World), RelW ty φk nil hk wk → Evo φ0 hr w0 φk hk wk → (∃ pb, φk ad.block = some pb) → Live hk ad.block → fin hk tr = true → ∀ ak : Act, ak.tmps.size = N → ak.defers = [] →
      (∀ t, t < 320 → memN t A = false → t ∉ k.ws → RelV φ0 (e.get t) (ak.tmps.getD t undef)) → ak.tmps.getD k.more undef = .bool false → Q (.exit k.out) ak wk) :
    ∀ (n : Nat) (hk : Hp) (tr : Rds) (φk : Phi) (wk : World) (ak : Act), RelW ty φk nil hk wk → Evo φ0 hr w0 φk hk wk → ak.tmps.size = N → ak.defers = [] →
      (∀ t, t < 320 → memN t A = false → t ∉ k.ws → RelV φ0 (e.get t) (ak.tmps.getD t undef)) → explE k (codeC ty A a0 [] none) F e ad.block fin n hk tr = true → Code.rounds P a0 Q n ak wk := by
  intro n
  induction n with
  | zero => intro hk tr φk wk ak _ _ _ _ _ hx; cases hx
  | succ n ihn =>
  intro hk tr φk wk ak H E hsz hdf hsl hx
  unfold explE headE at hx
  cases hiter : iterB (hk.bl.get ad.block) with
  | no => rw [hiter] at hx; cases hx
  | cur _ _ _ => rw [hiter] at hx; cases hx
  | pick _ _ _ _ => rw [hiter] at hx; cases hx
  | ok m' since seen last =>
  rw [hiter] at hx
  cases m' with
  | none => cases hx
  | some m =>
  simp only at hx
  cases hents : entsOf hk m with
  | no => rw [hents] at hx; cases hx
  | ok es c =>
  rw [hents] at hx
  simp only at hx
  obtain ⟨hcs0, hx1⟩ := bif_true hx
  obtain ⟨hcl0, hx2⟩ := bif_true hx1
  obtain ⟨hris, hx3⟩ := bif_true hx2
  clear hx hx1 hx2
  have hcs := nat_beq.1 hcs0
  have hcl := nat_beq.1 hcl0
  clear hcs0 hcl0
  subst hcs; subst hcl
  have hx := hx3
  clear hx3
  have hbi := iter_ok hiter
  have hitR := hslots k.it W.itL W.itA
  rw [← slotG_is k.it W.itL, hit] at hitR
  obtain ⟨ad', had', hra⟩ := hitR.ptr_inv
  obtain ⟨pb, hpb0, rfl⟩ := hra.eq
  have hpb := E.le _ _ hpb0
  have hoff0 : ad.off = 0 := nat_beq.1 hoff
  have hrow := H.row ad.block pb hpb (fun h => h)
  rw [hbi] at hrow
  obtain ⟨q, hp0, hq, hwi⟩ : ∃ q, pb.off = 0 ∧ φk m = some q ∧ wk.heap[pb.blk]? = some (.mapIter (some q.blk) c ⟨seen⟩ c) := by
    generalize wk.heap[pb.blk]? = ob at hrow
    cases hrow with
    | iter h1 h2 => exact ⟨_, h1, h2, rfl⟩
  obtain ⟨es', hwm, hrel⟩ := H.entsAt hq (fun h => h) hents
  have hmb : m ≠ ad.block := fun h => by
    have := ents_ok hents
    rw [h, hbi] at this; cases this
  have hin := H.notInp hpb h256
  have hlive : Live hk ad.block := by unfold Live; rw [hbi]; intro h; cases h
  have hpbs := (H.dom _ _ hpb).2
  have hborn : ∀ x ∈ es', x.born < c := fun x hx => by
    obtain ⟨y, hy, he⟩ := rel_mem hrel hx
    rw [← he]; exact (risingE_ok hris y hy).2
  have hkeep : Keeps k.ws (codeC ty A (.seq (.cond (.tmp k.more) .skip (.exit k.out)) r2) [] none) := keeps_code _ (fun d hd => by
    rw [W.ws, W.code]
    exact List.mem_append_right _ hd) (fun _ h => by cases h)
  have hnxw : k.nx ∈ k.ws := by rw [W.ws, W.code]; show _ ∈ dsts [o1, o2] ++ _; simp [dsts, W.dst1, W.dst2]
  have hmow : k.more ∈ k.ws := by rw [W.ws, W.code]; show _ ∈ dsts [o1, o2] ++ _; simp [dsts, W.dst1, W.dst2]
  have hcg : ∀ t, t < 320 → (clearS e k.ws).get t = if t ∈ k.ws then .chan none else e.get t := fun t ht => clearS_get _ _ _ W.few ht
  have hcut : ∀ {ψ : Phi} {v v' v'' : Value}, φ0.Le ψ → RelV ψ v v' → RelV φ0 v v'' → RelV φ0 v v' := fun {ψ v v' v''} hle h1 h2 => RelV.cut (χ := φ0) (fun b p hp ⟨q, hq⟩ => by
    have := hle b q hq
    rw [hp] at this; cases this
    exact hq) h1 h2
  have hevit : ak.eval (.tmp k.it) = .pointer (some ⟨pb.blk, 0, none⟩) := by
    have h1 := hsl k.it W.itL W.itA W.itW
    rw [← slotG_is k.it W.itL, hit] at h1
    obtain ⟨a2, ha2, hr2⟩ := h1.ptr_inv
    obtain ⟨p2, hp2, rfl⟩ := hr2.eq
    rw [hpb0] at hp2; cases hp2
    show ak.tmps.getD k.it undef = _
    rw [ha2, hp0, hoff0]
  have putD : ∀ (v1 v2 : Value) (t : Nat), t < 320 → ((ak.put (some k.nx) v1).put (some k.more) v2).tmps.getD t undef = if t = k.more then v2 else if t = k.nx then v1 else ak.tmps.getD t undef := fun v1 v2 t ht => by
    rw [put_getD, put_size, put_getD]
    by_cases h1 : t = k.more
    · rw [if_pos ⟨by rw [h1], by rw [h1, hsz]; exact hd.2⟩, if_pos h1]
    · rw [if_neg (fun h => h1 (Option.some.inj h.1).symm), if_neg h1]
      by_cases h2 : t = k.nx
      · rw [if_pos ⟨by rw [h2], by rw [h2, hsz]; exact hd.1⟩, if_pos h2]
      · rw [if_neg (fun h => h2 (Option.some.inj h.1).symm), if_neg h2]
  show a0.wp P (Exit.then (Code.rounds P a0 Q n) Q) ak wk
  generalize hK : Code.rounds P a0 Q n = K
  rw [W.code]
  refine wp_seq (step_walk W (pb := pb.blk) (mb := q.blk) (clk := c) (seen := seen) (es := es') hevit (by rw [hsz]; exact hd.1) hwi hwm hborn (fun hall => ?_) (fun x' hx' hns w1 e1 e2' e3 e4 => ?_))
  · -- none is left
    show (Code.seq (.cond (.tmp k.more) .skip (.exit k.out)) r2).wp P (Exit.then K Q) ((ak.put (some k.nx) (.tuple #[.bool false])).put (some k.more) (.bool false)) wk
    refine wp_seq (wp_cond_false ?_ (wp_exit ?_))
    · show ((ak.put (some k.nx) (.tuple #[.bool false])).put (some k.more) (.bool false)).tmps.getD k.more undef = _
      rw [putD _ _ _ W.moL, if_pos rfl]
    · show Q (.exit k.out) ((ak.put (some k.nx) (.tuple #[.bool false])).put (some k.more) (.bool false)) wk
      rw [rest_nil (es := es) fun x hx => by
        obtain ⟨x', hx', he⟩ := rel_mem2 hrel hx
        rw [← he]; exact hall x' hx'] at hx
      refine hfin hk tr φk wk H E ⟨_, hpb⟩ hlive hx _ (by rw [put_size, put_size]; exact hsz) (by rw [put_defs, put_defs]; exact hdf) (fun t ht hA hw => ?_) (by rw [putD _ _ _ W.moL, if_pos rfl])
      rw [putD _ _ _ ht, if_neg (fun h : t = k.more => hw (h ▸ hmow)), if_neg (fun h : t = k.nx => hw (h ▸ hnxw))]
      exact hsl t ht hA hw
  · -- an entry
    show (Code.seq (.cond (.tmp k.more) .skip (.exit k.out)) r2).wp P (Exit.then K Q) ((ak.put (some k.nx) (.tuple #[.bool true, x'.key, x'.val])).put (some k.more) (.bool true)) w1
    obtain ⟨x, hfx, hkr, hvr⟩ := rel_find hrel hris hx'
    obtain ⟨hxm, hxb⟩ := findB_mem hfx
    have hmem := rest_mem hxm (by rw [hxb]; exact hns)
    generalize hrest : restE seen es = rest at hx hmem
    cases rest with
    | nil => cases hmem
    | cons y l =>
    have hx := allEn_ok hx x hmem
    unfold stepE at hx
    cases hbl : hk.bl.set ad.block (.pick m x.born c (some seen)) with
    | none => rw [hbl] at hx; cases hx
    | some bl =>
    rw [hbl] at hx
    simp only at hx
    have hitc : slotG k.it (clearS e k.ws) = .pointer (some ad) := by
      rw [slotG_is _ W.itL, hcg _ W.itL, if_neg W.itW, ← slotG_is _ W.itL]; exact hit
    generalize hY : codeC ty A a0 [] none F (clearS e k.ws) { next := hk.next, low := minN hk.low ad.block, high := maxN hk.high ad.block, mark := hk.mark, bl := bl } = Y at hx
    cases Y with
    | no => cases hx
    | exit _ _ _ => cases hx
    | ret _ _ => cases hx
    | norm e1' h1' =>
    simp only at hx
    obtain ⟨bl', hbl', hB⟩ := pick_is W (x := x) (s := x.born) hitc hoff hents hmb (by rw [hxb]; exact hfx) hbl hY (fun h => by cases h)
    have hbl' : bl.set ad.block (.iter (some m) c (pushL x.born seen) c) = some bl' := hbl'
    have hblc : ∀ i, bl'.get i = if i = ad.block then .iter (some m) c (pushL x.born seen) c else hk.bl.get i := fun i => by
      rw [BT.get_set _ _ _ _ hbl', BT.get_set _ _ _ _ hbl]
      split <;> rfl
    have hws1 : w1.heap.size = wk.heap.size := by rw [e1]; simp
    have hw1p : w1.heap[pb.blk]? = some (.mapIter (some q.blk) c ⟨seen ++ [x'.born]⟩ c) := by
      rw [e1, Array.getElem?_setIfInBounds, if_pos rfl, if_pos hpbs]
    have hw1s : ∀ j, j < wk.heap.size → j ≠ pb.blk → w1.heap[j]? = wk.heap[j]? := fun j hj hjp => by
      rw [e1, Array.getElem?_setIfInBounds, if_neg (fun h => hjp h.symm)]
    have HR := H.one hpb hin hlive hblc (Nat.le_of_eq hws1.symm) hw1s (by rw [hw1p, pushL_is, hxb]; exact .iter hp0 hq) (fun _ _ _ h => by cases h) (minN hk.low ad.block) (maxN hk.high ad.block) hk.mark
    have E1 := Evo.one (w' := w1) hpb hin hlive hblc (Nat.le_of_eq hws1.symm) hw1s e2' e3 e4 (by rw [hbi]; exact .inr trivial) hk.mark
    have HAR : AR N φk (rhoOf A [] (Env.set k.more (.bool true) (Env.set k.nx (.tuple ⟨[.bool true, x.key, x.val]⟩) (clearS e k.ws)))) ((ak.put (some k.nx) (.tuple #[.bool true, x'.key, x'.val])).put (some k.more) (.bool true)) := by
      refine ar_slots.2 ⟨by rw [put_size, put_size]; exact hsz, by rw [put_defs, put_defs]; exact hdf, fun t ht hA => ?_⟩
      rw [putD _ _ _ ht, Env.get_set _ _ _ _ W.moL ht, Env.get_set _ _ _ _ W.nxL ht, hcg t ht]
      by_cases q1 : t = k.more
      · rw [if_pos q1, if_pos q1]; exact .bool _
      · rw [if_neg q1, if_neg q1]
        by_cases q2 : t = k.nx
        · rw [if_pos q2, if_pos q2]; exact .tuple (.cons (.bool _) (.cons hkr (.cons hvr .nil)))
        · rw [if_neg q2, if_neg q2]
          by_cases q3 : t ∈ k.ws
          · rw [if_pos q3]; exact .unk
          · rw [if_neg q3]; exact (hsl t ht hA q3).mono E.le
    refine ih hB (fun h => by cases h) φk w1 _ HR HAR _ { go := (fun _ h => by cases h), norm := fun _ e2 h2 ψ a2 w2 g hx2 => ?_, exit := (fun i e2 h2 ψ a2 w2 g hx2 => by cases hx2), ret := (fun e2 h2 ψ a2 w2 g hx2 => by cases hx2) }
    cases hx2
    obtain ⟨g1, g2, g3⟩ := ar_slots.1 g.ar
    have hag := hkeep F (Env.set k.more (.bool true) (Env.set k.nx (.tuple ⟨[.bool true, x.key, x.val]⟩) (clearS e k.ws))) { next := hk.next, low := minN hk.low ad.block, high := maxN hk.high ad.block, mark := hk.mark, bl := bl' }
    rw [hB] at hag
    have hag : Ag k.ws (Env.set k.more (.bool true) (Env.set k.nx (.tuple ⟨[.bool true, x.key, x.val]⟩) (clearS e k.ws))) e1' := hag
    have E2 := (E.trans E1).trans g.evo
    show K a2 w2
    rw [← hK]
    refine ihn h1' _ ψ w2 a2 g.rel E2 g1 g2 (fun t ht hA hw => ?_) hx
    have q1 := g3 t ht hA
    rw [hag t ht hw, Env.get_set _ _ _ _ W.moL ht, if_neg (fun h : t = k.more => hw (h ▸ hmow)), Env.get_set _ _ _ _ W.nxL ht, if_neg (fun h : t = k.nx => hw (h ▸ hnxw)), hcg t ht, if_neg hw] at q1
    exact hcut E2.le q1 (hslots t ht hA)

theorem allWalk_ok {k : Walk} {a0 : Code} {id : Nat} {o1 o2 : Oper} {r2 : Code} (W : WalkIs A a0 k id o1 o2 r2) (hd : k.nx < N ∧ k.more < N)
    (ih : ∀ {e : Env} {h : Hp} {X : Go.Proofs.Ytkafejncffinmaa.X}, codeC ty A (.seq (.cond (.tmp k.more) .skip (.exit k.out)) r2) [] none F e h = X → X ≠ .no → ∀ (φ : Phi) (w : World) (a : Act), RelW ty φ nil h w → AR N φ (rhoOf A [] e) a → ∀ (Q : Exit → Act → World → Prop), Post ty A N F φ h w none X Q → (Code.seq (.cond (.tmp k.more) .skip (.exit k.out)) r2).wp P Q a w)
    {e : Env} {h : Hp} {X : Go.Proofs.Ytkafejncffinmaa.X} {ad : Addr} (hit : slotG k.it e = .pointer (some ad)) (hoff : Nat.beq ad.off 0 = true) (h256 : 256 ≤ ad.block)
    (hr : allWalk k (codeC ty A a0 [] none) F e h ad.block = X) (hn : X ≠ .no) {φ : Phi} {w : World} {a : Act} (H : RelW ty φ nil h w) (HA : AR N φ (rhoOf A [] e) a) {Q : Exit → Act → World → Prop}
    (pe : ∀ id e h' ψ a' w', Good ty A N φ h w [] e h' ψ a' w' → X = .exit id e h' → Q (.exit id) a' w') :
    (Code.loop a0).wp P Q a w := by
  unfold allWalk at hr
  generalize hfe : firstE k (codeC ty A a0 [] none) F e ad.block 5 { next := h.next, low := h.next, high := 0, mark := h.mark, bl := h.bl } [] = fe at hr
  cases fe with
  | none => exact absurd hr.symm hn
  | some p =>
  simp only at hr
  cases hbc : p.1.bl.set ad.block .dead with
  | none => rw [hbc] at hr; exact absurd hr.symm hn
  | some bc =>
  rw [hbc] at hr
  simp only at hr
  cases hbr : copyB bc (Nat.sub p.1.next p.1.low) p.1.low h.bl with
  | none => rw [hbr] at hr; exact absurd hr.symm hn
  | some br =>
  rw [hbr] at hr
  simp only at hr
  unfold allEnd at hr
  obtain ⟨hexpl, hX⟩ := bifX hr hn
  obtain ⟨hsz, hdf, hslots⟩ := ar_slots.1 HA
  have hitR := hslots k.it W.itL W.itA
  rw [← slotG_is k.it W.itL, hit] at hitR
  obtain ⟨ad', had', hra⟩ := hitR.ptr_inv
  obtain ⟨pb, hpb0, rfl⟩ := hra.eq
  have hbig : 256 ≤ h.next := by have := (H.dom _ _ hpb0).1; omega
  have hsub : Nat.sub p.1.next p.1.low = p.1.next - p.1.low := rfl
  have hbrg := copyB_get hbr
  rw [hsub] at hbrg
  have hcg : ∀ t, t < 320 → (clearS e k.ws).get t = if t ∈ k.ws then .chan none else e.get t := fun t ht => clearS_get _ _ _ W.few ht
  refine wp_loop_rounds 5 (expl_ok W hd ih hit hoff h256 (φ0 := φ) (w0 := w) hslots (fun hk tr φk wk Hk Ek ⟨pb', hpb'⟩ hlive hf ak s1 s2 s3 s4 => ?_) 5 { next := h.next, low := h.next, high := 0, mark := h.mark, bl := h.bl } [] φ w a (H.of_bl rfl rfl) (.refl _ _ _) hsz hdf (fun t ht hA _ => hslots t ht hA) hexpl)
  unfold finE at hf
  cases hset : hk.bl.set ad.block .dead with
  | none => rw [hset] at hf; cases hf
  | some blk =>
  rw [hset] at hf
  simp only at hf
  have hbg : ∀ i, blk.get i = if i = ad.block then .dead else hk.bl.get i := fun i => BT.get_set _ _ _ _ hset i
  have HK := Hk.one (w' := wk) hpb' (Hk.notInp hpb' h256) hlive hbg (Nat.le_refl _) (fun _ _ _ => rfl) .dead (fun _ _ _ h => by cases h) (minN hk.low ad.block) (maxN hk.high ad.block) hk.mark
  have EK := Ek.trans (Evo.one (w' := wk) hpb' (Hk.notInp hpb' h256) hlive hbg (Nat.le_refl _) (fun _ _ _ => rfl) rfl rfl rfl (.inl rfl) hk.mark)
  obtain ⟨ψ, HR, ER⟩ := iso_ok (r := { next := p.1.next, low := minN h.low p.1.low, high := maxN h.high p.1.next, mark := h.mark, bl := br }) H HK EK rfl rfl hbig hf (fun i hi => by
    show br.get i = _
    rw [hbrg, if_neg (by omega)]) (fun i hi => by
    have hi : p.1.next ≤ i := hi
    show br.get i = _
    rw [hbrg, if_neg (by omega)]) (by
    show minN _ _ ≤ _ ∧ minN _ _ ≤ _
    rw [minN_is]; omega) (by
    show p.1.next ≤ maxN _ _ ∧ _ ≤ maxN _ _
    rw [maxN_is]; omega)
  refine pe k.out _ _ ψ ak wk ⟨.nil A, HR, ar_slots.2 ⟨s1, s2, fun t ht hA => ?_⟩, ER⟩ hX.symm
  rw [Env.get_set _ _ _ _ W.moL ht, hcg t ht]
  by_cases q1 : t = k.more
  · rw [if_pos q1, q1, s4]; exact .bool _
  · rw [if_neg q1]
    by_cases q2 : t ∈ k.ws
    · rw [if_pos q2]; exact .unk
    · rw [if_neg q2]; exact (s3 t ht hA q2).mono ER.le

end
end Go.Proofs.Ytkafejncffinmaa
