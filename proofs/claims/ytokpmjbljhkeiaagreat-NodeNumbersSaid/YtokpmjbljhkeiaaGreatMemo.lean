/-
  A long run in pieces: a call that has been reckoned by itself answers in a greater run; of the heap it is told only what it touches.
-/
import Derived.Test.YtokpmjbljhkeiaaGreatArgs
import Derived.Test.YtokpmjbljhkeiaaGreatFull
set_option linter.unusedVariables false
set_option linter.unusedSimpArgs false
namespace Go.Proofs.YtokpmjbljhkeiaaGreat
open Go Go.RowKit Go.WideShapes Go.ChangeShapes

/-! ### the same? -/
noncomputable def eqA (a b : Addr) : Bool := bif Nat.beq a.block b.block then (bif Nat.beq a.off b.off then (match a.spot with
  | none => match b.spot with
    | none => true
    | some _ => false
  | some _ => false) else false) else false
noncomputable def eqOA (a b : Option Addr) : Bool := match a with
  | none => match b with
    | none => true
    | some _ => false
  | some a => match b with
    | none => false
    | some b => eqA a b
noncomputable def eqL (f : Value → Value → Bool) : List Value → List Value → Bool
  | [], l => match l with
    | [] => true
    | _ :: _ => false
  | x :: r, l => match l with
    | [] => false
    | y :: s => bif f x y then eqL f r s else false
noncomputable def eqv : Nat → Value → Value → Bool
  | 0, _, _ => false
  | n + 1, a, b => match a with
    | .bool x => match b with
      | .bool y => x == y
      | _ => false
    | .int j x => match b with
      | .int k y => bif sameK j k then iEq x y else false
      | _ => false
    | .string x => match b with
      | .string y => bEq x.data.toList y.data.toList
      | _ => false
    | .pointer x => match b with
      | .pointer y => eqOA x y
      | _ => false
    | .slice x l c => match b with
      | .slice y m d => bif Nat.beq l m then (bif Nat.beq c d then eqOA x y else false) else false
      | _ => false
    | .map x => match b with
      | .map y => match x with
        | none => match y with
          | none => true
          | some _ => false
        | some x => match y with
          | none => false
          | some y => Nat.beq x y
      | _ => false
    | .func f x u => match b with
      | .func g y v => match f with
        | .func f => match g with
          | .func g => bif Nat.beq f g then (bif eqL (eqv n) x.toList y.toList then eqL (eqv n) u.toList v.toList else false) else false
          | _ => false
        | _ => false
      | _ => false
    | .nilFunc => match b with
      | .nilFunc => true
      | _ => false
    | .iface t x => match b with
      | .iface u y => bif Nat.beq t u then eqv n x y else false
      | _ => false
    | .nilIface => match b with
      | .nilIface => true
      | _ => false
    | .agg x => match b with
      | .agg y => eqL (eqv n) x.toList y.toList
      | _ => false
    | .tuple x => match b with
      | .tuple y => eqL (eqv n) x.toList y.toList
      | _ => false
    | _ => false
theorem eqA_ok {a b : Addr} (h : eqA a b = true) : a = b := by
  unfold eqA at h
  obtain ⟨h1, h⟩ := bif_true h
  obtain ⟨h2, h⟩ := bif_true h
  cases a with | mk b1 o1 s1 => cases b with | mk b2 o2 s2 =>
  have e1 : b1 = b2 := nat_beq.1 h1
  have e2 : o1 = o2 := nat_beq.1 h2
  subst e1
  subst e2
  cases s1 with
  | some _ => cases h
  | none =>
    cases s2 with
    | some _ => cases h
    | none => rfl
theorem eqOA_ok {a b : Option Addr} (h : eqOA a b = true) : a = b := by
  cases a with
  | none => cases b with
    | none => rfl
    | some _ => cases h
  | some a => cases b with
    | none => cases h
    | some b => rw [eqA_ok h]
theorem eqL_ok {f : Value → Value → Bool} (hf : ∀ a b, f a b = true → a = b) : ∀ {x y : List Value}, eqL f x y = true → x = y
  | [], [], _ => rfl
  | [], _ :: _, h => by cases h
  | _ :: _, [], h => by cases h
  | a :: x, b :: y, h => by
    obtain ⟨h1, h2⟩ := bif_true h
    rw [hf a b h1, eqL_ok hf h2]
theorem arr_eq {x y : Array Value} (h : x.toList = y.toList) : x = y := by
  cases x; cases y; simp only at h; rw [h]
theorem eqv_ok : ∀ (n : Nat) (a b : Value), eqv n a b = true → a = b
  | 0, _, _, h => by cases h
  | n + 1, a, b, h => by
    have ih := fun x y => eqv_ok n x y
    unfold eqv at h
    cases a <;> first | (cases h; done) | (cases b <;> first | (cases h; done) | skip)
    · simp only [beq_iff_eq] at h; rw [h]
    · obtain ⟨h1, h2⟩ := bif_true h
      rw [iEq_is] at h2
      rw [sameK_eq h1, eq_of_beq h2]
    · rename_i x y
      have h : bEq x.data.toList y.data.toList = true := h
      rw [bEq_is] at h
      cases x with | mk x => cases y with | mk y => cases x with | mk x => cases y with | mk y =>
      have h := eq_of_beq h
      have h : x = y := h
      rw [h]
    · rw [eqOA_ok h]
    · obtain ⟨h1, h⟩ := bif_true h
      obtain ⟨h2, h⟩ := bif_true h
      rw [nat_beq.1 h1, nat_beq.1 h2, eqOA_ok h]
    · rename_i x y
      cases x with
      | none => cases y with
        | none => rfl
        | some _ => cases h
      | some x => cases y with
        | none => cases h
        | some y => rw [nat_beq.1 h]
    · rename_i f x u g y v
      cases f with
      | func f =>
        cases g with
        | func g =>
          obtain ⟨h1, h⟩ := bif_true h
          obtain ⟨h2, h⟩ := bif_true h
          rw [nat_beq.1 h1, arr_eq (eqL_ok ih h2), arr_eq (eqL_ok ih h)]
        | _ => cases h
      | _ => cases h
    · rfl
    · obtain ⟨h1, h⟩ := bif_true h
      rw [nat_beq.1 h1, ih _ _ h]
    · rfl
    · rw [arr_eq (eqL_ok ih h)]
    · rw [arr_eq (eqL_ok ih h)]
noncomputable def eqT : VT → VT → Bool
  | .mt, t => match t with
    | .mt => true
    | .nd _ _ _ => false
  | .nd v l r, t => match t with
    | .mt => false
    | .nd u a b => bif eqv 8 v u then (bif eqT l a then eqT r b else false) else false
theorem eqT_ok : ∀ {s t : VT}, eqT s t = true → s = t
  | .mt, .mt, _ => rfl
  | .mt, .nd _ _ _, h => by cases h
  | .nd _ _ _, .mt, h => by cases h
  | .nd v l r, .nd u a b, h => by
    obtain ⟨h1, h⟩ := bif_true h
    obtain ⟨h2, h⟩ := bif_true h
    rw [eqv_ok _ _ _ h1, eqT_ok h2, eqT_ok h]
noncomputable def eqEs : List Ent → List Ent → Bool
  | [], l => match l with
    | [] => true
    | _ :: _ => false
  | x :: r, l => match l with
    | [] => false
    | y :: s => bif eqv 8 x.key y.key then (bif eqv 8 x.val y.val then (bif Nat.beq x.born y.born then eqEs r s else false) else false) else false
theorem eqEs_ok : ∀ {x y : List Ent}, eqEs x y = true → x = y
  | [], [], _ => rfl
  | [], _ :: _, h => by cases h
  | _ :: _, [], h => by cases h
  | ⟨k, v, b⟩ :: x, ⟨k', v', b'⟩ :: y, h => by
    obtain ⟨h1, h⟩ := bif_true h
    obtain ⟨h2, h⟩ := bif_true h
    obtain ⟨h3, h⟩ := bif_true h
    have e1 := eqv_ok _ _ _ h1
    have e2 := eqv_ok _ _ _ h2
    have e3 := nat_beq.1 h3
    simp only at e1 e2 e3
    rw [e1, e2, e3, eqEs_ok h]
noncomputable def eqNs : List Nat → List Nat → Bool
  | [], l => match l with
    | [] => true
    | _ :: _ => false
  | x :: r, l => match l with
    | [] => false
    | y :: s => bif Nat.beq x y then eqNs r s else false
theorem eqNs_ok : ∀ {x y : List Nat}, eqNs x y = true → x = y
  | [], [], _ => rfl
  | [], _ :: _, h => by cases h
  | _ :: _, [], h => by cases h
  | a :: x, b :: y, h => by
    obtain ⟨h1, h⟩ := bif_true h
    rw [nat_beq.1 h1, eqNs_ok h]
noncomputable def eqB (a b : Blk) : Bool := match a with
  | .cells c s e => match b with
    | .cells c' s' e' => bif Nat.beq s s' then (bif Nat.beq e e' then eqT c c' else false) else false
    | _ => false
  | .map es k => match b with
    | .map es' k' => bif Nat.beq k k' then eqEs es es' else false
    | _ => false
  | .iter m s l t => match b with
    | .iter m' s' l' t' => bif Nat.beq s s' then (bif Nat.beq t t' then (bif eqNs l l' then (match m with
      | none => match m' with
        | none => true
        | some _ => false
      | some m => match m' with
        | none => false
        | some m' => Nat.beq m m') else false) else false) else false
    | _ => false
  | .dead => match b with
    | .dead => true
    | _ => false
  | _ => false
theorem eqB_ok {a b : Blk} (h : eqB a b = true) : a = b := by
  unfold eqB at h
  cases a <;> cases b <;> first | (cases h; done) | skip
  · obtain ⟨h1, h⟩ := bif_true h
    obtain ⟨h2, h⟩ := bif_true h
    rw [nat_beq.1 h1, nat_beq.1 h2, eqT_ok h]
  · obtain ⟨h1, h⟩ := bif_true h
    rw [nat_beq.1 h1, eqEs_ok h]
  · rename_i m s l t m' s' l' t'
    obtain ⟨h1, h⟩ := bif_true h
    obtain ⟨h2, h⟩ := bif_true h
    obtain ⟨h3, h⟩ := bif_true h
    rw [nat_beq.1 h1, nat_beq.1 h2, eqNs_ok h3]
    cases m with
    | none => cases m' with
      | none => rfl
      | some _ => cases h
    | some m => cases m' with
      | none => cases h
      | some m' => rw [nat_beq.1 h]
  · rfl

/-! ### heaps out of lists of blocks -/
abbrev BL := List (Nat × Blk)
noncomputable def layO (t : BT) : BL → Option BT
  | [] => some t
  | x :: l => match t.set x.1 x.2 with
    | some t' => layO t' l
    | none => none
theorem layO_get : ∀ (l : BL) (t t' : BT), layO t l = some t' → ∀ j, (∃ o, (j, o) ∈ l ∧ t'.get j = o) ∨ ((∀ o, (j, o) ∉ l) ∧ t'.get j = t.get j)
  | [], t, t', h, j => by cases h; exact .inr ⟨fun _ h => (by cases h), rfl⟩
  | (b, o) :: l, t, t', h, j => by
    unfold layO at h
    cases hs : t.set b o with
    | none => rw [hs] at h; cases h
    | some t1 =>
      rw [hs] at h
      rcases layO_get l t1 t' h j with ⟨o', h1, h2⟩ | ⟨h1, h2⟩
      · exact .inl ⟨o', List.mem_cons_of_mem _ h1, h2⟩
      · rw [h2, BT.get_set _ _ _ _ hs]
        by_cases hj : j = b
        · rw [if_pos hj, hj]
          exact .inl ⟨o, List.mem_cons_self, rfl⟩
        · rw [if_neg hj]
          refine .inr ⟨fun o' ho => ?_, rfl⟩
          rcases List.mem_cons.1 ho with h3 | h3
          · exact hj (congrArg Prod.fst h3)
          · exact h1 o' h3
noncomputable def holds (t : BT) : BL → Bool
  | [] => true
  | x :: l => bif eqB (t.get x.1) x.2 then holds t l else false
theorem holds_ok {t : BT} : ∀ {l : BL}, holds t l = true → ∀ j o, (j, o) ∈ l → t.get j = o
  | [], _, j, o, h => by cases h
  | (b, u) :: l, h, j, o, hm => by
    obtain ⟨h1, h2⟩ := bif_true h
    rcases List.mem_cons.1 hm with h3 | h3
    · cases h3; exact eqB_ok h1
    · exact holds_ok h2 j o h3
noncomputable def under (n : Nat) : BL → Bool
  | [] => true
  | x :: l => bif Nat.blt x.1 n then under n l else false
theorem under_ok {n : Nat} : ∀ {l : BL}, under n l = true → ∀ j o, (j, o) ∈ l → j < n
  | [], _, j, o, h => by cases h
  | (b, u) :: l, h, j, o, hm => by
    obtain ⟨h1, h2⟩ := bif_true h
    rcases List.mem_cons.1 hm with h3 | h3
    · cases h3; exact nat_blt.1 h1
    · exact under_ok h2 j o h3
/-- the first places of a list are those of another -/
noncomputable def heads : BL → BL → Bool
  | [], _ => true
  | x :: l, p => match p with
    | [] => false
    | y :: p => bif Nat.beq x.1 y.1 then heads l p else false
theorem heads_ok : ∀ {l p : BL}, heads l p = true → ∀ j o, (j, o) ∈ l → ∃ o', (j, o') ∈ p
  | [], p, _, j, o, h => by cases h
  | (b, u) :: l, [], h, j, o, hm => by cases h
  | (b, u) :: l, (c, v) :: p, h, j, o, hm => by
    obtain ⟨h1, h2⟩ := bif_true h
    rcases List.mem_cons.1 hm with h3 | h3
    · cases h3
      have : b = c := nat_beq.1 h1
      exact ⟨v, by rw [this]; exact List.mem_cons_self⟩
    · obtain ⟨o', h4⟩ := heads_ok h2 j o h3
      exact ⟨o', List.mem_cons_of_mem _ h4⟩

/-- a piece of a run: a call, what stays of what it touches, what it changes, what it gives, what is there behind it -/
structure Piece where
  fn : Nat
  args : List Value
  next : Nat
  same : BL
  was : BL
  v : Value
  next1 : Nat
  post : BL
  lo : Nat
  hi : Nat
noncomputable def Piece.tree (p : Piece) (d : Nat) : BT := match layO (fullT d) p.same with
  | some t => match layO t p.was with
    | some t => t
    | none => .mt
  | none => .mt
noncomputable def notDead : Blk → Bool
  | .dead => false
  | _ => true
theorem notDead_ok {b : Blk} (h : notDead b = true) : b ≠ .dead := by rintro rfl; cases h
/-- what is written of what was there, was there in the piece -/
noncomputable def oldLive (n : Nat) (t : BT) : BL → Bool
  | [] => true
  | x :: l => bif Nat.blt x.1 n then (bif notDead (t.get x.1) then oldLive n t l else false) else oldLive n t l
theorem oldLive_ok {n : Nat} {t : BT} : ∀ {l : BL}, oldLive n t l = true → ∀ j o, (j, o) ∈ l → j < n → t.get j ≠ .dead
  | [], _, j, o, h, _ => by cases h
  | (b, u) :: l, h, j, o, hm, hj => by
    have h : (bif Nat.blt b n then (bif notDead (t.get b) then oldLive n t l else false) else oldLive n t l) = true := h
    rcases List.mem_cons.1 hm with h3 | h3
    · cases h3
      rw [nat_blt.2 hj] at h
      exact notDead_ok (bif_true h).1
    · refine oldLive_ok ?_ j o h3 hj
      cases hb : Nat.blt b n with
      | false => rw [hb] at h; exact h
      | true => rw [hb] at h; exact (bif_true h).2
noncomputable def Piece.h0 (p : Piece) (d : Nat) : Hp := { next := p.next, low := p.next, high := 0, mark := p.next, bl := p.tree d }
/-- does the call come to what the piece says? -/
noncomputable def Piece.right (p : Piece) (d : Nat) (r : R) : Bool := match r with
  | .ok v h => bif eqv 8 v p.v then (bif Nat.beq h.next p.next1 then (bif Nat.ble p.lo h.low then (bif Nat.ble h.high p.hi then (bif holds h.bl p.post then (bif holds h.bl p.same then
      (bif oldLive p.next (p.tree d) p.post then heads p.was p.post else false) else false) else false) else false) else false) else false) else false
  | .no => false
noncomputable def Piece.gives (p : Piece) (h : Hp) : R := match layO h.bl p.post with
  | some t => forceN (minN h.low p.lo) fun lo => forceN (maxN h.high p.hi) fun hi => .ok p.v { next := p.next1, low := lo, high := hi, mark := h.mark, bl := t }
  | none => .no
noncomputable def Piece.call (p : Piece) (args : List Value) (h : Hp) (k : R) : R := bif Nat.beq h.next p.next then (bif eqL (eqv 8) args p.args then (bif holds h.bl p.same then (bif holds h.bl p.was then p.gives h else k) else k) else k) else k
noncomputable def piecesF (args : List Value) (h : Hp) (k : R) : List Piece → R
  | [] => k
  | p :: l => p.call args h (piecesF args h k l)

section
variable {P : Program} {ty : TTy} {φ ψ : Phi} {h h0 h1 h' : Hp} {w w' : World}

/-- a run over less of the heap is a run over the whole -/
theorem overlay (H : RelW ty φ nil h w) (hn0 : h0.next = h.next) (h00 : ∀ i, h0.bl.get i = .dead ∨ h0.bl.get i = h.bl.get i)
    (H1 : RelW ty ψ nil h1 w') (ev : Evo φ h0 w ψ h1 w') (hn1 : h'.next = h1.next)
    (hb : ∀ i, (h'.bl.get i = h1.bl.get i ∧ (i < h.next → h0.bl.get i ≠ .dead)) ∨ (h'.bl.get i = .dead ∧ h.next ≤ i) ∨ (i < h.next ∧ h0.bl.get i = .dead ∧ h'.bl.get i = h.bl.get i))
    (hl : h'.low ≤ h.low) (hl1 : h'.low ≤ h1.low) (hh : h.high ≤ h'.high) (hh1 : h1.high ≤ h'.high) : RelW ty ψ nil h' w' ∧ Evo φ h w ψ h' w' := by
  have live0 : ∀ i, Live h0 i → Live h i := fun i hi hd => by
    rcases h00 i with h2 | h2
    · exact hi h2
    · exact hi (h2.trans hd)
  have dead1 : ∀ i, i < h.next → h0.bl.get i = .dead → h1.bl.get i = .dead := fun i hi hd => by
    have := ev.shape i (by rw [hn0]; exact hi)
    rw [hd] at this; exact this.of_dead
  -- a block that stays as it was ahead of the piece
  have keep : ∀ i p, φ i = some p → i < h.next → h0.bl.get i = .dead → Live h i → w'.heap[p.blk]? = w.heap[p.blk]? := fun i p hp hi hd hv =>
    ev.frame p.blk (H.dom i p hp).2 fun j q hq hn _ _ hj hpq => by
      have := H.inj j i q p hq hp id id (live0 j hj) hv (.inl hn) hpq
      subst this
      exact hj hd
  have old : ∀ i p, ψ i = some p → i < h.next → φ i = some p := fun i p hp hi => by
    rcases ev.new i p hp with h2 | h2
    · exact h2
    · rw [hn0] at h2; omega
  -- two live blocks, one of the piece's, one that it does not touch
  have cross : ∀ i j p q, ψ i = some p → ψ j = some q → Live h1 i → j < h.next → h0.bl.get j = .dead → Live h j → (p.inp = false ∨ q.inp = false) → p.blk ≠ q.blk := fun i j p q hp hq hi hj hd hv hio hpq => by
    have hq' := old j q hq hj
    obtain ⟨k, r, hr, lk, hrp, hri, _⟩ := ev.back i p hp hi (by rw [hpq]; exact (H.dom j q hq').2)
    have := H.inj k j r q hr hq' id id (live0 k lk) hv (by rw [hri]; exact hio) (hrp.trans hpq)
    subst this
    exact lk hd
  refine ⟨{ dom := fun i p hp => ⟨by rw [hn1]; exact (H1.dom i p hp).1, (H1.dom i p hp).2⟩, inj := fun i j p q hp hq _ _ hi hj hio hpq => ?_, row := fun i p hp _ => ?_, fresh := fun i hi => ?_, kind := fun i p c s e hp hc => ?_, inp := H1.inp }, ?_⟩
  · have li := hb i
    have lj := hb j
    rcases li with ⟨li, _⟩ | ⟨li, _⟩ | ⟨i1, i2, i3⟩
    · rcases lj with ⟨lj, _⟩ | ⟨lj, _⟩ | ⟨j1, j2, j3⟩
      · exact H1.inj i j p q hp hq id id (fun hd => hi (li.trans hd)) (fun hd => hj (lj.trans hd)) hio hpq
      · exact absurd lj hj
      · exact absurd hpq (cross i j p q hp hq (fun hd => hi (li.trans hd)) j1 j2 (fun hd => hj (j3.trans hd)) hio)
    · exact absurd li hi
    · rcases lj with ⟨lj, _⟩ | ⟨lj, _⟩ | ⟨j1, j2, j3⟩
      · exact absurd hpq.symm (cross j i q p hq hp (fun hd => hj (lj.trans hd)) i1 i2 (fun hd => hi (i3.trans hd)) hio.symm)
      · exact absurd lj hj
      · exact H.inj i j p q (old i p hp i1) (old j q hq j1) id id (fun hd => hi (i3.trans hd)) (fun hd => hj (j3.trans hd)) hio hpq
  · rcases hb i with ⟨li, _⟩ | ⟨li, _⟩ | ⟨i1, i2, i3⟩
    · rw [li]; exact H1.row i p hp id
    · rw [li]; exact .dead
    · rw [i3]
      by_cases hd : h.bl.get i = .dead
      · rw [hd]; exact .dead
      · have hp' := old i p hp i1
        rw [keep i p hp' i1 i2 hd]
        exact (H.row i p hp' id).mono ev.le
  · have hi1 : h1.next ≤ i := hn1 ▸ hi
    have := ev.next
    rcases hb i with ⟨li, _⟩ | ⟨li, _⟩ | ⟨i1, i2, i3⟩
    · rw [li]; exact H1.fresh i hi1
    · exact li
    · omega
  · rcases hb i with ⟨li, _⟩ | ⟨li, _⟩ | ⟨i1, i2, i3⟩
    · exact H1.kind i p c s e hp (li ▸ hc)
    · rw [li] at hc; cases hc
    · exact H.kind i p c s e (old i p hp i1) (i3 ▸ hc)
  · have fromOld : ∀ i, i < h.next → (h'.bl.get i = h1.bl.get i ∧ h0.bl.get i = h.bl.get i) ∨ h'.bl.get i = h.bl.get i := fun i hi => by
      rcases hb i with ⟨li, l2⟩ | ⟨_, li⟩ | ⟨i1, i2, i3⟩
      · exact .inl ⟨li, (h00 i).resolve_left (l2 hi)⟩
      · omega
      · exact .inr i3
    exact {
      le := ev.le
      new := fun i p hp => by rw [← hn0]; exact ev.new i p hp
      next := by rw [hn1, ← hn0]; exact ev.next
      size := ev.size
      tape := ev.tape
      os := ev.os
      output := ev.output
      frame := fun k hk hf => ev.frame k hk fun i p hp hn hl' hh' hv => hf i p hp hn (Nat.le_trans hl1 hl') (Nat.le_trans hh' hh1) (live0 i hv)
      back := fun i p hp hv hk => by
        rcases hb i with ⟨li, _⟩ | ⟨li, _⟩ | ⟨i1, i2, i3⟩
        · obtain ⟨j, q, hj, lj, hq, hqi, hor⟩ := ev.back i p hp (fun hd => hv (li.trans hd)) hk
          refine ⟨j, q, hj, live0 j lj, hq, hqi, hor.imp id fun ⟨a, b⟩ => ⟨Nat.le_trans hl1 a, Nat.le_trans b hh1⟩⟩
        · exact absurd li hv
        · exact ⟨i, p, old i p hp i1, fun hd => hv (i3.trans hd), rfl, rfl, .inl rfl⟩
      kept := fun i hi hr => by
        rcases fromOld i hi with ⟨li, l2⟩ | li
        · rw [li, ev.kept i (by rw [hn0]; exact hi) (hr.imp (fun a => Nat.lt_of_lt_of_le a hl1) (fun a => Nat.lt_of_le_of_lt hh1 a)), l2]
        · exact li
      low := hl
      high := hh
      shape := fun i hi => by
        rcases fromOld i hi with ⟨li, l2⟩ | li
        · rw [li, ← l2]; exact ev.shape i (by rw [hn0]; exact hi)
        · rw [li]; exact .refl _
      only := fun i hi hp => by
        rcases fromOld i hi with ⟨li, l2⟩ | li
        · rw [li, ev.only i (by rw [hn0]; exact hi) hp, l2]
        · exact li
      all := fun i hi h2 => ev.all i (by rw [hn0]; exact hi) (by rw [← hn1]; exact h2) }

/-- a run over less of the heap may begin -/
theorem RelW.part (H : RelW ty φ nil h w) (hn0 : h0.next = h.next) (h00 : ∀ i, h0.bl.get i = .dead ∨ h0.bl.get i = h.bl.get i) : RelW ty φ nil h0 w where
  dom := fun i p hp => by rw [hn0]; exact H.dom i p hp
  inj := fun i j p q hp hq _ _ hi hj hio hpq => H.inj i j p q hp hq id id
    (fun hd => (h00 i).elim (fun h2 => hi h2) (fun h2 => hi (h2.trans hd))) (fun hd => (h00 j).elim (fun h2 => hj h2) (fun h2 => hj (h2.trans hd))) hio hpq
  row := fun i p hp _ => by
    rcases h00 i with h2 | h2
    · rw [h2]; exact .dead
    · rw [h2]; exact H.row i p hp id
  fresh := fun i hi => by
    rcases h00 i with h2 | h2
    · exact h2
    · rw [h2]; exact H.fresh i (hn0 ▸ hi)
  kind := fun i p c s e hp hc => by
    rcases h00 i with h2 | h2
    · rw [h2] at hc; cases hc
    · exact H.kind i p c s e hp (h2 ▸ hc)
  inp := H.inp

/-- what a call's answer is worth -/
def GoodR (P : Program) (ty : TTy) (g : Nat) (args : List Value) (h : Hp) (r : R) : Prop := ∀ v h', r = .ok v h' →
  (∃ fn, P.funcs[g]? = some fn ∧ fn.name ≠ "runtime.NumGoroutine" ∧ fn.body.isNone = false) ∧
  ∀ φ w args', RelL φ args args' → RelW ty φ (fun _ => False) h w →
    Calls P g ⟨args'⟩ w fun en w' => ∃ v' ψ, en = .returned v' ∧ RelV ψ v v' ∧ RelW ty ψ (fun _ => False) h' w' ∧ Evo φ h w ψ h' w'

/-- a piece that has been reckoned -/
def PieceOk (P : Program) (ty : TTy) (g : Nat) (p : Piece) : Prop := p.fn = g ∧ ∃ F0 d, CallOk P ty F0 ∧ p.right d (F0 p.fn p.args (p.h0 d)) = true

theorem Piece.tree_get (p : Piece) (d i : Nat) : (p.tree d).get i = .dead ∨ ∃ o, ((i, o) ∈ p.same ∨ (i, o) ∈ p.was) ∧ (p.tree d).get i = o := by
  unfold Piece.tree
  cases h1 : layO (fullT d) p.same with
  | none => exact .inl rfl
  | some t =>
    simp only
    cases h2 : layO t p.was with
    | none => exact .inl rfl
    | some t' =>
      simp only
      rcases layO_get _ _ _ h2 i with ⟨o, h3, h4⟩ | ⟨_, h4⟩
      · exact .inr ⟨o, .inr h3, h4⟩
      · rw [h4]
        rcases layO_get _ _ _ h1 i with ⟨o, h5, h6⟩ | ⟨_, h6⟩
        · exact .inr ⟨o, .inl h5, h6⟩
        · rw [h6]; exact .inl (fullT_get d i)

theorem gives_ok {p : Piece} {g : Nat} (hp : PieceOk P ty g p) (hn : h.next = p.next) (hs : holds h.bl p.same = true) (hw : holds h.bl p.was = true) : GoodR P ty g p.args h (p.gives h) := by
  intro v h' hr
  obtain ⟨rfl, F0, d, hF, hright⟩ := hp
  unfold Piece.gives at hr
  cases hl : layO h.bl p.post with
  | none => rw [hl] at hr; cases hr
  | some t =>
    rw [hl] at hr
    simp only [forceN_is] at hr
    obtain ⟨hv', hh'⟩ := R.ok.inj hr
    cases hrun : F0 p.fn p.args (p.h0 d) with
    | no => rw [hrun] at hright; cases hright
    | ok v1 h1 =>
      rw [hrun] at hright
      unfold Piece.right at hright
      obtain ⟨e1, hright⟩ := bif_true hright
      obtain ⟨e2, hright⟩ := bif_true hright
      obtain ⟨e3, hright⟩ := bif_true hright
      obtain ⟨e4, hright⟩ := bif_true hright
      obtain ⟨e5, hright⟩ := bif_true hright
      obtain ⟨e6, hright⟩ := bif_true hright
      obtain ⟨e7, e8⟩ := bif_true hright
      have e1 := eqv_ok _ _ _ e1
      have e2 := nat_beq.1 e2
      have e3 := nat_ble.1 e3
      have e4 := nat_ble.1 e4
      obtain ⟨hfn, hc⟩ := hF p.fn p.args (p.h0 d) v1 h1 hrun
      refine ⟨hfn, fun φ w args' ha H => ?_⟩
      have h00 : ∀ i, (p.h0 d).bl.get i = .dead ∨ (p.h0 d).bl.get i = h.bl.get i := fun i => by
        show (p.tree d).get i = .dead ∨ (p.tree d).get i = h.bl.get i
        rcases p.tree_get d i with h2 | ⟨o, h2 | h2, h3⟩
        · exact .inl h2
        · rw [h3, holds_ok hs i o h2]; exact .inr rfl
        · rw [h3, holds_ok hw i o h2]; exact .inr rfl
      refine (hc φ w args' ha (RelW.part H (by show p.next = _; rw [hn]) h00)).mono fun e w' ⟨v', ψ, he, hv, H1, ev⟩ => ?_
      have hb : ∀ i, (t.get i = h1.bl.get i ∧ (i < h.next → (p.h0 d).bl.get i ≠ .dead)) ∨ (t.get i = .dead ∧ h.next ≤ i) ∨ (i < h.next ∧ (p.h0 d).bl.get i = .dead ∧ t.get i = h.bl.get i) := fun i => by
        rcases layO_get _ _ _ hl i with ⟨o, h2, h3⟩ | ⟨h2, h3⟩
        · left
          refine ⟨by rw [h3, holds_ok e5 i o h2], fun hi => oldLive_ok e7 i o h2 (hn ▸ hi)⟩
        · rcases Nat.lt_or_ge i h.next with hi | hi
          · by_cases hd : (p.h0 d).bl.get i = .dead
            · exact .inr (.inr ⟨hi, hd, h3⟩)
            · left
              refine ⟨?_, fun _ => hd⟩
              rw [h3]
              rcases p.tree_get d i with h4 | ⟨o, h4 | h4, h5⟩
              · exact absurd h4 hd
              · rw [holds_ok hs i o h4, holds_ok e6 i o h4]
              · obtain ⟨o', h6⟩ := heads_ok e8 i o h4
                exact absurd h6 (h2 o')
          · exact .inr (.inl ⟨h3.trans (H.fresh i hi), hi⟩)
      have hlo := minN_is h.low p.lo
      have hhi := maxN_is h.high p.hi
      have := overlay (h' := h') H (by show p.next = _; rw [hn]) h00 H1 ev (by rw [← hh']; exact e2.symm) (by rw [← hh']; exact hb)
        (by rw [← hh']; show minN h.low p.lo ≤ _; omega) (by rw [← hh']; show minN h.low p.lo ≤ _; omega) (by rw [← hh']; show _ ≤ maxN h.high p.hi; omega) (by rw [← hh']; show _ ≤ maxN h.high p.hi; omega)
      exact ⟨v', ψ, he, by rw [← hv', ← e1]; exact hv, this.1, this.2⟩

theorem pieces_ok {g : Nat} {args : List Value} {k : R} (hk : GoodR P ty g args h k) : ∀ {l : List Piece}, (∀ p ∈ l, PieceOk P ty g p) → GoodR P ty g args h (piecesF args h k l)
  | [], _ => hk
  | p :: l, hp => by
    have ih := pieces_ok hk fun q hq => hp q (List.mem_cons_of_mem _ hq)
    show GoodR P ty g args h (p.call args h (piecesF args h k l))
    unfold Piece.call
    cases h1 : Nat.beq h.next p.next with
    | false => exact ih
    | true =>
      cases h2 : eqL (eqv 8) args p.args with
      | false => exact ih
      | true =>
        cases h3 : holds h.bl p.same with
        | false => exact ih
        | true =>
          cases h4 : holds h.bl p.was with
          | false => exact ih
          | true =>
            have := eqL_ok (fun a b => eqv_ok 8 a b) h2
            subst this
            exact gives_ok (hp p List.mem_cons_self) (nat_beq.1 h1) h3 h4

/-- pieces by functions -/
inductive MT where
  | mt
  | nd (l : List Piece) (a b : MT)
noncomputable def MT.get : MT → Nat → List Piece
  | .mt, _ => []
  | .nd l _ _, 0 => l
  | .nd _ a b, Nat.succ k => match Nat.mod k 2 with
    | 0 => a.get (Nat.div k 2)
    | Nat.succ _ => b.get (Nat.div k 2)
def MT.All (p : Nat → Piece → Prop) : MT → (Nat → Nat) → Prop
  | .mt, _ => True
  | .nd l a b, ix => (∀ x ∈ l, p (ix 0) x) ∧ MT.All p a (fun k => ix (2 * k + 1)) ∧ MT.All p b (fun k => ix (2 * k + 2))
theorem MT.All.get {p : Nat → Piece → Prop} : ∀ {t : MT} {ix : Nat → Nat}, MT.All p t ix → ∀ {i : Nat} {x : Piece}, x ∈ t.get i → p (ix i) x
  | .mt, ix, _, i, b, h => by cases h
  | .nd c l r, ix, ⟨h0, hl, hr⟩, 0, b, h => h0 b h
  | .nd c l r, ix, ⟨h0, hl, hr⟩, k + 1, b, h => by
    unfold MT.get at h
    have e1 : Nat.mod k 2 = k % 2 := rfl
    have e2 : Nat.div k 2 = k / 2 := rfl
    rw [e1, e2] at h
    rcases Nat.mod_two_eq_zero_or_one k with hk | hk
    · rw [hk] at h
      have := hl.get (i := k / 2) h
      have e : 2 * (k / 2) + 1 = k + 1 := by omega
      simp only [e] at this; exact this
    · rw [hk] at h
      have := hr.get (i := k / 2) h
      have e : 2 * (k / 2) + 2 = k + 1 := by omega
      simp only [e] at this; exact this
noncomputable def callM (bs : FT) (ms : MT) : Nat → CallF
  | 0, _, _, _ => .no
  | Nat.succ n, f, args, h => piecesF args h (match bs.get f with
    | some b => enter (callM bs ms n) b args h
    | none => .no) (ms.get f)
theorem callM_all (hT : TabOk P ty) (hm : P.follows .mixedOrders = true) {bs : FT} (hb : FT.All (FnOr P ty) bs id) {ms : MT} (hms : MT.All (PieceOk P ty) ms id) : ∀ n, CallOk P ty (callM bs ms n)
  | 0 => fun g args h v h' hr => by cases hr
  | n + 1 => fun g args h v h' hr => by
    refine pieces_ok (k := match bs.get g with | some b => enter (callM bs ms n) b args h | none => .no) ?_ (fun p hp => hms.get hp) v h' hr
    intro v h' hr
    cases hg : bs.get g with
    | none => rw [hg] at hr; cases hr
    | some b =>
      rw [hg] at hr
      rcases hb.get hg with hok | rfl | hdo
      · exact enter_ok hT (callM_all hT hm hb hms n) hm hok hr
      · exfalso
        have hr : (bif Nat.ble (lenL args) 480 then leave [] .no else .no) = .ok v h' := hr
        obtain ⟨_, hr⟩ := bif_ok hr
        cases hr
      · exact hdo _ args h v h' (callM_all hT hm hb hms n) hr

/-- a run begins, all places at hand -/
noncomputable def startF (d : Nat) : Hp := { next := 256, low := 256, high := 0, mark := 256, bl := fullT d }
theorem startF_rel (ty : TTy) (d : Nat) {φ : Phi} (hφ : AllIn φ) {w : World} (hd : ∀ i p, φ i = some p → p.blk < w.heap.size) : RelW ty φ nil (startF d) w where
  dom := fun i p h => ⟨(hφ i p h).1, hd i p h⟩
  inj := fun i j p q _ _ _ _ hl => absurd (fullT_get d i) hl
  row := fun i p _ _ => by show RelB _ _ _ ((fullT d).get i) _; rw [fullT_get]; exact .dead
  fresh := fun i _ => fullT_get d i
  kind := fun i p c s e _ h => by have h : (fullT d).get i = _ := h; rw [fullT_get] at h; cases h
  inp := fun i p h _ => (hφ i p h).1
/-- arguments that are only handed on, or none -/
theorem runF_args {F : CallF} (hC : CallOk P ty F) {d f : Nat} {xs args : List Value} {φ : Phi} {w : World} (h : okTrue (F f xs (startF d)) = true) (hr : RelL φ xs args) (hφ : AllIn φ) (hd : ∀ i p, φ i = some p → p.blk < w.heap.size) :
    Calls P f ⟨args⟩ w fun e w' => e = .returned (.bool true) ∧ Below w.heap.size w w' := by
  cases hq : F f xs (startF d) with
  | no => rw [hq] at h; cases h
  | ok v h' =>
    rw [hq] at h
    obtain ⟨_, hc⟩ := hC f xs (startF d) v h' hq
    refine (hc φ w args hr (startF_rel ty d hφ hd)).mono fun e w' ⟨v', ψ, he, hv, _, ev⟩ => ?_
    cases v with
    | bool b =>
      have h : b = true := h
      subst h
      have := hv.bool_inv
      subst this
      exact ⟨he, ⟨ev.os, ev.tape, ev.output, ev.size, fun k hk => ev.frame k hk fun i p hp hn => by rw [(hφ i p hp).2] at hn; cases hn⟩⟩
    | _ => cases h
theorem runF_true {F : CallF} (hC : CallOk P ty F) {d f : Nat} (h : okTrue (F f [] (startF d)) = true) (w : World) :
    Calls P f #[] w fun e w' => e = .returned (.bool true) ∧ Below w.heap.size w w' :=
  runF_args (φ := phi0) hC h .nil (fun i p h => by cases h) (fun i p h => by cases h)
end
end Go.Proofs.YtokpmjbljhkeiaaGreat
