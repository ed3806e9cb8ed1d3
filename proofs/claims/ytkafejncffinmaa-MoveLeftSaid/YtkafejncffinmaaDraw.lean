/-
  What 'drawC' has looked for keeps an open order to its laws.
-/
import Derived.Test.YtkafejncffinmaaOpen3
set_option linter.unusedSimpArgs false
set_option linter.unusedVariables false
namespace Go.Proofs.Ytkafejncffinmaa
open Go

theorem snocK_is {β : Type} (x : Nat) : ∀ (k : List Nat → β) (l : List Nat), snocK x k l = k (l ++ [x])
  | k, [] => rfl
  | k, y :: l => by
    unfold snocK
    rw [snocK_is x (fun l => k (y :: l)) l]; rfl
noncomputable def bsFrom : List Nat → List Oper → List Nat
  | acc, [] => acc
  | acc, o :: l => bsFrom (acc ++ [edgeM acc 0 o.after.toList]) l
theorem befs_is {β : Type} (k : List Nat → β) : ∀ (l : List Oper) (acc : List Nat), befs k l acc = k (bsFrom acc l)
  | [], acc => rfl
  | o :: l, acc => by
    unfold befs
    rw [forceN_is, snocK_is, befs_is k l]; rfl
theorem bsFrom_pre : ∀ (l : List Oper) (acc : List Nat) (j : Nat), j < acc.length → (bsFrom acc l)[j]? = acc[j]?
  | [], acc, j, _ => rfl
  | o :: l, acc, j, hj => by
    unfold bsFrom
    rw [bsFrom_pre l _ j (by simp; omega), List.getElem?_append_left hj]
theorem bsFrom_at (l : List Oper) : ∀ (acc : List Nat) (j : Nat) (o : Oper), l[j]? = some o → (bsFrom acc l)[acc.length + j]? = some (edgeM ((bsFrom acc l).take (acc.length + j)) 0 o.after.toList) := by
  induction l with
  | nil => intro acc j o h; cases h
  | cons o' l ih =>
    intro acc j o h
    have hu : bsFrom acc (o' :: l) = bsFrom (acc ++ [edgeM acc 0 o'.after.toList]) l := by rw [bsFrom]
    rw [hu]
    cases j with
    | zero =>
      have ho : o' = o := by simpa using h
      subst ho
      rw [Nat.add_zero]
      have hp := fun k hk => bsFrom_pre l (acc ++ [edgeM acc 0 o'.after.toList]) k hk
      have ht : (bsFrom (acc ++ [edgeM acc 0 o'.after.toList]) l).take acc.length = acc := by
        apply List.ext_getElem?
        intro k
        rw [List.getElem?_take]
        split
        · rename_i hk
          rw [hp k (by rw [List.length_append]; omega), List.getElem?_append_left hk]
        · rename_i hk
          rw [List.getElem?_eq_none (by omega)]
      rw [ht, hp acc.length (by rw [List.length_append, List.length_singleton]; omega), List.getElem?_append_right (Nat.le_refl _), Nat.sub_self]; rfl
    | succ j =>
      have := ih (acc ++ [edgeM acc 0 o'.after.toList]) j o (by simpa using h)
      rw [List.length_append, List.length_singleton] at this
      have e : acc.length + (j + 1) = acc.length + 1 + j := by omega
      rw [e]; exact this
theorem bsFrom_len : ∀ (l : List Oper) (acc : List Nat), (bsFrom acc l).length = acc.length + l.length
  | [], acc => rfl
  | o :: l, acc => by
    unfold bsFrom; rw [bsFrom_len l]; simp; omega

theorem isB_bit {bs : List Nat} {i j : Nat} : isB bs i j = true ↔ ∃ b, bs[j]? = some b ∧ b.testBit i = true := by
  unfold isB
  rw [nth_is]
  cases bs[j]? with
  | none => simp
  | some b =>
    simp only [Option.some.injEq, exists_eq_left']
    rw [nat_beq]
    unfold Nat.testBit
    have e : Nat.shiftRight b i = b >>> i := rfl
    have e2 : Nat.mod (b >>> i) 2 = (b >>> i) % 2 := rfl
    rw [e, e2]
    simp [Nat.and_one_is_mod, bne_iff_ne]
theorem edgeM_bit (acc : List Nat) (i : Nat) : ∀ (es : List Edge) (m : Nat), (edgeM acc m es).testBit i = true ↔ m.testBit i = true ∨ ∃ e ∈ es, Region.binds .any e = true ∧ (i = e.on ∨ ((acc[e.on]?).getD 0).testBit i = true)
  | [], m => by unfold edgeM; simp
  | e :: es, m => by
    unfold edgeM
    split
    · rename_i hb
      rw [edgeM_bit acc i es]
      have e1 : ∀ a b : Nat, Nat.lor a b = a ||| b := fun _ _ => rfl
      have e2 : Nat.shiftLeft 1 e.on = 1 <<< e.on := rfl
      rw [e1, e1, e2, nth_is, Nat.testBit_or, Nat.testBit_or, Nat.one_shiftLeft, Nat.testBit_two_pow]
      simp only [Bool.or_eq_true, decide_eq_true_eq, List.mem_cons, exists_eq_or_imp, hb, true_and]
      constructor
      · rintro ((h | h | h) | h)
        · exact .inl h
        · exact .inr (.inl (.inl h.symm))
        · exact .inr (.inl (.inr h))
        · exact .inr (.inr h)
      · rintro (h | (h | h) | h)
        · exact .inl (.inl h)
        · exact .inl (.inr (.inl h.symm))
        · exact .inl (.inr (.inr h))
        · exact .inr h
    · rename_i hb
      rw [edgeM_bit acc i es]
      simp only [List.mem_cons, exists_eq_or_imp, hb, Bool.false_eq_true, false_and, false_or]

theorem mem_zip {ops : List Oper} {o : Oper} {i : Nat} : (o, i) ∈ ops.zipIdx ↔ ops[i]? = some o := List.mem_zipIdx_iff_getElem?
theorem memN_iff {d : Nat} : ∀ {l : List Nat}, memN d l = true ↔ d ∈ l
  | [] => by simp [memN]
  | x :: l => by
    unfold memN
    split
    · rename_i hb
      have := nat_beq.1 hb
      simp [this]
    · rename_i hb
      have := beq_false hb
      rw [memN_iff, List.mem_cons]
      constructor
      · exact .inr
      · rintro (h | h)
        · exact absurd h.symm this
        · exact h

section
variable {ty : TTy} {all : List Oper} {bs : List Nat}

theorem edges_ok (hbs : bs = bsFrom [] all) (he : edgesOk all = true) : Edges all (fun i j => isB bs i j = true) := by
  have back : ∀ i o, all[i]? = some o → ∀ e ∈ o.after.toList, Region.binds .any e = true → e.on < i := by
    intro i o ho e hem hb
    unfold edgesOk at he
    rw [List.all_eq_true] at he
    have := he (o, i) (mem_zip.2 ho)
    simp only [List.all_eq_true] at this
    have := this e hem
    rw [hb] at this
    exact nat_blt.1 (by simpa using this)
  refine ⟨fun i o j ho hB => ?_, back⟩
  obtain ⟨b, hb1, hb2⟩ := isB_bit.1 hB
  have := bsFrom_at all [] i o ho
  rw [← hbs] at this
  simp only [List.length_nil, Nat.zero_add] at this
  rw [this] at hb1
  cases hb1
  rcases (edgeM_bit _ j _ _).1 hb2 with h | ⟨e, hem, hbe, hor⟩
  · simp at h
  · refine ⟨e, hem, hbe, hor.imp id fun h => ?_⟩
    have hlt := back i o ho e hem hbe
    rw [List.getElem?_take, if_pos hlt] at h
    cases hq : bs[e.on]? with
    | none => rw [hq] at h; simp at h
    | some c => rw [hq] at h; exact isB_bit.2 ⟨c, hq, h⟩
theorem isB_lt (hbs : bs = bsFrom [] all) (he : edgesOk all = true) : ∀ j i, isB bs i j = true → i < j := by
  have E := edges_ok hbs he
  intro j
  induction j using Nat.strongRecOn with
  | _ j ih =>
    intro i hB
    have hj : j < all.length := by
      obtain ⟨b, hb1, _⟩ := isB_bit.1 hB
      have := (List.getElem?_eq_some_iff.1 hb1).1
      rw [hbs, bsFrom_len] at this
      simpa using this
    obtain ⟨e, hem, hbe, hor⟩ := E.dec j _ i (List.getElem?_eq_getElem hj) hB
    have hlt := E.back j _ (List.getElem?_eq_getElem hj) e hem hbe
    rcases hor with rfl | h
    · exact hlt
    · have := ih e.on hlt i h; omega
theorem isB_two {i j : Nat} (h : isB bs (minN i j) (i + j - minN i j) = true) : isB bs i j = true ∨ isB bs j i = true := by
  rw [minN_is] at h
  rcases Nat.le_total i j with h1 | h1
  · rw [Nat.min_eq_left h1, show i + j - i = j by omega] at h; exact .inl h
  · rw [Nat.min_eq_right h1, show i + j - j = i by omega] at h; exact .inr h
theorem isB_not {i j : Nat} (h1 : isB bs i j ≠ true) (h2 : isB bs j i ≠ true) : isB bs (minN i j) (i + j - minN i j) = false := by
  cases h : isB bs (minN i j) (i + j - minN i j) with
  | false => rfl
  | true =>
    rcases isB_two h with h | h
    · exact absurd h h1
    · exact absurd h h2

theorem slots_ok (hs : slotsOk all bs = true) {i j : Nat} {oi oj : Oper} {d : Nat} (hij : i ≠ j) (hi : all[i]? = some oi) (hj : all[j]? = some oj) (hd : oi.dst = some d)
    (hn : oj.dst = some d ∨ .tmp d ∈ oj.op.operands.toList ∨ ∃ g w og, oj.guard = some (g, w) ∧ all[g]? = some og ∧ og.dst = some d) : isB bs i j = true ∨ isB bs j i = true := by
  unfold slotsOk at hs
  rw [List.all_eq_true] at hs
  have h1 := hs (oi, i) (mem_zip.2 hi)
  simp only [hd, List.all_eq_true] at h1
  have h2 := h1 (oj, j) (mem_zip.2 hj)
  simp only [Bool.or_eq_true, Bool.not_eq_true'] at h2
  rcases h2 with (h2 | h2) | h2
  · exact absurd (nat_beq.1 h2) hij
  · exact isB_two h2
  · exfalso
    have : memN d (oj.dst.toList ++ tmpsOf all oj) = true := by
      rw [memN_iff, List.mem_append]
      rcases hn with h | h | ⟨g, w, og, h, h3, h4⟩
      · left; rw [h]; simp
      · right
        unfold tmpsOf
        rw [List.mem_append]; left
        rw [List.mem_filterMap]
        exact ⟨_, h, rfl⟩
      · right
        unfold tmpsOf
        rw [List.mem_append]; right
        rw [h]
        simp only [nth_is, h3, h4]; simp
    rw [this] at h2; cases h2

/-- of two operations whose order is open -/
structure Held (ty : TTy) (all : List Oper) (xs : List Operand) (i j : Nat) (oi oj : Oper) : Prop where
  ww : ∀ x y, kd ty oi.op = .w x → kd ty oj.op ≠ .w y
  wq : ∀ x, kd ty oi.op = .w x → kd ty oj.op ≠ .q
  qw : ∀ y, kd ty oi.op = .q → kd ty oj.op ≠ .w y
  wr : ∀ x y, kd ty oi.op = .w x → kd ty oj.op = .r y → x ∈ xs ∧ ∃ t, x = .tmp t ∧ ∀ k o, i ≤ k → k < j → all[k]? = some o → o.dst ≠ some t
  rw' : ∀ x y, kd ty oi.op = .r x → kd ty oj.op = .w y → x ∈ xs ∧ ∃ t, x = .tmp t ∧ ∀ k o, i ≤ k → k < j → all[k]? = some o → o.dst ≠ some t

theorem heldP_ok {j i : Nat} {x : Operand} {rest : Option (List Operand)} {xs : List Operand} (h : heldP all j x i rest = some xs) :
    ∃ ys, rest = some ys ∧ xs = x :: ys ∧ ∃ t, x = .tmp t ∧ ∀ k o, i ≤ k → k < j → all[k]? = some o → o.dst ≠ some t := by
  unfold heldP at h
  split at h
  · rename_i t
    split at h
    · cases h
    · rename_i hany
      split at h
      · rename_i ys
        cases h
        refine ⟨ys, rfl, rfl, t, rfl, fun k o h1 h2 ho hd => ?_⟩
        rw [List.any_eq_false] at hany
        refine hany (o, k) (mem_zip.2 ho) ?_
        have e1 : Nat.ble i k = true := nat_ble.2 h1
        have e2 : Nat.blt k j = true := nat_blt.2 h2
        simp only [e1, e2, Bool.true_and]
        rw [memN_iff, hd]; simp
      · cases h
  · cases h

theorem apart_ok {j : Nat} {oj : Oper} : ∀ {l : List (Oper × Nat)} {xs : List Operand}, apart ty all bs j oj l = some xs → ∀ oi i, (oi, i) ∈ l → i < j → isB bs i j = false → Held ty all xs i j oi oj
  | [], xs, _, oi, i, hm, _, _ => by cases hm
  | (o, k) :: l, xs, h, oi, i, hm, hij, hB => by
    unfold apart at h
    have mono : ∀ {ys : List Operand} {x : Operand}, Held ty all ys i j oi oj → Held ty all (x :: ys) i j oi oj := fun h =>
      { h with wr := fun a b h1 h2 => (h.wr a b h1 h2).imp (List.mem_cons_of_mem _) id, rw' := fun a b h1 h2 => (h.rw' a b h1 h2).imp (List.mem_cons_of_mem _) id }
    rcases List.mem_cons.1 hm with he | hm
    · obtain ⟨e1, e2⟩ := Prod.mk.inj he
      subst e1
      subst e2
      have hc : (Nat.blt i j && !isB bs i j) = true := by rw [hB, nat_blt.2 hij]; rfl
      rw [hc] at h
      simp only at h
      unfold holdP at h
      split at h
      · rename_i hk
        exact ⟨(fun x y h1 => by rw [hk] at h1; cases h1), (fun x h1 => by rw [hk] at h1; cases h1), (fun y h1 => by rw [hk] at h1; cases h1), (fun x y h1 => by rw [hk] at h1; cases h1), (fun x y h1 => by rw [hk] at h1; cases h1)⟩
      · rename_i hk _
        exact ⟨(fun x y _ h1 => by rw [hk] at h1; cases h1), (fun x _ h1 => by rw [hk] at h1; cases h1), (fun y _ h1 => by rw [hk] at h1; cases h1), (fun x y _ h1 => by rw [hk] at h1; cases h1), (fun x y _ h1 => by rw [hk] at h1; cases h1)⟩
      · cases h
      · cases h
      · cases h
      · rename_i hk1 hk2
        obtain ⟨ys, _, rfl, t, ht, hw⟩ := heldP_ok h
        exact ⟨(fun x y _ h1 => by rw [hk2] at h1; cases h1), (fun x _ h1 => by rw [hk2] at h1; cases h1), (fun y h1 => by rw [hk1] at h1; cases h1), (fun x y h1 _ => by rw [hk1] at h1; cases h1; exact ⟨List.mem_cons_self, t, ht, hw⟩), (fun x y h1 => by rw [hk1] at h1; cases h1)⟩
      · rename_i hk1 hk2
        obtain ⟨ys, _, rfl, t, ht, hw⟩ := heldP_ok h
        exact ⟨(fun x y h1 => by rw [hk1] at h1; cases h1), (fun x h1 => by rw [hk1] at h1; cases h1), (fun y h1 => by rw [hk1] at h1; cases h1), (fun x y h1 => by rw [hk1] at h1; cases h1), (fun x y h1 _ => by rw [hk1] at h1; cases h1; exact ⟨List.mem_cons_self, t, ht, hw⟩)⟩
      · rename_i q1 q2 q3 q4 q5 q6 q7
        exact ⟨fun x y h1 h2 => q3 x y h1 h2, fun x h1 h2 => q4 x h1 h2, fun y h1 h2 => q5 y h1 h2, fun x y h1 h2 => (q6 x y h1 h2).elim, fun x y h1 h2 => (q7 x y h1 h2).elim⟩
    · split at h
      · exact apart_ok h oi i hm hij hB
      · unfold holdP at h
        split at h
        · exact apart_ok h oi i hm hij hB
        · exact apart_ok h oi i hm hij hB
        · cases h
        · cases h
        · cases h
        · obtain ⟨ys, h1, rfl, _⟩ := heldP_ok h
          exact mono (apart_ok h1 oi i hm hij hB)
        · obtain ⟨ys, h1, rfl, _⟩ := heldP_ok h
          exact mono (apart_ok h1 oi i hm hij hB)
        · exact apart_ok h oi i hm hij hB

theorem loose_of {j i : Nat} {o : Oper} {ask : Nat → Kd → Bool} (ho : all[i]? = some o) (hij : i ≠ j) (h1 : isB bs i j ≠ true) (h2 : isB bs j i ≠ true) (ha : ask i (kd ty o.op) = true) : loose ty all bs j ask = true := by
  unfold loose
  rw [List.any_eq_true]
  refine ⟨(o, i), mem_zip.2 ho, ?_⟩
  have hb : Nat.beq i j = false := by
    cases hb : Nat.beq i j with
    | false => rfl
    | true => exact absurd (nat_beq.1 hb) hij
  simp only [hb, Bool.not_false, Bool.true_and, isB_not h1 h2, ha]

/-- what is done ahead of an operation -/
inductive AhIs (ty : TTy) (all : List Oper) (bs : List Nat) (j : Nat) (o : Oper) (xs : List Operand) : Ahead → Prop
  | strong (hk : kd ty o.op = .q) (hs : strongQ ty all bs j = true) : AhIs ty all bs j o xs (.quiet .strong)
  | weak (hk : kd ty o.op = .q) (hs : strongQ ty all bs j = false) : AhIs ty all bs j o xs (.quiet .weak)
  | free (hk : kd ty o.op = .q) (hs : strongQ ty all bs j = false) (hl : looseQ ty all bs j = false) : AhIs ty all bs j o xs (.quiet .free)
  | alloc (hk : kd ty o.op = .a) : AhIs ty all bs j o xs (.quiet .strong)
  | read {x : Operand} (hk : kd ty o.op = .r x) : AhIs ty all bs j o xs (chkOf (loose ty all bs j fun i k => isQ k && !(strongQ ty all bs i)) x xs)
  | write {x : Operand} (hk : kd ty o.op = .w x) : AhIs ty all bs j o xs (.wr x xs)
  | wfree {x : Operand} (hk : kd ty o.op = .w x) (hl : (loose ty all bs j fun _ k => isR k) = false) : AhIs ty all bs j o xs (.quiet .free)
  | plain (hk : kd ty o.op = .p) : AhIs ty all bs j o xs .plain
theorem aheadOf_ok {j : Nat} {o : Oper} {ah : Ahead} (h : aheadOf ty all bs j o = some ah) : ∃ xs, apart ty all bs j o all.zipIdx = some xs ∧ AhIs ty all bs j o xs ah := by
  unfold aheadOf at h
  split at h
  · cases h
  · rename_i xs hx
    refine ⟨xs, hx, ?_⟩
    split at h
    · rename_i hk
      split at h
      · rename_i hs; cases h; exact .strong hk hs
      · rename_i hs _; cases h; exact .weak hk hs
      · rename_i hs hl; cases h; exact .free hk hs hl
    · rename_i hk; cases h; exact .alloc hk
    · rename_i hk; cases h; exact .read hk
    · rename_i hk
      split at h
      · cases h; exact .write hk
      · rename_i hl; cases h; exact .wfree hk hl
    · rename_i q1 q2 q3 q4
      cases h
      refine .plain ?_
      cases hk : kd ty o.op with
      | p => rfl
      | a => exact absurd hk q2
      | r x => exact absurd hk (q3 x)
      | w x => exact absurd hk (q4 x)
      | q => exact absurd hk q1
theorem aheads_ok : ∀ {l : List Oper} {j : Nat} {ahs : List Ahead}, aheads ty all bs j l = some ahs → ∀ k o, l[k]? = some o → aheadOf ty all bs (j + k) o = some (ahs.getD k .plain)
  | [], j, ahs, h, k, o, hk => by cases hk
  | o' :: l, j, ahs, h, k, o, hk => by
    unfold aheads at h
    split at h
    · rename_i a ha
      split at h
      · rename_i r hr
        cases h
        cases k with
        | zero => cases hk; exact ha
        | succ k =>
          have := aheads_ok hr k o hk
          have e : j + (k + 1) = j.succ + k := by omega
          rw [e]; exact this
      · cases h
    · cases h

theorem chkOf_is {old : Bool} {x : Operand} {xs : List Operand} : (chkOf old x xs = .plain ∧ old = false ∧ xs = []) ∨ chkOf old x xs = .chk old x xs := by
  unfold chkOf
  cases old <;> cases xs <;> first | exact .inl ⟨rfl, rfl, rfl⟩ | exact .inr rfl
theorem AhIs.ok {j : Nat} {o : Oper} {xs : List Operand} {ah : Ahead} (h : AhIs ty all bs j o xs ah) : AhOk ty o ah := by
  cases h with
  | strong hk _ => exact ⟨(fun _ _ h => by rw [hk] at h; rcases h with h | ⟨_, h⟩ <;> cases h), (fun _ _ h => by cases h), (fun _ _ _ h => by cases h)⟩
  | weak hk _ => exact ⟨(fun _ _ h => by rw [hk] at h; rcases h with h | ⟨_, h⟩ <;> cases h), (fun _ _ h => by cases h), (fun _ _ _ h => by cases h)⟩
  | free hk _ _ => exact ⟨(fun _ _ h => by rw [hk] at h; rcases h with h | ⟨_, h⟩ <;> cases h), (fun _ _ h => by cases h), (fun _ _ _ h => by cases h)⟩
  | alloc hk => exact ⟨(fun _ _ h => by rw [hk] at h; rcases h with h | ⟨_, h⟩ <;> cases h), (fun _ _ h => by cases h), (fun _ _ _ h => by cases h)⟩
  | read hk =>
    rcases chkOf_is (old := loose ty all bs j fun i k => isQ k && !(strongQ ty all bs i)) (xs := xs) with ⟨h, _⟩ | h
    · rw [h]; exact .plain ty o
    · rw [h]; exact ⟨(fun _ h => by cases h), (fun _ _ h => by cases h), (fun _ _ _ h => by cases h; exact hk)⟩
  | write hk => exact ⟨(fun _ h => by cases h), (fun _ _ h => by cases h; exact hk), (fun _ _ _ h => by cases h)⟩
  | wfree hk _ => exact ⟨(fun _ _ h => by rw [hk] at h; rcases h with h | ⟨_, h⟩ <;> cases h), (fun _ _ h => by cases h), (fun _ _ _ h => by cases h)⟩
  | plain hk => exact .plain ty o
theorem AhIs.tame {j : Nat} {o : Oper} {xs : List Operand} {ah : Ahead} (h : AhIs ty all bs j o xs ah) : Tame ty o ah := by
  cases h with
  | read hk => exact .inl (.inr ⟨_, hk⟩)
  | plain hk => exact .inl (.inl hk)
  | _ => exact .inr ⟨(fun h => by cases h), (fun _ _ _ h => by cases h)⟩
end
end Go.Proofs.Ytkafejncffinmaa
