/-
  Numbers of seven bits to a byte, and a move's bytes: what is written is read, and what is read is what is written.
  bytes.Uint and bytes.GetUint: what they give, for any number, any bytes.
  What is right, what is the same, copies: what these functions give, whatever they are handed.
  Placements: where something stands, copies, what is right: what these functions give, whatever they are handed.
  Placements that are right, and searches through them: what these functions give.
  A placement that hinders no move: what the function gives.
  place.Move: what it gives, where no placement hinders.
  place.Move: the whole.
  Maps of numbers to 1: what is looked up in them, what is put into them.
-/
import Derived.Test.YtkafejncffinmaaSymM
import Derived.Test.YtkafejncffinmaaEnv
import Derived.Test.YtkafejncffinmaaVals
set_option linter.unusedVariables false
set_option linter.unusedSimpArgs false
namespace Go.Proofs.Ytkafejncffinmaa
open Go

/-! ### numbers -/
def uintL (n : Nat) : List Nat := if h : n < 128 then [n] else (n % 128 + 128) :: uintL (n / 128)
termination_by n
decreasing_by exact Nat.div_lt_self (by omega) (by omega)
theorem uintL_lo {n : Nat} (h : n < 128) : uintL n = [n] := by rw [uintL, dif_pos h]
theorem uintL_hi {n : Nat} (h : 128 ≤ n) : uintL n = (n % 128 + 128) :: uintL (n / 128) := by rw [uintL, dif_neg (by omega)]
theorem uintL_lt : ∀ (n x : Nat), x ∈ uintL n → x < 256 := by
  intro n
  induction n using Nat.strongRecOn with
  | _ n ih =>
    intro x hx
    by_cases h : n < 128
    · rw [uintL_lo h, List.mem_singleton] at hx
      omega
    · rw [uintL_hi (by omega)] at hx
      rcases List.mem_cons.1 hx with rfl | hx
      · omega
      · exact ih (n / 128) (Nat.div_lt_self (by omega) (by omega)) x hx
theorem uintL_pos (n : Nat) : 0 < (uintL n).length := by
  by_cases h : n < 128
  · rw [uintL_lo h]; exact Nat.one_pos
  · rw [uintL_hi (by omega)]; exact Nat.succ_pos _
theorem uintL_len : ∀ (k n : Nat), n < 128 ^ (k + 1) → (uintL n).length ≤ k + 1
  | 0, n, h => by
    have h : n < 128 := by simpa using h
    rw [uintL_lo h]; exact Nat.le_refl _
  | k + 1, n, h => by
    by_cases h1 : n < 128
    · rw [uintL_lo h1]; show 1 ≤ _; omega
    · rw [uintL_hi (by omega), List.length_cons]
      have h2 : n < 128 * 128 ^ (k + 1) := by rw [Nat.pow_succ] at h; rw [Nat.mul_comm]; exact h
      have := uintL_len k (n / 128) (Nat.div_lt_of_lt_mul h2)
      omega
theorem uintL_ten {n : Nat} (h : n < 18446744073709551616) : (uintL n).length ≤ 10 := uintL_len 9 n (by
  have : (128 : Nat) ^ (9 + 1) = 1180591620717411303424 := by decide
  rw [this]; omega)
/-- the number that bytes begin with, of which k have been read: and how many bytes it has -/
def uget : Nat → Nat → List Nat → Option (Nat × Nat)
  | _, _, [] => none
  | k, acc, c :: r => if (0 < k ∧ c = 0) ∨ (8 < k ∧ 1 < c) then none else if c < 128 then some (acc + c * 2 ^ (7 * k), k + 1) else uget (k + 1) (acc + c % 128 * 2 ^ (7 * k)) r
theorem pow_step (k : Nat) : 2 ^ (7 * (k + 1)) = 128 * 2 ^ (7 * k) := by
  rw [show 7 * (k + 1) = 7 + 7 * k by omega, Nat.pow_add, show (2 : Nat) ^ 7 = 128 from rfl]
theorem pow_left {k : Nat} (hk : k ≤ 8) : 2 ^ (64 - 7 * k) = 128 * 2 ^ (64 - 7 * (k + 1)) := by
  rw [show 64 - 7 * k = 7 + (64 - 7 * (k + 1)) by omega, Nat.pow_add, show (2 : Nat) ^ 7 = 128 from rfl]
theorem uget_put : ∀ (n k acc : Nat) (r : List Nat), k ≤ 9 → n < 2 ^ (64 - 7 * k) → (0 < k → n ≠ 0) → uget k acc (uintL n ++ r) = some (acc + n * 2 ^ (7 * k), k + (uintL n).length) := by
  intro n
  induction n using Nat.strongRecOn with
  | _ n ih =>
    intro k acc r hk hn h0
    by_cases h : n < 128
    · rw [uintL_lo h]
      show uget k acc (n :: r) = _
      have h1 : ¬ ((0 < k ∧ n = 0) ∨ (8 < k ∧ 1 < n)) := by
        rintro (⟨a, b⟩ | ⟨a, b⟩)
        · exact h0 a b
        · have : k = 9 := by omega
          subst this
          have : n < 2 := hn
          omega
      rw [uget, if_neg h1, if_pos h]; rfl
    · have hk8 : k ≤ 8 := by
        rcases Nat.lt_or_ge k 9 with h1 | h1
        · omega
        · have : k = 9 := by omega
          subst this
          have : n < 2 := hn
          omega
      rw [uintL_hi (by omega)]
      show uget k acc ((n % 128 + 128) :: (uintL (n / 128) ++ r)) = _
      have h1 : ¬ ((0 < k ∧ n % 128 + 128 = 0) ∨ (8 < k ∧ 1 < n % 128 + 128)) := by omega
      have h2 : ¬ n % 128 + 128 < 128 := by omega
      rw [uget, if_neg h1, if_neg h2]
      have hlt : n / 128 < 2 ^ (64 - 7 * (k + 1)) := by
        rw [pow_left hk8] at hn
        exact Nat.div_lt_of_lt_mul hn
      rw [ih (n / 128) (Nat.div_lt_self (by omega) (by omega)) (k + 1) _ r (by omega) hlt (by omega)]
      have e2 : (n % 128 + 128) % 128 = n % 128 := by omega
      have e4 : acc + n % 128 * 2 ^ (7 * k) + n / 128 * (128 * 2 ^ (7 * k)) = acc + n * 2 ^ (7 * k) := by
        have e5 : n * 2 ^ (7 * k) = (128 * (n / 128) + n % 128) * 2 ^ (7 * k) := by rw [Nat.div_add_mod]
        rw [e5, Nat.add_mul, Nat.mul_comm 128 (n / 128), Nat.mul_assoc]; omega
      rw [e2, pow_step, e4, List.length_cons, show k + 1 + (uintL (n / 128)).length = k + ((uintL (n / 128)).length + 1) by omega]
theorem uget_get : ∀ (l : List Nat) (k acc v j : Nat), k ≤ 9 → (∀ x ∈ l, x < 256) → uget k acc l = some (v, j) → ∃ n r, l = uintL n ++ r ∧ v = acc + n * 2 ^ (7 * k) ∧ j = k + (uintL n).length ∧ (0 < k → n ≠ 0) ∧ n < 2 ^ (64 - 7 * k)
  | [], k, acc, v, j, _, _, h => by cases h
  | c :: r, k, acc, v, j, hk, hb, h => by
    rw [uget] at h
    split at h
    · cases h
    · rename_i h1
      split at h
      · rename_i h2
        cases h
        refine ⟨c, r, by rw [uintL_lo h2]; rfl, rfl, by rw [uintL_lo h2]; rfl, by omega, ?_⟩
        rcases Nat.lt_or_ge k 9 with h3 | h3
        · have h4 : 2 ^ 8 ≤ 2 ^ (64 - 7 * k) := Nat.pow_le_pow_right (by omega) (by omega)
          have h5 : (2 : Nat) ^ 8 = 256 := rfl
          omega
        · have : k = 9 := by omega
          subst this
          show c < 2
          omega
      · rename_i h2
        have hk8 : k ≤ 8 := by omega
        obtain ⟨n, q, rfl, e2, e3, e4, e5⟩ := uget_get r (k + 1) _ v j (by omega) (fun x hx => hb x (List.mem_cons_of_mem _ hx)) h
        have hc := hb c List.mem_cons_self
        have hn : n ≠ 0 := e4 (Nat.succ_pos k)
        have hi : uintL (c % 128 + 128 * n) = c :: uintL n := by
          rw [uintL_hi (by omega)]
          have a1 : (c % 128 + 128 * n) % 128 + 128 = c := by omega
          have a2 : (c % 128 + 128 * n) / 128 = n := by omega
          rw [a1, a2]
        refine ⟨c % 128 + 128 * n, q, by rw [hi]; rfl, ?_, ?_, fun _ => by omega, ?_⟩
        · have e6 : n * (128 * 2 ^ (7 * k)) = 128 * n * 2 ^ (7 * k) := by rw [← Nat.mul_assoc, Nat.mul_comm n 128]
          rw [e2, pow_step, Nat.add_mul, e6]; omega
        · rw [e3, hi, List.length_cons]; omega
        · rw [pow_left hk8]; omega
theorem ug_put {v : Nat} (h : v < 18446744073709551616) (r : List Nat) : uget 0 0 (uintL v ++ r) = some (v, (uintL v).length) := by
  have := uget_put v 0 0 r (by omega) h (by omega)
  simpa using this
theorem ug_get {l : List Nat} {v j : Nat} (hb : ∀ x ∈ l, x < 256) (h : uget 0 0 l = some (v, j)) : l = uintL v ++ l.drop j ∧ j = (uintL v).length ∧ v < 18446744073709551616 := by
  obtain ⟨n, r, e1, e2, e3, _, e5⟩ := uget_get l 0 0 v j (by omega) hb h
  have hv : v = n := by simpa using e2
  subst hv
  have hj : j = (uintL v).length := by simpa using e3
  have e5 : v < 18446744073709551616 := e5
  refine ⟨?_, hj, e5⟩
  subst e1
  rw [hj, List.drop_left]
theorem ug_le {l : List Nat} {v j : Nat} (hb : ∀ x ∈ l, x < 256) (h : uget 0 0 l = some (v, j)) : j ≤ l.length := by
  obtain ⟨e1, e2, _⟩ := ug_get hb h
  have := congrArg List.length e1
  rw [List.length_append] at this
  omega

/-! ### moves -/
def risingL : Int → List Int → Bool
  | _, [] => true
  | p, n :: l => decide (0 ≤ n ∧ n ≤ 1099511627776 ∧ p < n) && risingL n l
def rightB (f t : Int) (zs : List Int) : Bool := decide (0 ≤ f ∧ f < 256 ∧ 0 ≤ t ∧ t < 256 ∧ f ≠ t ∧ zs.length ≤ 10000) && risingL (-1) zs
def deltas : Int → List Int → List Nat
  | _, [] => []
  | last, n :: l => uintL (n - last).toNat ++ deltas n l
def bytesL (f t : Int) (zs : List Int) : List Nat := uintL f.toNat ++ (uintL t.toNat ++ (uintL zs.length ++ deltas 0 zs))
def readN : Nat → Int → List Nat → Option (List Int × List Nat)
  | 0, _, r => some ([], r)
  | k + 1, last, r => match uget 0 0 r with
    | none => none
    | some (n, j) => if n ≤ 1099511627776 ∧ last + n ≤ 1099511627776 then (match readN k (last + n) (r.drop j) with
      | some (xs, q) => some ((last + n) :: xs, q)
      | none => none) else none
def readA (l : List Nat) : Option (Int × Int × List Int × List Nat) := match uget 0 0 l with
  | none => none
  | some (f, j) => if f ≤ 256 then (match uget 0 0 (l.drop j) with
    | none => none
    | some (t, j2) => if t ≤ 256 then (match uget 0 0 ((l.drop j).drop j2) with
      | none => none
      | some (m, j3) => if m ≤ 10000 then (match readN m 0 (((l.drop j).drop j2).drop j3) with
        | none => none
        | some (xs, q) => some ((f : Int), (t : Int), xs, q)) else none) else none) else none
def readL (l : List Nat) : Option (Int × Int × List Int) := match readA l with
  | some (f, t, xs, []) => if rightB f t xs = true then some (f, t, xs) else none
  | _ => none
theorem deltas_lt : ∀ (zs : List Int) (last : Int) (x : Nat), x ∈ deltas last zs → x < 256
  | [], _, x, h => by cases h
  | n :: l, last, x, h => by
    rcases List.mem_append.1 h with h | h
    · exact uintL_lt _ x h
    · exact deltas_lt l n x h
theorem bytesL_lt (f t : Int) (zs : List Int) (x : Nat) (h : x ∈ bytesL f t zs) : x < 256 := by
  rcases List.mem_append.1 h with h | h
  · exact uintL_lt _ x h
  rcases List.mem_append.1 h with h | h
  · exact uintL_lt _ x h
  rcases List.mem_append.1 h with h | h
  · exact uintL_lt _ x h
  exact deltas_lt _ _ x h
theorem bytesL_pos (f t : Int) (zs : List Int) : 0 < (bytesL f t zs).length := by
  have := uintL_pos f.toNat
  unfold bytesL
  rw [List.length_append]; omega
theorem drop_len (a b : List Nat) : (a ++ b).drop a.length = b := List.drop_left
theorem readN_put : ∀ (zs : List Int) (p last : Int) (r : List Nat), risingL p zs = true → (p = last ∨ p = -1 ∧ last = 0) → 0 ≤ last → readN zs.length last (deltas last zs ++ r) = some (zs, r)
  | [], p, last, r, _, _, _ => rfl
  | n :: l, p, last, r, h, hp, h0 => by
    unfold risingL at h
    rw [Bool.and_eq_true, decide_eq_true_eq] at h
    obtain ⟨⟨h1, h2, h3⟩, h4⟩ := h
    have e : ((n - last).toNat : Int) = n - last := Int.toNat_of_nonneg (by omega)
    have hd : (n - last).toNat ≤ 1099511627776 := by omega
    show readN (l.length + 1) last ((uintL (n - last).toNat ++ deltas n l) ++ r) = _
    rw [List.append_assoc]
    unfold readN
    rw [ug_put (by omega)]
    simp only
    rw [if_pos ⟨hd, by omega⟩, drop_len, show last + ((n - last).toNat : Int) = n by omega, readN_put l n n r h4 (.inl rfl) h1]
theorem readN_get : ∀ (k : Nat) (last : Int) (l : List Nat) (xs : List Int) (q : List Nat), (∀ x ∈ l, x < 256) → readN k last l = some (xs, q) → l = deltas last xs ++ q ∧ xs.length = k
  | 0, last, l, xs, q, _, h => by cases h; exact ⟨rfl, rfl⟩
  | k + 1, last, l, xs, q, hb, h => by
    unfold readN at h
    split at h
    · cases h
    rename_i n j hu
    split at h
    case isFalse => cases h
    split at h
    case h_2 => cases h
    rename_i ys q' hr
    cases h
    obtain ⟨e1, e2, _⟩ := ug_get hb hu
    obtain ⟨e3, e4⟩ := readN_get k (last + n) (l.drop j) ys q (fun x hx => hb x (List.mem_of_mem_drop hx)) hr
    refine ⟨?_, by rw [List.length_cons, e4]⟩
    show l = (uintL (last + (n : Int) - last).toNat ++ deltas (last + n) ys) ++ q
    rw [show (last + (n : Int) - last).toNat = n by omega, List.append_assoc, ← e3, ← e1]
theorem right_parts {f t : Int} {zs : List Int} (h : rightB f t zs = true) : 0 ≤ f ∧ f < 256 ∧ 0 ≤ t ∧ t < 256 ∧ f ≠ t ∧ zs.length ≤ 10000 ∧ risingL (-1) zs = true := by
  unfold rightB at h
  rw [Bool.and_eq_true, decide_eq_true_eq] at h
  obtain ⟨⟨a, b, c, d, e, g⟩, k⟩ := h
  exact ⟨a, b, c, d, e, g, k⟩
theorem readA_put {f t : Int} {zs : List Int} (h : rightB f t zs = true) (r : List Nat) : readA (bytesL f t zs ++ r) = some (f, t, zs, r) := by
  obtain ⟨h1, h2, h3, h4, _, h5, h6⟩ := right_parts h
  have ef : ((f.toNat : Nat) : Int) = f := Int.toNat_of_nonneg h1
  have et : ((t.toNat : Nat) : Int) = t := Int.toNat_of_nonneg h3
  have e0 : bytesL f t zs ++ r = uintL f.toNat ++ (uintL t.toNat ++ (uintL zs.length ++ (deltas 0 zs ++ r))) := by
    unfold bytesL
    simp only [List.append_assoc]
  rw [e0]
  unfold readA
  rw [ug_put (by omega)]
  simp only
  rw [if_pos (by omega), drop_len, ug_put (by omega)]
  simp only
  rw [if_pos (by omega), drop_len, ug_put (by omega)]
  simp only
  rw [if_pos h5, drop_len, readN_put zs (-1) 0 r h6 (.inr ⟨rfl, rfl⟩) (by omega)]
  simp only
  rw [ef, et]
theorem readA_get {l : List Nat} (hb : ∀ x ∈ l, x < 256) {f t : Int} {xs : List Int} {q : List Nat} (h : readA l = some (f, t, xs, q)) : l = bytesL f t xs ++ q := by
  unfold readA at h
  split at h
  · cases h
  rename_i f' j hf
  split at h
  case isFalse => cases h
  split at h
  · cases h
  rename_i t' j2 ht
  split at h
  case isFalse => cases h
  split at h
  · cases h
  rename_i m j3 hm
  split at h
  case isFalse => cases h
  split at h
  · cases h
  rename_i ys q' hr
  cases h
  have b1 : ∀ x ∈ l.drop j, x < 256 := fun x hx => hb x (List.mem_of_mem_drop hx)
  have b2 : ∀ x ∈ (l.drop j).drop j2, x < 256 := fun x hx => b1 x (List.mem_of_mem_drop hx)
  have b3 : ∀ x ∈ ((l.drop j).drop j2).drop j3, x < 256 := fun x hx => b2 x (List.mem_of_mem_drop hx)
  obtain ⟨e1, _⟩ := ug_get hb hf
  obtain ⟨e2, _⟩ := ug_get b1 ht
  obtain ⟨e3, _⟩ := ug_get b2 hm
  obtain ⟨e4, e5⟩ := readN_get m 0 _ xs q b3 hr
  have : bytesL (f' : Int) (t' : Int) xs ++ q = uintL f' ++ (uintL t' ++ (uintL m ++ (deltas 0 xs ++ q))) := by
    unfold bytesL
    simp only [List.append_assoc, Int.toNat_natCast, e5]
  rw [this, ← e4, ← e3, ← e2, ← e1]
theorem readL_put {f t : Int} {zs : List Int} (h : rightB f t zs = true) : readL (bytesL f t zs) = some (f, t, zs) := by
  have := readA_put h []
  rw [List.append_nil] at this
  unfold readL
  rw [this]
  simp only
  rw [if_pos h]
theorem readL_get {l : List Nat} (hb : ∀ x ∈ l, x < 256) {f t : Int} {zs : List Int} (h : readL l = some (f, t, zs)) : rightB f t zs = true ∧ l = bytesL f t zs := by
  unfold readL at h
  split at h
  case h_2 => cases h
  rename_i f' t' xs hr
  split at h
  case isFalse => cases h
  rename_i hok
  cases h
  have := readA_get hb hr
  rw [List.append_nil] at this
  exact ⟨hok, this⟩
/-- cut, there is none -/
theorem readL_cut {f t : Int} {zs : List Int} (h : rightB f t zs = true) {k : Nat} (hk : k < (bytesL f t zs).length) : readL ((bytesL f t zs).take k) = none := by
  cases hr : readL ((bytesL f t zs).take k) with
  | none => rfl
  | some m =>
    obtain ⟨f', t', ys⟩ := m
    exfalso
    obtain ⟨h1, h2⟩ := readL_get (fun x hx => bytesL_lt f t zs x (List.mem_of_mem_take hx)) hr
    have e1 := readA_put h []
    have e2 := readA_put h1 ((bytesL f t zs).drop k)
    rw [← h2, List.take_append_drop] at e2
    rw [List.append_nil, e2] at e1
    have e3 : (bytesL f t zs).drop k = [] := by
      injection e1 with e1
      injection e1 with _ e1
      injection e1 with _ e1
      injection e1
    have := congrArg List.length e3
    rw [List.length_drop, List.length_nil] at this
    omega
/-- with a byte more, there is none -/
theorem readL_more {f t : Int} {zs : List Int} (h : rightB f t zs = true) {x : Nat} (hx : x < 256) : readL (bytesL f t zs ++ [x]) = none := by
  cases hr : readL (bytesL f t zs ++ [x]) with
  | none => rfl
  | some m =>
    obtain ⟨f', t', ys⟩ := m
    exfalso
    obtain ⟨h1, h2⟩ := readL_get (fun y hy => by
      rcases List.mem_append.1 hy with hy | hy
      · exact bytesL_lt f t zs y hy
      · rw [List.mem_singleton] at hy; omega) hr
    have e1 := readA_put h [x]
    have e2 := readA_put h1 []
    rw [List.append_nil, ← h2, e1] at e2
    injection e2 with e2
    injection e2 with _ e2
    injection e2 with _ e2
    injection e2 with _ e2
    cases e2
end Go.Proofs.Ytkafejncffinmaa
set_option linter.unusedVariables false
set_option linter.unusedSimpArgs false
namespace Go.Proofs.Ytkafejncffinmaa
open Go
set_option maxRecDepth 100000
theorem zero5 : repL ty5.zero 1 = [.int .u8 0] := by kernel_rfl
theorem zero3 : repL ty3.zero 1 = [.int .i64 0] := by kernel_rfl

end Go.Proofs.Ytkafejncffinmaa
set_option linter.unusedVariables false
set_option linter.unusedSimpArgs false
namespace Go.Proofs.Ytkafejncffinmaa
open Go
set_option maxRecDepth 100000

/-! ### rising -/
noncomputable def rB : C := (cOp (slotT 8) (oCmp iLt .i64 (slotG 7) (slotG 6))
(cCond (slotG 8)
(cSeq (cBlock 1 (cOp (slotT 10) (oIdx 1 (slotG 5) (slotG 7))
(cOp (slotT 11) (oLoad1 (slotG 10))
(cOp (slotT 3) (oMove (slotG 7))
(cOp (slotT 4) (oMove (slotG 11))
(cOp (slotT 13) (oCmp iLt .i64 (slotG 4) (kV (.int .i64 0)))
(cG (slotG 13) false (slotT 15) (oMove (slotG 4))
(cG (slotG 13) false (slotT 16) (oCmp iGt .i64 (slotG 15) (kV (.int .i64 1099511627776)))
(cOp (slotT 17) (oPick (slotG 13) (kV (.bool true)) (slotG 16))
(cG (slotG 17) false (slotT 19) (oMove (slotG 3))
(cG (slotG 17) false (slotT 20) (oCmp iGt .i64 (slotG 19) (kV (.int .i64 0)))
(cG (slotG 17) false (slotT 21) (oMove (slotG 20))
(cG (slotG 21) true (slotT 22) (oMove (slotG 4))
(cG (slotG 21) true (slotT 23) (oMove (slotG 0))
(cG (slotG 21) true (slotT 24) (oMove (slotG 3))
(cG (slotG 21) true (slotT 25) (oAri Int.sub .i64 (slotG 24) (kV (.int .i64 1)))
(cG (slotG 21) true (slotT 26) (oIdx 1 (slotG 23) (slotG 25))
(cG (slotG 21) true (slotT 27) (oLoad1 (slotG 26))
(cG (slotG 21) true (slotT 28) (oCmp iLe .i64 (slotG 22) (slotG 27))
(cG (slotG 17) false (slotT 29) (oPick (slotG 21) (slotG 28) (kV (.bool false)))
(cOp (slotT 30) (oPick (slotG 17) (kV (.bool true)) (slotG 29))
(cCond (slotG 30)
(cOp (slotT 2) (oMove (kV (.bool false)))
cRet)
cNorm))))))))))))))))))))))
(cOp (slotT 31) (oAdd .i64 (topOf .i64) (slotG 7) (kV (.int .i64 1)))
(cOp (slotT 7) (oMove (slotG 31))
cNorm)))
(cExit 0)))
noncomputable def rE : C := (cOp (slotT 2) (oMove (kV (.bool true)))
cRet)
noncomputable def rT : C := (cCond (slotG 30)
(cOp (slotT 2) (oMove (kV (.bool false)))
cRet)
cNorm)
noncomputable def rG (K : C) : C := (cOp (slotT 13) (oCmp iLt .i64 (slotG 4) (kV (.int .i64 0)))
(cG (slotG 13) false (slotT 15) (oMove (slotG 4))
(cG (slotG 13) false (slotT 16) (oCmp iGt .i64 (slotG 15) (kV (.int .i64 1099511627776)))
(cOp (slotT 17) (oPick (slotG 13) (kV (.bool true)) (slotG 16))
(cG (slotG 17) false (slotT 19) (oMove (slotG 3))
(cG (slotG 17) false (slotT 20) (oCmp iGt .i64 (slotG 19) (kV (.int .i64 0)))
(cG (slotG 17) false (slotT 21) (oMove (slotG 20))
(cG (slotG 21) true (slotT 22) (oMove (slotG 4))
(cG (slotG 21) true (slotT 23) (oMove (slotG 0))
(cG (slotG 21) true (slotT 24) (oMove (slotG 3))
(cG (slotG 21) true (slotT 25) (oAri Int.sub .i64 (slotG 24) (kV (.int .i64 1)))
(cG (slotG 21) true (slotT 26) (oIdx 1 (slotG 23) (slotG 25))
(cG (slotG 21) true (slotT 27) (oLoad1 (slotG 26))
(cG (slotG 21) true (slotT 28) (oCmp iLe .i64 (slotG 22) (slotG 27))
(cG (slotG 17) false (slotT 29) (oPick (slotG 21) (slotG 28) (kV (.bool false)))
(cOp (slotT 30) (oPick (slotG 17) (kV (.bool true)) (slotG 29))
K))))))))))))))))
theorem d30_is : d30 = cOp (slotT 2) (oMove (kV (.bool false))) (cOp (slotT 5) (oMove (slotG 0)) (cOp (slotT 6) (oLenS (slotG 5)) (cOp (slotT 7) (oMove (kV (.int .i64 0))) (cSeq (cBlock 0 (cLoop rB)) rE)))) := rfl
theorem rB_is : rB = cOp (slotT 8) (oCmp iLt .i64 (slotG 7) (slotG 6)) (cCond (slotG 8) (cSeq (cBlock 1 (cOp (slotT 10) (oIdx 1 (slotG 5) (slotG 7)) (cOp (slotT 11) (oLoad1 (slotG 10)) (cOp (slotT 3) (oMove (slotG 7)) (cOp (slotT 4) (oMove (slotG 11)) (rG rT)))))) (cOp (slotT 31) (oAdd .i64 (topOf .i64) (slotG 7) (kV (.int .i64 1))) (cOp (slotT 7) (oMove (slotG 31)) cNorm))) (cExit 0)) := rfl
theorem rG_is {K : C} {F : CallF} {h : Hp} {e : Env} {u : Value} {z q : Int} {i : Nat} {b1 b2 b3 b4 : Bool} (s0 : slotG 0 e = u) (s3 : slotG 3 e = .int .i64 (i : Int)) (s4 : slotG 4 e = .int .i64 z) (f1 : iLt z 0 = b1) (f2 : iGt z 1099511627776 = b2) (f3 : iGt (i : Int) 0 = b3)
    (g : b3 = true → ∃ j a, ariR Int.sub .i64 (.int .i64 (i : Int)) (.int .i64 1) h = .ok j h ∧ idxSR 1 u j h = .ok (.pointer (some a)) h ∧ loadR (.pointer (some a)) h = .ok (.int .i64 q) h ∧ iLe z q = b4) :
    ∃ e', rG K F e h = K F e' h ∧ slotG 30 e' = .bool ((b1 || b2) || (b3 && b4)) ∧ slotG 0 e' = slotG 0 e ∧ slotG 5 e' = slotG 5 e ∧ slotG 6 e' = slotG 6 e ∧ slotG 7 e' = slotG 7 e := by
  unfold rG
  cases b3 with
  | false =>
    cases b1 <;> cases b2 <;>
    · simp only [cOp_is, cDo_is, cCond_is, cSeq_is, cBlock_is, cNorm_is, cRet_is, cExit_is, opX_ok, doX_ok, condX_true, condX_false, seqX_norm, seqX_exit, seqX_ret, blockX_norm, blockX_ret, blockX_exit, oMove_is, kV_is, slot_set, Nat.reduceLT, Nat.reduceEqDiff, if_true, if_false, reduceIte, cG_is, guardX_tt, guardX_tf, guardX_ft, guardX_ff, guardX_none, skipC_is, oPick_is, pickR_true, pickR_false, oCmp_is, cmpR_is, s0, s3, s4, f1, f2, f3]
      exact ⟨_, rfl, by simp only [slot_set, Nat.reduceLT, Nat.reduceEqDiff, if_true, if_false, reduceIte]; rfl, by simp only [slot_set, Nat.reduceLT, Nat.reduceEqDiff, if_true, if_false, reduceIte, s0], by simp only [slot_set, Nat.reduceLT, Nat.reduceEqDiff, if_true, if_false, reduceIte], by simp only [slot_set, Nat.reduceLT, Nat.reduceEqDiff, if_true, if_false, reduceIte], by simp only [slot_set, Nat.reduceLT, Nat.reduceEqDiff, if_true, if_false, reduceIte]⟩
  | true =>
    obtain ⟨j, a, g1, g2, g3, g4⟩ := g rfl
    cases b1 <;> cases b2 <;> cases b4 <;>
    · simp only [cOp_is, cDo_is, cCond_is, cSeq_is, cBlock_is, cNorm_is, cRet_is, cExit_is, opX_ok, doX_ok, condX_true, condX_false, seqX_norm, seqX_exit, seqX_ret, blockX_norm, blockX_ret, blockX_exit, oMove_is, kV_is, slot_set, Nat.reduceLT, Nat.reduceEqDiff, if_true, if_false, reduceIte, cG_is, guardX_tt, guardX_tf, guardX_ft, guardX_ff, guardX_none, skipC_is, oPick_is, pickR_true, pickR_false, oCmp_is, cmpR_is, s0, s3, s4, f1, f2, f3, oAri_is, g1, oIdx_is, g2, oLoad1_is, g3, g4]
      exact ⟨_, rfl, by simp only [slot_set, Nat.reduceLT, Nat.reduceEqDiff, if_true, if_false, reduceIte]; rfl, by simp only [slot_set, Nat.reduceLT, Nat.reduceEqDiff, if_true, if_false, reduceIte, s0], by simp only [slot_set, Nat.reduceLT, Nat.reduceEqDiff, if_true, if_false, reduceIte], by simp only [slot_set, Nat.reduceLT, Nat.reduceEqDiff, if_true, if_false, reduceIte], by simp only [slot_set, Nat.reduceLT, Nat.reduceEqDiff, if_true, if_false, reduceIte]⟩
theorem ints_len {k : IntKind} {Z : List Int} : (ints k Z).length = Z.length := List.length_map ..
theorem ints_at {k : IntKind} {Z : List Int} {i : Nat} (hi : i < Z.length) : (ints k Z).getD i noRes = .int k (Z.getD i 0) := by
  unfold ints
  rw [List.getD_eq_getElem?_getD, List.getElem?_map, List.getD_eq_getElem?_getD, List.getElem?_eq_getElem hi]; rfl
theorem Hp.Vals.int {h : Hp} {k : IntKind} {u : Value} {Z : List Int} (V : h.Vals u (ints k Z)) {i : Nat} (hi : i < Z.length) : ∃ a, idxSR 1 u (.int .i64 (i : Int)) h = .ok (.pointer (some a)) h ∧ loadR (.pointer (some a)) h = .ok (.int k (Z.getD i 0)) h := by
  obtain ⟨a, g1, g2⟩ := V.at (i := i) (by rw [ints_len]; exact hi)
  rw [ints_at hi] at g2
  exact ⟨a, g1, g2⟩
theorem Hp.Vals.ilen {h : Hp} {k : IntKind} {u : Value} {Z : List Int} (V : h.Vals u (ints k Z)) : lenSR u h = .ok (.int .i64 (Z.length : Int)) h := by
  have := V.len; rwa [ints_len] at this
def prevZ (zs : List Int) : Nat → Int
  | 0 => -1
  | i + 1 => zs.getD i 0
theorem rising_loop {F : CallF} {h : Hp} {u : Value} {zs : List Int} (V : h.Vals u (ints .i64 zs)) (hl : zs.length ≤ 1000000) {e : Env} (hl2 : zs.length < 999999) (s0 : slotG 0 e = u) (s5 : slotG 5 e = u) (s6 : slotG 6 e = .int .i64 (zs.length : Int)) (s7 : slotG 7 e = .int .i64 0) :
    (∃ e', cLoop rB F e h = .exit 0 e' h ∧ risingL (-1) zs = true) ∨ (∃ e', cLoop rB F e h = .ret e' h ∧ slotG 2 e' = .bool false ∧ risingL (-1) zs = false) := by
  refine loop_run (I := fun i e' h' => h' = h ∧ slotG 0 e' = u ∧ slotG 5 e' = u ∧ slotG 6 e' = .int .i64 (zs.length : Int) ∧ slotG 7 e' = .int .i64 (i : Int) ∧ i ≤ zs.length ∧ risingL (-1) zs = risingL (prevZ zs i) (zs.drop i))
    (Q := fun x => (∃ e', x = .exit 0 e' h ∧ risingL (-1) zs = true) ∨ (∃ e', x = .ret e' h ∧ slotG 2 e' = .bool false ∧ risingL (-1) zs = false)) zs.length (by omega) (fun i e' h' ⟨hh, t0, t5, t6, t7, hi, hr⟩ => ?_)
    ⟨rfl, s0, s5, s6, s7, Nat.zero_le _, rfl⟩
  subst hh
  by_cases hlt : i < zs.length
  · obtain ⟨a, g1, g2⟩ := V.int hlt
    have hd : zs.drop i = zs.getD i 0 :: zs.drop (i + 1) := by
      rw [List.drop_eq_getElem_cons hlt, List.getD_eq_getElem?_getD, List.getElem?_eq_getElem hlt]; rfl
    rw [hd] at hr
    have hnext : prevZ zs (i + 1) = zs.getD i 0 := rfl
    generalize hz : zs.getD i 0 = z at g2 hr hnext
    have c1 : iLt (i : Int) (zs.length : Int) = true := by rw [iLt_is]; simp; omega
    have pre : ∃ b e2, rB F e' h' = seqX (blockX 1 (rT F e2 h')) (cOp (slotT 31) (oAdd .i64 (topOf .i64) (slotG 7) (kV (.int .i64 1))) (cOp (slotT 7) (oMove (slotG 31)) cNorm)) F ∧ slotG 30 e2 = .bool b ∧ (b = true ↔ ¬ (0 ≤ z ∧ z ≤ 1099511627776 ∧ prevZ zs i < z)) ∧ slotG 0 e2 = u ∧ slotG 5 e2 = u ∧ slotG 6 e2 = .int .i64 (zs.length : Int) ∧ slotG 7 e2 = .int .i64 (i : Int) := by
      have key : ∃ (q : Int) (b4 : Bool), (iGt (i : Int) 0 = true → ∃ j a, ariR Int.sub .i64 (.int .i64 (i : Int)) (.int .i64 1) h' = .ok j h' ∧ idxSR 1 u j h' = .ok (.pointer (some a)) h' ∧ loadR (.pointer (some a)) h' = .ok (.int .i64 q) h' ∧ iLe z q = b4) ∧
          (((iLt z 0 || iGt z 1099511627776) || (iGt (i : Int) 0 && b4)) = true ↔ ¬ (0 ≤ z ∧ z ≤ 1099511627776 ∧ prevZ zs i < z)) := by
        cases i with
        | zero =>
          refine ⟨0, false, fun h0 => ?_, ?_⟩
          · rw [iGt_is] at h0; simp at h0
          · rw [iLt_is, iGt_is, iGt_is]
            show _ ↔ ¬ (0 ≤ z ∧ z ≤ 1099511627776 ∧ (-1 : Int) < z)
            simp
            omega
        | succ j =>
          obtain ⟨a', k1, k2⟩ := V.int (i := j) (by omega)
          refine ⟨zs.getD j 0, iLe z (zs.getD j 0), fun _ => ⟨.int .i64 (j : Int), a', ?_, k1, k2, rfl⟩, ?_⟩
          · have : Int.sub ((j + 1 : Nat) : Int) 1 = (j : Int) := by show ((j + 1 : Nat) : Int) - 1 = j; omega
            rw [ariR_is, this, wrap_nat (by omega)]
          · rw [iLt_is, iGt_is, iGt_is, iLe_is]
            show _ ↔ ¬ (0 ≤ z ∧ z ≤ 1099511627776 ∧ zs.getD j 0 < z)
            simp only [Bool.or_eq_true, Bool.and_eq_true, decide_eq_true_eq]
            omega
      obtain ⟨q, b4, kg, kb⟩ := key
      obtain ⟨e2, q1, q2, q3, q4, q5, q6⟩ := rG_is (K := rT) (F := F) (h := h') (e := Env.set 4 (.int .i64 z) (Env.set 3 (.int .i64 (i : Int)) (Env.set 11 (.int .i64 z) (Env.set 10 (.pointer (some a)) (Env.set 8 (.bool true) e'))))) (u := u) (z := z) (q := q) (i := i) (b4 := b4)
        (by simp only [slot_set, Nat.reduceLT, Nat.reduceEqDiff, if_true, if_false, reduceIte]; exact t0) (by simp only [slot_set, Nat.reduceLT, Nat.reduceEqDiff, if_true, if_false, reduceIte]) (by simp only [slot_set, Nat.reduceLT, Nat.reduceEqDiff, if_true, if_false, reduceIte]) rfl rfl rfl kg
      refine ⟨_, e2, ?_, q2, kb, ?_, ?_, ?_, ?_⟩
      · rw [rB_is]
        simp only [cOp_is, cCond_is, cSeq_is, cBlock_is, opX_ok, condX_true, oMove_is, kV_is, slot_set, Nat.reduceLT, Nat.reduceEqDiff, if_true, if_false, reduceIte, t7, t6, oCmp_is, cmpR_is, c1, oIdx_is, t5, g1, oLoad1_is, g2, q1]
      · rw [q3]; simp only [slot_set, Nat.reduceLT, Nat.reduceEqDiff, if_true, if_false, reduceIte]; exact t0
      · rw [q4]; simp only [slot_set, Nat.reduceLT, Nat.reduceEqDiff, if_true, if_false, reduceIte]; exact t5
      · rw [q5]; simp only [slot_set, Nat.reduceLT, Nat.reduceEqDiff, if_true, if_false, reduceIte]; exact t6
      · rw [q6]; simp only [slot_set, Nat.reduceLT, Nat.reduceEqDiff, if_true, if_false, reduceIte]; exact t7
    obtain ⟨b, e2, p1, p30, pb, p0, p5, p6, p7⟩ := pre
    have hr : risingL (-1) zs = (decide (0 ≤ z ∧ z ≤ 1099511627776 ∧ prevZ zs i < z) && risingL z (zs.drop (i + 1))) := hr
    cases b with
    | true =>
      right
      have hno : ¬ (0 ≤ z ∧ z ≤ 1099511627776 ∧ prevZ zs i < z) := pb.1 rfl
      have hrun : ∃ e3, rT F e2 h' = .ret e3 h' ∧ slotG 2 e3 = .bool false := by
        unfold rT
        simp only [cOp_is, cDo_is, cCond_is, cSeq_is, cBlock_is, cNorm_is, cRet_is, cExit_is, opX_ok, doX_ok, condX_true, condX_false, seqX_norm, seqX_exit, seqX_ret, blockX_norm, blockX_ret, blockX_exit, oMove_is, kV_is, slot_set, Nat.reduceLT, Nat.reduceEqDiff, if_true, if_false, reduceIte, p30]
        exact ⟨_, rfl, by simp only [slot_set, Nat.reduceLT, Nat.reduceEqDiff, if_true, if_false, reduceIte]⟩
      obtain ⟨e3, r1, r2⟩ := hrun
      rw [p1, r1, blockX_ret, seqX_ret]
      refine ⟨rfl, .inr ⟨e3, rfl, r2, ?_⟩⟩
      rw [hr, decide_eq_false hno]; rfl
    | false =>
      left
      have hok : 0 ≤ z ∧ z ≤ 1099511627776 ∧ prevZ zs i < z := by
        by_cases hx : 0 ≤ z ∧ z ≤ 1099511627776 ∧ prevZ zs i < z
        · exact hx
        · have := pb.2 hx; cases this
      have a3 : addR .i64 (.int .i64 (i : Int)) (.int .i64 1) h' = .ok (.int .i64 ((i + 1 : Nat) : Int)) h' := by
        have : (i : Int) + 1 = ((i + 1 : Nat) : Int) := by omega
        rw [addR_is, this, wrap_nat (by omega)]
      have hrun : ∃ e4, rB F e' h' = .norm e4 h' ∧ slotG 0 e4 = u ∧ slotG 5 e4 = u ∧ slotG 6 e4 = .int .i64 (zs.length : Int) ∧ slotG 7 e4 = .int .i64 ((i + 1 : Nat) : Int) := by
        rw [p1]
        unfold rT
        simp only [cOp_is, cDo_is, cCond_is, cSeq_is, cBlock_is, cNorm_is, cRet_is, cExit_is, opX_ok, doX_ok, condX_true, condX_false, seqX_norm, seqX_exit, seqX_ret, blockX_norm, blockX_ret, blockX_exit, oMove_is, kV_is, slot_set, Nat.reduceLT, Nat.reduceEqDiff, if_true, if_false, reduceIte, p30, oAdd_is, p7, a3]
        exact ⟨_, rfl, by simp only [slot_set, Nat.reduceLT, Nat.reduceEqDiff, if_true, if_false, reduceIte]; exact p0, by simp only [slot_set, Nat.reduceLT, Nat.reduceEqDiff, if_true, if_false, reduceIte]; exact p5, by simp only [slot_set, Nat.reduceLT, Nat.reduceEqDiff, if_true, if_false, reduceIte]; exact p6, by simp only [slot_set, Nat.reduceLT, Nat.reduceEqDiff, if_true, if_false, reduceIte]⟩
      obtain ⟨e4, k1, k2, k3, k4, k5⟩ := hrun
      refine ⟨hlt, e4, h', k1, rfl, k2, k3, k4, k5, hlt, ?_⟩
      rw [hr, decide_eq_true hok, hnext]; rfl
  · right
    have c1 : iLt (i : Int) (zs.length : Int) = false := by rw [iLt_is]; simp; omega
    have hrun : ∃ e2, rB F e' h' = .exit 0 e2 h' := by
      rw [rB_is]
      simp only [cOp_is, cDo_is, cCond_is, cSeq_is, cBlock_is, cNorm_is, cRet_is, cExit_is, opX_ok, doX_ok, condX_true, condX_false, seqX_norm, seqX_exit, seqX_ret, blockX_norm, blockX_ret, blockX_exit, oMove_is, kV_is, slot_set, Nat.reduceLT, Nat.reduceEqDiff, if_true, if_false, reduceIte, t6, oCmp_is, cmpR_is, t7, c1]
      exact ⟨_, rfl⟩
    obtain ⟨e2, r1⟩ := hrun
    rw [r1]
    refine ⟨rfl, .inl ⟨e2, rfl, ?_⟩⟩
    rw [hr, List.drop_of_length_le (by omega)]; rfl
theorem rising_is {n : Nat} {h : Hp} {u : Value} {zs : List Int} (V : h.Vals u (ints .i64 zs)) (hl : zs.length < 900000) : call bodies (n + 1) 30 [u] h = .ok (.bool (risingL (-1) zs)) h := by
  have H := rising_loop (F := call bodies n) (e := Env.set 7 (.int .i64 0) (Env.set 6 (.int .i64 (zs.length : Int)) (Env.set 5 u (Env.set 2 (.bool false) (Env.set 0 u e0))))) V (by omega) (by omega) (by simp only [slot_set, Nat.reduceLT, Nat.reduceEqDiff, if_true, if_false, reduceIte]) (by simp only [slot_set, Nat.reduceLT, Nat.reduceEqDiff, if_true, if_false, reduceIte]) (by simp only [slot_set, Nat.reduceLT, Nat.reduceEqDiff, if_true, if_false, reduceIte]) (by simp only [slot_set, Nat.reduceLT, Nat.reduceEqDiff, if_true, if_false, reduceIte])
  rw [call30 rfl, d30_is]
  rcases H with ⟨e2, q1, q2⟩ | ⟨e2, q1, q2, q3⟩
  · simp only [setArgs_cons, setArgs_nil, Nat.succ_eq_add_one, Nat.zero_add, Nat.reduceAdd, cOp_is, opX_ok, oMove_is, kV_is, slot_set, Nat.reduceLT, Nat.reduceEqDiff, if_true, if_false, reduceIte, oLenS_is, V.ilen, cSeq_is, cBlock_is]
    rw [q1]
    simp only [blockX_exit, seqX_norm]
    unfold rE
    simp only [cOp_is, cDo_is, cCond_is, cSeq_is, cBlock_is, cNorm_is, cRet_is, cExit_is, opX_ok, doX_ok, condX_true, condX_false, seqX_norm, seqX_exit, seqX_ret, blockX_norm, blockX_ret, blockX_exit, oMove_is, kV_is, slot_set, Nat.reduceLT, Nat.reduceEqDiff, if_true, if_false, reduceIte, leave_ret, finish_1, q2]
  · simp only [setArgs_cons, setArgs_nil, Nat.succ_eq_add_one, Nat.zero_add, Nat.reduceAdd, cOp_is, opX_ok, oMove_is, kV_is, slot_set, Nat.reduceLT, Nat.reduceEqDiff, if_true, if_false, reduceIte, oLenS_is, V.ilen, cSeq_is, cBlock_is]
    rw [q1]
    simp only [blockX_ret, seqX_ret, leave_ret, finish_1, q2, q3]

/-! ### Right -/
theorem node_is {n : Nat} {h : Hp} (f : Int) : call bodies (n + 1) 31 [.int .i64 f] h = .ok (.bool (decide (0 ≤ f ∧ f < 256))) h := by
  rw [call31 rfl]
  unfold d31
  by_cases h1 : 0 ≤ f
  · have c1 : iGe f 0 = true := by rw [iGe_is]; simp; omega
    by_cases h2 : f < 256
    · have c2 : iLt f 256 = true := by rw [iLt_is]; simp; omega
      rw [decide_eq_true ⟨h1, h2⟩]
      simp only [setArgs_cons, setArgs_nil, Nat.succ_eq_add_one, Nat.zero_add, Nat.reduceAdd, cOp_is, cDo_is, cCond_is, cSeq_is, cBlock_is, cNorm_is, cRet_is, cExit_is, opX_ok, doX_ok, condX_true, condX_false, seqX_norm, seqX_exit, seqX_ret, blockX_norm, blockX_ret, blockX_exit, oMove_is, kV_is, slot_set, Nat.reduceLT, Nat.reduceEqDiff, if_true, if_false, reduceIte, cG_is, guardX_tt, guardX_tf, guardX_ft, guardX_ff, guardX_none, skipC_is, oPick_is, pickR_true, pickR_false, oCmp_is, cmpR_is, c1, c2, leave_ret, finish_1]
    · have c2 : iLt f 256 = false := by rw [iLt_is]; simp; omega
      rw [decide_eq_false (fun x => h2 x.2)]
      simp only [setArgs_cons, setArgs_nil, Nat.succ_eq_add_one, Nat.zero_add, Nat.reduceAdd, cOp_is, cDo_is, cCond_is, cSeq_is, cBlock_is, cNorm_is, cRet_is, cExit_is, opX_ok, doX_ok, condX_true, condX_false, seqX_norm, seqX_exit, seqX_ret, blockX_norm, blockX_ret, blockX_exit, oMove_is, kV_is, slot_set, Nat.reduceLT, Nat.reduceEqDiff, if_true, if_false, reduceIte, cG_is, guardX_tt, guardX_tf, guardX_ft, guardX_ff, guardX_none, skipC_is, oPick_is, pickR_true, pickR_false, oCmp_is, cmpR_is, c1, c2, leave_ret, finish_1]
  · have c1 : iGe f 0 = false := by rw [iGe_is]; simp; omega
    rw [decide_eq_false (fun x => h1 x.1)]
    simp only [setArgs_cons, setArgs_nil, Nat.succ_eq_add_one, Nat.zero_add, Nat.reduceAdd, cOp_is, cDo_is, cCond_is, cSeq_is, cBlock_is, cNorm_is, cRet_is, cExit_is, opX_ok, doX_ok, condX_true, condX_false, seqX_norm, seqX_exit, seqX_ret, blockX_norm, blockX_ret, blockX_exit, oMove_is, kV_is, slot_set, Nat.reduceLT, Nat.reduceEqDiff, if_true, if_false, reduceIte, cG_is, guardX_tt, guardX_tf, guardX_ft, guardX_ff, guardX_none, skipC_is, oPick_is, pickR_true, pickR_false, oCmp_is, cmpR_is, c1, leave_ret, finish_1]
/-- a move -/
def mvV (f t : Int) (u : Value) : Value := .agg ⟨[.int .i64 f, .int .i64 t, u]⟩
theorem right_is {n : Nat} {h : Hp} (W : h.Wf) {f t : Int} {u : Value} {zs : List Int} (V : h.Vals u (ints .i64 zs)) (hl : zs.length < 900000) : call bodies (n + 2) 9 [mvV f t u] h = .ok (.bool (rightB f t zs)) (h.pushRow 0 [.int .i64 f, .int .i64 t, u]) := by
  have R := Hp.Row.new W 0 [.int .i64 f, .int .i64 t, u]
  have x1 := (Hp.Ext.refl W).pushRow 0 [.int .i64 f, .int .i64 t, u]
  have V1 := V.ext W x1
  have hbx : ∀ e : Env, slotG 0 e = mvV f t u → oBox (slotG 0) (call bodies (n + 1)) e h = .ok (.pointer (some ⟨h.next, 0, none⟩)) (h.pushRow 0 [.int .i64 f, .int .i64 t, u]) := fun e he => by rw [oBox_is, he, boxR_is W]; rfl
  generalize h.pushRow 0 [.int .i64 f, .int .i64 t, u] = h1 at R x1 V1 hbx
  have l0 : load1 ⟨h.next, 0, none⟩ h1 = .ok (.int .i64 f) h1 := R.load1 (off := 0) (by simp)
  have l1 : load1 ⟨h.next, 1, none⟩ h1 = .ok (.int .i64 t) h1 := R.load1 (off := 1) (by simp)
  have l2 : load1 ⟨h.next, 2, none⟩ h1 = .ok u h1 := R.load1 (off := 2) (by simp)
  have k1 := node_is (n := n) (h := h1) f
  have k2 := node_is (n := n) (h := h1) t
  have k3 := rising_is (n := n) V1 hl
  rw [call9 rfl]
  unfold d9
  have c3 : iNe f t = decide (f ≠ t) := by rw [iNe_is, Bool.eq_iff_iff, Bool.not_eq_true', beq_eq_false_iff_ne, decide_eq_true_eq]
  have c4 : iLe (zs.length : Int) 10000 = decide (zs.length ≤ 10000) := by rw [iLe_is]; congr 1; simp; omega
  have hb : rightB f t zs = (decide (0 ≤ f ∧ f < 256) && (decide (0 ≤ t ∧ t < 256) && (decide (f ≠ t) && (decide (zs.length ≤ 10000) && risingL (-1) zs)))) := by
    unfold rightB
    rw [Bool.eq_iff_iff]
    simp only [Bool.and_eq_true, decide_eq_true_eq]
    constructor
    · rintro ⟨⟨a, b, c, d, e, g⟩, k⟩; exact ⟨⟨a, b⟩, ⟨c, d⟩, e, g, k⟩
    · rintro ⟨⟨a, b⟩, ⟨c, d⟩, e, g, k⟩; exact ⟨⟨a, b, c, d, e, g⟩, k⟩
  rw [hb]
  generalize decide (0 ≤ f ∧ f < 256) = b1 at k1 ⊢
  generalize decide (0 ≤ t ∧ t < 256) = b2 at k2 ⊢
  generalize decide (f ≠ t) = b3 at c3 ⊢
  generalize decide (zs.length ≤ 10000) = b4 at c4 ⊢
  generalize risingL (-1) zs = b5 at k3 ⊢
  cases b1 <;> cases b2 <;> cases b3 <;> cases b4 <;>
  · simp only [setArgs_cons, setArgs_nil, Nat.succ_eq_add_one, Nat.zero_add, Nat.reduceAdd, cOp_is, cDo_is, cCond_is, cSeq_is, cBlock_is, cNorm_is, cRet_is, cExit_is, opX_ok, doX_ok, condX_true, condX_false, seqX_norm, seqX_exit, seqX_ret, blockX_norm, blockX_ret, blockX_exit, oMove_is, kV_is, slot_set, Nat.reduceLT, Nat.reduceEqDiff, if_true, if_false, reduceIte, cG_is, guardX_tt, guardX_tf, guardX_ft, guardX_ff, guardX_none, skipC_is, oPick_is, pickR_true, pickR_false, hbx, oFieldAddr_is', fieldAR_is, oLoad1_is, loadR_is, l0, l1, l2, oApply_is, applyR_is, List.nil_append, List.append_nil, oCall_is, vals_cons, vals_nil, k1, k2, oCmp_is, cmpR_is, c3, oLenS_is, V1.ilen, c4, k3, leave_ret, finish_1]
    rfl
theorem right_ext {h : Hp} (W : h.Wf) {f t : Int} {u : Value} : h.Ext (h.pushRow 0 [.int .i64 f, .int .i64 t, u]) := (Hp.Ext.refl W).pushRow _ _

end Go.Proofs.Ytkafejncffinmaa
set_option linter.unusedVariables false
set_option linter.unusedSimpArgs false
namespace Go.Proofs.Ytkafejncffinmaa
open Go
set_option maxRecDepth 100000

/-! ### where a number stands -/
theorem drop_at {zs : List Int} {i : Nat} (hlt : i < zs.length) : zs.drop i = zs.getD i 0 :: zs.drop (i + 1) := by
  rw [List.drop_eq_getElem_cons hlt, List.getD_eq_getElem?_getD, List.getElem?_eq_getElem hlt]; rfl
def idxZ (x : Int) : Nat → List Int → Int
  | _, [] => -1
  | i, z :: l => if x = z then (i : Int) else idxZ x (i + 1) l
theorem idxZ_is (x : Int) : ∀ (zs : List Int) (i : Nat), (x ∉ zs ∧ idxZ x i zs = -1) ∨ (x ∈ zs ∧ ∃ k, k < zs.length ∧ idxZ x i zs = ((i + k : Nat) : Int) ∧ zs.getD k 0 = x)
  | [], i => .inl ⟨fun h => (by cases h), rfl⟩
  | z :: l, i => by
    unfold idxZ
    by_cases h : x = z
    · rw [if_pos h]
      exact .inr ⟨by rw [h]; exact List.mem_cons_self, 0, Nat.succ_pos _, rfl, h.symm⟩
    · rw [if_neg h]
      rcases idxZ_is x l (i + 1) with ⟨h1, h2⟩ | ⟨h1, k, h2, h3, h4⟩
      · refine .inl ⟨fun hx => ?_, h2⟩
        rcases List.mem_cons.1 hx with hx | hx
        · exact h hx
        · exact h1 hx
      · exact .inr ⟨List.mem_cons_of_mem _ h1, k + 1, Nat.succ_lt_succ h2, by rw [h3]; congr 1; omega, h4⟩
theorem idxZ_ge (x : Int) (zs : List Int) : (0 ≤ idxZ x 0 zs) ↔ x ∈ zs := by
  rcases idxZ_is x zs 0 with ⟨h1, h2⟩ | ⟨h1, k, _, h3, _⟩
  · rw [h2]; exact ⟨fun h => by omega, fun h => absurd h h1⟩
  · rw [h3]; exact ⟨fun _ => h1, fun _ => by omega⟩
theorem idxZ_no {x : Int} {zs : List Int} (h : x ∉ zs) : idxZ x 0 zs = -1 := by
  rcases idxZ_is x zs 0 with ⟨_, h2⟩ | ⟨h1, _⟩
  · exact h2
  · exact absurd h1 h
theorem idxZ_at {x : Int} {zs : List Int} (h : x ∈ zs) : ∃ k, k < zs.length ∧ idxZ x 0 zs = (k : Int) ∧ zs.getD k 0 = x := by
  rcases idxZ_is x zs 0 with ⟨h1, _⟩ | ⟨_, k, h2, h3, h4⟩
  · exact absurd h h1
  · exact ⟨k, h2, by rw [h3, Nat.zero_add], h4⟩
theorem iGe_idx (x : Int) (zs : List Int) : iGe (idxZ x 0 zs) 0 = decide (x ∈ zs) := by
  rw [iGe_is, decide_eq_decide]; exact idxZ_ge x zs
noncomputable def ixB : C := (cOp (slotT 9) (oCmp iLt .i64 (slotG 8) (slotG 7))
(cCond (slotG 9)
(cSeq (cBlock 1 (cOp (slotT 5) (oMove (slotG 8))
(cOp (slotT 14) (oIdx 1 (slotG 0) (slotG 5))
(cOp (slotT 15) (oLoad1 (slotG 14))
(cOp (slotT 16) (oCmp iEq .i64 (slotG 1) (slotG 15))
(cCond (slotG 16)
(cOp (slotT 4) (oMove (slotG 5))
cRet)
cNorm))))))
(cOp (slotT 18) (oAdd .i64 (topOf .i64) (slotG 8) (kV (.int .i64 1)))
(cOp (slotT 8) (oMove (slotG 18))
cNorm)))
(cExit 0)))
noncomputable def ixE : C := (cOp (slotT 4) (oMove (kV (.int .i64 (-1))))
cRet)
noncomputable def ixS : C := (cSeq (cBlock 0 (cLoop (cOp (slotT 9) (oCmp iLt .i64 (slotG 8) (slotG 7))
(cCond (slotG 9)
(cSeq (cBlock 1 (cOp (slotT 5) (oMove (slotG 8))
(cOp (slotT 14) (oIdx 1 (slotG 0) (slotG 5))
(cOp (slotT 15) (oLoad1 (slotG 14))
(cOp (slotT 16) (oCmp iEq .i64 (slotG 1) (slotG 15))
(cCond (slotG 16)
(cOp (slotT 4) (oMove (slotG 5))
cRet)
cNorm))))))
(cOp (slotT 18) (oAdd .i64 (topOf .i64) (slotG 8) (kV (.int .i64 1)))
(cOp (slotT 8) (oMove (slotG 18))
cNorm)))
(cExit 0)))))
(cOp (slotT 4) (oMove (kV (.int .i64 (-1))))
cRet))
theorem ixS_is : ixS = cSeq (cBlock 0 (cLoop ixB)) ixE := rfl
noncomputable def d33h : C := (cOp (slotT 4) (oMove (kV (.int .i64 0)))
(cOp (slotT 7) (oLenS (slotG 0))
(cOp (slotT 8) (oMove (kV (.int .i64 0)))
ixS)))
theorem d33_is : d33 = d33h := rfl
theorem ix_loop {F : CallF} {h : Hp} {u : Value} {zs : List Int} {x : Int} (V : h.Vals u (ints .i64 zs)) (hl : zs.length < 900000) {e : Env} (s0 : slotG 0 e = u) (s1 : slotG 1 e = .int .i64 x) (s7 : slotG 7 e = .int .i64 (zs.length : Int)) (s8 : slotG 8 e = .int .i64 0) :
    (∃ e', cLoop ixB F e h = .exit 0 e' h ∧ idxZ x 0 zs = -1) ∨ (∃ e', cLoop ixB F e h = .ret e' h ∧ slotG 4 e' = .int .i64 (idxZ x 0 zs)) := by
  refine loop_run (I := fun i e' h' => h' = h ∧ slotG 0 e' = u ∧ slotG 1 e' = .int .i64 x ∧ slotG 7 e' = .int .i64 (zs.length : Int) ∧ slotG 8 e' = .int .i64 (i : Int) ∧ i ≤ zs.length ∧ idxZ x 0 zs = idxZ x i (zs.drop i))
    (Q := fun y => (∃ e', y = .exit 0 e' h ∧ idxZ x 0 zs = -1) ∨ (∃ e', y = .ret e' h ∧ slotG 4 e' = .int .i64 (idxZ x 0 zs))) zs.length (by omega) (fun i e' h' ⟨hh, t0, t1, t7, t8, hi, hr⟩ => ?_)
    ⟨rfl, s0, s1, s7, s8, Nat.zero_le _, rfl⟩
  subst hh
  by_cases hlt : i < zs.length
  · obtain ⟨a, g1, g2⟩ := V.int hlt
    have hd : zs.drop i = zs.getD i 0 :: zs.drop (i + 1) := by
      rw [List.drop_eq_getElem_cons hlt, List.getD_eq_getElem?_getD, List.getElem?_eq_getElem hlt]; rfl
    rw [hd] at hr
    generalize zs.getD i 0 = z at g2 hr
    have hr : idxZ x 0 zs = if x = z then (i : Int) else idxZ x (i + 1) (zs.drop (i + 1)) := hr
    have c1 : iLt (i : Int) (zs.length : Int) = true := by rw [iLt_is]; simp; omega
    by_cases hx : x = z
    · right
      have c2 : iEq x z = true := by rw [iEq_is]; simpa using hx
      have hrun : ∃ e2, ixB F e' h' = .ret e2 h' ∧ slotG 4 e2 = .int .i64 (i : Int) := by
        unfold ixB
        simp only [cOp_is, cDo_is, cCond_is, cSeq_is, cBlock_is, cNorm_is, cRet_is, cExit_is, opX_ok, doX_ok, condX_true, condX_false, seqX_norm, seqX_exit, seqX_ret, blockX_norm, blockX_ret, blockX_exit, oMove_is, kV_is, slot_set, Nat.reduceLT, Nat.reduceEqDiff, if_true, if_false, reduceIte, oCmp_is, cmpR_is, t8, t7, c1, oIdx_is, t0, g1, oLoad1_is, g2, t1, c2]
        exact ⟨_, rfl, by simp only [slot_set, Nat.reduceLT, Nat.reduceEqDiff, if_true, if_false, reduceIte]⟩
      obtain ⟨e2, r1, r2⟩ := hrun
      rw [r1]
      refine ⟨rfl, .inr ⟨e2, rfl, ?_⟩⟩
      rw [r2, hr, if_pos hx]
    · left
      have c2 : iEq x z = false := by rw [iEq_is]; simpa using hx
      have a3 : addR .i64 (.int .i64 (i : Int)) (.int .i64 1) h' = .ok (.int .i64 ((i + 1 : Nat) : Int)) h' := by
        have : (i : Int) + 1 = ((i + 1 : Nat) : Int) := by omega
        rw [addR_is, this, wrap_nat (by omega)]
      have hrun : ∃ e2, ixB F e' h' = .norm e2 h' ∧ slotG 0 e2 = u ∧ slotG 1 e2 = .int .i64 x ∧ slotG 7 e2 = .int .i64 (zs.length : Int) ∧ slotG 8 e2 = .int .i64 ((i + 1 : Nat) : Int) := by
        unfold ixB
        simp only [cOp_is, cDo_is, cCond_is, cSeq_is, cBlock_is, cNorm_is, cRet_is, cExit_is, opX_ok, doX_ok, condX_true, condX_false, seqX_norm, seqX_exit, seqX_ret, blockX_norm, blockX_ret, blockX_exit, oMove_is, kV_is, slot_set, Nat.reduceLT, Nat.reduceEqDiff, if_true, if_false, reduceIte, oCmp_is, cmpR_is, t8, t7, c1, oIdx_is, t0, g1, oLoad1_is, g2, t1, c2, oAdd_is, a3]
        exact ⟨_, rfl, by simp only [slot_set, Nat.reduceLT, Nat.reduceEqDiff, if_true, if_false, reduceIte]; exact t0, by simp only [slot_set, Nat.reduceLT, Nat.reduceEqDiff, if_true, if_false, reduceIte]; exact t1, by simp only [slot_set, Nat.reduceLT, Nat.reduceEqDiff, if_true, if_false, reduceIte]; exact t7, by simp only [slot_set, Nat.reduceLT, Nat.reduceEqDiff, if_true, if_false, reduceIte]⟩
      obtain ⟨e2, r1, r2, r3, r4, r5⟩ := hrun
      rw [if_neg hx] at hr
      exact ⟨hlt, e2, h', r1, rfl, r2, r3, r4, r5, hlt, hr⟩
  · right
    have c1 : iLt (i : Int) (zs.length : Int) = false := by rw [iLt_is]; simp; omega
    have hrun : ∃ e2, ixB F e' h' = .exit 0 e2 h' := by
      unfold ixB
      simp only [cOp_is, cDo_is, cCond_is, cSeq_is, cBlock_is, cNorm_is, cRet_is, cExit_is, opX_ok, doX_ok, condX_true, condX_false, seqX_norm, seqX_exit, seqX_ret, blockX_norm, blockX_ret, blockX_exit, oMove_is, kV_is, slot_set, Nat.reduceLT, Nat.reduceEqDiff, if_true, if_false, reduceIte, oCmp_is, cmpR_is, t8, t7, c1]
      exact ⟨_, rfl⟩
    obtain ⟨e2, r1⟩ := hrun
    rw [r1]
    refine ⟨rfl, .inl ⟨e2, rfl, ?_⟩⟩
    rw [hr, List.drop_of_length_le (by omega)]; rfl
theorem index_is {n : Nat} {h : Hp} {u : Value} {zs : List Int} {x : Int} (V : h.Vals u (ints .i64 zs)) (hl : zs.length < 900000) : call bodies (n + 1) 33 [u, .int .i64 x] h = .ok (.int .i64 (idxZ x 0 zs)) h := by
  have pre : ∃ e1, d33h (call bodies n) (setArgs e0 0 [u, .int .i64 x]) h = ixS (call bodies n) e1 h ∧ slotG 0 e1 = u ∧ slotG 1 e1 = .int .i64 x ∧ slotG 7 e1 = .int .i64 (zs.length : Int) ∧ slotG 8 e1 = .int .i64 0 := by
    unfold d33h
    simp only [setArgs_cons, setArgs_nil, Nat.succ_eq_add_one, Nat.zero_add, Nat.reduceAdd, cOp_is, opX_ok, oMove_is, kV_is, slot_set, Nat.reduceLT, Nat.reduceEqDiff, if_true, if_false, reduceIte, oLenS_is, V.ilen]
    exact ⟨_, rfl, by simp only [slot_set, Nat.reduceLT, Nat.reduceEqDiff, if_true, if_false, reduceIte], by simp only [slot_set, Nat.reduceLT, Nat.reduceEqDiff, if_true, if_false, reduceIte], by simp only [slot_set, Nat.reduceLT, Nat.reduceEqDiff, if_true, if_false, reduceIte], by simp only [slot_set, Nat.reduceLT, Nat.reduceEqDiff, if_true, if_false, reduceIte]⟩
  obtain ⟨e1, p1, p0, pp1, p7, p8⟩ := pre
  rw [call33 rfl, d33_is, p1, ixS_is]
  rcases ix_loop (F := call bodies n) V hl p0 pp1 p7 p8 with ⟨e2, q1, q2⟩ | ⟨e2, q1, q2⟩
  · simp only [cSeq_is, cBlock_is, q1, blockX_exit, seqX_norm]
    unfold ixE
    simp only [cOp_is, cDo_is, cCond_is, cSeq_is, cBlock_is, cNorm_is, cRet_is, cExit_is, opX_ok, doX_ok, condX_true, condX_false, seqX_norm, seqX_exit, seqX_ret, blockX_norm, blockX_ret, blockX_exit, oMove_is, kV_is, slot_set, Nat.reduceLT, Nat.reduceEqDiff, if_true, if_false, reduceIte, leave_ret, finish_1, q2]
  · simp only [cSeq_is, cBlock_is, q1, blockX_ret, seqX_ret, leave_ret, finish_1, q2]
theorem contains_is {n : Nat} {h : Hp} {u : Value} {zs : List Int} {x : Int} (V : h.Vals u (ints .i64 zs)) (hl : zs.length < 900000) : call bodies (n + 2) 55 [u, .int .i64 x] h = .ok (.bool (decide (x ∈ zs))) h := by
  have k1 := index_is (n := n) (x := x) V hl
  rw [call55 rfl]
  unfold d55
  simp only [setArgs_cons, setArgs_nil, Nat.succ_eq_add_one, Nat.zero_add, Nat.reduceAdd, cOp_is, cDo_is, cCond_is, cSeq_is, cBlock_is, cNorm_is, cRet_is, cExit_is, opX_ok, doX_ok, condX_true, condX_false, seqX_norm, seqX_exit, seqX_ret, blockX_norm, blockX_ret, blockX_exit, oMove_is, kV_is, slot_set, Nat.reduceLT, Nat.reduceEqDiff, if_true, if_false, reduceIte, oCall_is, vals_cons, vals_nil, k1, oCmp_is, cmpR_is, iGe_idx, leave_ret, finish_1]
/-- a placement -/
def plV (e : Int) (w : Value) : Value := .agg ⟨[.int .i64 e, w]⟩
theorem pl_box {F : CallF} {h : Hp} (W : h.Wf) {ep : Int} {w : Value} {g : O} {e : Env} (he : g e = plV ep w) : oBox g F e h = .ok (.pointer (some ⟨h.next, 0, none⟩)) (h.pushRow 0 [.int .i64 ep, w]) := by
  rw [oBox_is, he, boxR_is W]; rfl
theorem pl_ext {h : Hp} (W : h.Wf) {ep : Int} {w : Value} : h.Ext (h.pushRow 0 [.int .i64 ep, w]) := (Hp.Ext.refl W).pushRow _ _
theorem pindex_is {n : Nat} {h : Hp} (W : h.Wf) {ep : Int} {w : Value} {zs : List Int} {x : Int} (V : h.Vals w (ints .i64 zs)) (hl : zs.length < 900000) : call bodies (n + 2) 11 [plV ep w, .int .i64 x] h = .ok (.int .i64 (idxZ x 0 zs)) (h.pushRow 0 [.int .i64 ep, w]) := by
  have R := Hp.Row.new W 0 [.int .i64 ep, w]
  have x1 := pl_ext W (ep := ep) (w := w)
  have hbx : ∀ e : Env, slotG 0 e = plV ep w → oBox (slotG 0) (call bodies (n + 1)) e h = .ok (.pointer (some ⟨h.next, 0, none⟩)) (h.pushRow 0 [.int .i64 ep, w]) := fun e he => pl_box W he
  generalize h.pushRow 0 [.int .i64 ep, w] = h1 at R x1 hbx
  have l1 : load1 ⟨h.next, 1, none⟩ h1 = .ok w h1 := R.load1 (off := 1) (by simp)
  have k1 := index_is (n := n) (x := x) (V.ext W x1) hl
  rw [call11 rfl]
  unfold d11
  simp only [setArgs_cons, setArgs_nil, Nat.succ_eq_add_one, Nat.zero_add, Nat.reduceAdd, cOp_is, cDo_is, cCond_is, cSeq_is, cBlock_is, cNorm_is, cRet_is, cExit_is, opX_ok, doX_ok, condX_true, condX_false, seqX_norm, seqX_exit, seqX_ret, blockX_norm, blockX_ret, blockX_exit, oMove_is, kV_is, slot_set, Nat.reduceLT, Nat.reduceEqDiff, if_true, if_false, reduceIte, hbx, oFieldAddr_is', fieldAR_is, oLoad1_is, loadR_is, l1, oCall_is, vals_cons, vals_nil, k1, leave_ret, finish_1]

/-! ### copies -/
theorem ty29k : ∃ e, ty29.k = .slice e := ⟨3, by kernel_rfl⟩
theorem nil_eq {F : CallF} {e : Env} {h : Hp} {a : Addr} {n c : Nat} {g : O} (hg : g e = .slice (some a) n c) : oEq ty29.k false g (kV (.slice none 0 0)) F e h = .ok (.bool false) h := by
  obtain ⟨t, ht⟩ := ty29k
  show (match eqV ty29.k (g e) (.slice none 0 0) with | some r => okB (false != r) h | none => .no) = _
  rw [ht, hg]
  exact okB_is
/-- an append to a row of none -/
theorem fresh_append {h0 h : Hp} {eb en k b : Nat} {u : Value} {ys : List Value} (x0 : h0.Ext h) (hk2 : k ≤ h.next) (r : h.Row b 0 []) (y : h.Vals u ys) (hy : 0 < ys.length) (ha : allOne ys = true) (hm : (ys.length + 1) * (eb + 1) ≤ 1099511627776) :
    ∃ h' v', appR 1 eb en (.slice (some ⟨b, 0, none⟩) 0 0) u h = .ok v' h' ∧ h0.Ext h' ∧ h'.Own k en v' ys ∧ h'.next = h.next + 1 ∧ ∀ b el L, h.Row b el L → h'.Row b el L ∧ ¬ blkV v' b := by
  have W := x0.wf
  obtain ⟨cc, hcc, hl⟩ := r.rowOf
  obtain ⟨t, h2, h3⟩ := setAll_is ys cc [] 0 hl (.inr rfl)
  have h3 : t.Is ys := by simpa using h3
  refine ⟨h.push (.cells t ys.length (en + 1)), .slice (some ⟨h.next, 0, none⟩) ys.length ys.length, ?_, x0.push _, .inr ⟨h.next, rfl, ⟨t, by rw [W.push_get, if_pos rfl], h3⟩, hk2, W.big⟩, rfl, fun b' el' L' r' => ⟨r'.push W _, blkV_at (by have := r'.lt W; omega)⟩⟩
  unfold appR appendF
  simp only [y.lenV, y.src rfl, forceN_is, Nat.add_eq, Nat.zero_add]
  have e1 : Nat.ble ys.length 0 = false := by
    cases e : Nat.ble ys.length 0
    · rfl
    · have := nat_ble.1 e; omega
  have e2 : Nat.ble (Nat.mul (Nat.succ ys.length) (Nat.succ eb)) most = true := nat_ble.2 hm
  rw [e1]
  simp only [e2, cond_true, ha]
  unfold growA
  have hcc : rowOf h b = .ok cc 0 0 := hcc
  have e3 : Nat.beq 0 (Nat.mul 0 1) = true := rfl
  simp only [hcc, e3, h2]
  unfold growT
  simp only [hcc, lenL_is, Nat.add_eq, Nat.zero_add]
  unfold newRowT
  rw [forceN_is, newBlk_is W]; rfl
theorem empty_slice {F : CallF} {e : Env} {h : Hp} (W : h.Wf) : oBuildSlice 0 (repL ty3.zero 0) [] F e h = .ok (.slice (some ⟨h.next, 0, none⟩) 0 0) (h.pushRow 0 []) := by
  have : repL ty3.zero 0 = [] := rfl
  rw [this, oBuildSlice_is, fillL_nil, newRow_is W]; rfl
theorem clone_is {n : Nat} {h0 h : Hp} {k : Nat} (x0 : h0.Ext h) (hk2 : k ≤ h.next) {u : Value} {zs : List Int} (V : h.Vals u (ints .i64 zs)) (hz : 0 < zs.length) (hl : zs.length < 900000) : ∃ h' v, call bodies (n + 1) 35 [u] h = .ok v h' ∧ h0.Ext h' ∧ h'.Own k 3 v (ints .i64 zs) ∧ h.next ≤ h'.next ∧ ∀ b el L, h.Row b el L → h'.Row b el L ∧ ¬ blkV v b := by
  have W := x0.wf
  have x1 := x0.pushRow 0 []
  have y1 := (Hp.Ext.refl W).pushRow 0 []
  have R := Hp.Row.new W 0 []
  have n1 : (h.pushRow 0 []).next = h.next + 1 := rfl
  have es := fun (e : Env) => empty_slice (F := call bodies n) (e := e) W
  generalize h.pushRow 0 [] = h1 at x1 y1 R n1 es
  obtain ⟨h2, v, a1, a2, a3, a4, a5⟩ := fresh_append (eb := 8) (en := 3) (k := k) x1 (by omega) R (V.ext W y1) (by rw [ints_len]; exact hz) (allOne_ints _ _) (by rw [ints_len]; omega)
  obtain ⟨a, c, hu⟩ : ∃ a c, u = .slice (some a) zs.length c := by
    rcases V with ⟨_, h2⟩ | ⟨b, off, c, el, L, h1, _⟩
    · have := congrArg List.length h2
      rw [ints_len, List.length_nil] at this; omega
    · rw [ints_len] at h1; exact ⟨_, _, h1⟩
  have ne : ∀ e : Env, slotG 0 e = u → oEq ty29.k false (slotG 0) (kV (.slice none 0 0)) (call bodies n) e h = .ok (.bool false) h := fun e he => nil_eq (he.trans hu)
  refine ⟨h2, v, ?_, a2, a3, by omega, fun b el L r => a5 b el L (r.ext W y1)⟩
  rw [call35 rfl]
  unfold d35
  simp only [setArgs_cons, setArgs_nil, Nat.succ_eq_add_one, Nat.zero_add, Nat.reduceAdd, cOp_is, cDo_is, cCond_is, cSeq_is, cBlock_is, cNorm_is, cRet_is, cExit_is, opX_ok, doX_ok, condX_true, condX_false, seqX_norm, seqX_exit, seqX_ret, blockX_norm, blockX_ret, blockX_exit, oMove_is, kV_is, slot_set, Nat.reduceLT, Nat.reduceEqDiff, if_true, if_false, reduceIte, ne, es, oAppend_is, a1, leave_ret, finish_1]
theorem finish_c1 {e : Env} {h h' : Hp} {g : O} {n : Nat} {v : Value} (hv : loadsR n (g e) h = .ok v h') : finish [.cN g n] e h = .ok v h := by
  have h1 : result1 e h (.cN g n) = .ok v h' := hv
  show (match result1 e h (.cN g n) with | .ok v _ => forceV v fun v => finish2 h [v] | .no => .no) = _
  rw [h1]
  simp only [forceV_is]; rfl
theorem zt37_is : setAll .mt 0 [.int .i64 0, .slice none 0 0] = some zt37 := by kernel_rfl
theorem zero37 : ty37.zero = [.int .i64 0, .slice none 0 0] := by kernel_rfl
theorem over_p0 {x y u : Value} : over [x, y] 0 [u] = [u, y] := rfl
theorem over_p1 {x y u : Value} : over [x, y] 1 [u] = [x, u] := rfl
theorem over_p2 {x y a b : Value} : over [x, y] 0 [a, b] = [a, b] := rfl
theorem own_is {n : Nat} {h0 h : Hp} {k : Nat} (x0 : h0.Ext h) (hk2 : k ≤ h.next) {ep : Int} {u : Value} {zs : List Int} (V : h.Vals u (ints .i64 zs)) (hz : 0 < zs.length) (hl : zs.length < 900000) :
    ∃ h' w, call bodies (n + 2) 32 [plV ep u] h = .ok (plV ep w) h' ∧ h0.Ext h' ∧ h'.Own k 3 w (ints .i64 zs) ∧ h.next ≤ h'.next ∧ ∀ b el L, h.Row b el L → h'.Row b el L ∧ ¬ blkV w b := by
  have W := x0.wf
  have R := Hp.Row.new W 0 [.int .i64 ep, u]
  have x1 := x0.pushRow 0 [.int .i64 ep, u]
  have y1 := pl_ext W (ep := ep) (w := u)
  have n1 : (h.pushRow 0 [.int .i64 ep, u]).next = h.next + 1 := rfl
  have hbx : ∀ e : Env, slotG 0 e = plV ep u → oBox (slotG 0) (call bodies (n + 1)) e h = .ok (.pointer (some ⟨h.next, 0, none⟩)) (h.pushRow 0 [.int .i64 ep, u]) := fun e he => pl_box W he
  generalize h.pushRow 0 [.int .i64 ep, u] = h1 at R x1 y1 n1 hbx
  have x2 := x1.push (.cells zt37 2 0)
  have y2 := y1.push (.cells zt37 2 0)
  have S : (h1.push (.cells zt37 2 0)).Row h1.next 0 [.int .i64 0, .slice none 0 0] := Hp.Row.alloc x1.wf zt37_is rfl
  have al := fun (e : Env) => oAlloc_is (F := call bodies (n + 1)) (e := e) (n := 2) (t := zt37) x1.wf
  have n2 : (h1.push (.cells zt37 2 0)).next = h1.next + 1 := rfl
  have R2 := R.push x1.wf (.cells zt37 2 0)
  generalize h1.push (.cells zt37 2 0) = h2 at x2 y2 S al n2 R2
  have l1 : load1 ⟨h.next, 1, none⟩ h2 = .ok u h2 := R2.load1 (off := 1) (by simp)
  obtain ⟨h3, w, c1, c2, c3, c4, c5⟩ := clone_is (n := n) x2 (k := k) (by omega) (V.ext W y2) hz hl
  have R3 := (c5 _ _ _ R2).1
  have S3 := (c5 _ _ _ S).1
  have big := W.big
  obtain ⟨w1, w2⟩ : cellsOf w = [w] ∧ oneCell w = true := by
    rcases c3 with ⟨rfl, _⟩ | ⟨c, rfl, _⟩ <;> exact ⟨rfl, rfl⟩
  have apart : ∀ b L, h3.Row b 0 L → ¬ blkV w b := fun b L r => by
    rcases c3 with ⟨rfl, _⟩ | ⟨c, rfl, rc, _⟩
    · exact blkV_nil
    · refine blkV_at fun hbc => ?_
      subst hbc
      obtain ⟨_, e1, _⟩ := r
      obtain ⟨_, e2, _⟩ := rc
      rw [e1] at e2
      injection e2 with _ _ e3
      omega
  have st1 := R3.storeR (n := 1) (off := 1) c2.wf (by omega) (v := w) (by rw [w1]; rfl) (by rw [w1]; simp) (by rw [w1]; show (bif oneCell w then true else false) = true; rw [w2]; rfl)
  rw [w1] at st1
  have R4 := R3.wr_self c2.wf (off := 1) (vs := [w]) (by simp)
  have o4 : ∀ b el L, b ≠ h.next → h3.Row b el L → (h3.wr h.next 1 [w]).Row b el L := fun b el L hne r => R3.wr_other c2.wf (off := 1) (vs := [w]) (by simp) r hne
  have x4 := R3.wr_ext c2 (by have := x0.next; omega) (off := 1) (vs := [w]) (by simp)
  have n4 := R3.wr_next (off := 1) (vs := [w]) (by simp)
  have S4 := o4 _ _ _ (by omega) S3
  have O4 : (h3.wr h.next 1 [w]).Own k 3 w (ints .i64 zs) := c3.keep fun b el L hbk r => o4 b el L (fun hx => apart _ _ R3 (hx ▸ hbk)) r
  have apart4 : ∀ b L, (h3.wr h.next 1 [w]).Row b 0 L → ¬ blkV w b := fun b L r => by
    rcases O4 with ⟨rfl, _⟩ | ⟨c, rfl, rc, _⟩
    · exact blkV_nil
    · refine blkV_at fun hbc => ?_
      subst hbc
      obtain ⟨_, e1, _⟩ := r
      obtain ⟨_, e2, _⟩ := rc
      rw [e1] at e2
      injection e2 with _ _ e3
      omega
  generalize h3.wr h.next 1 [w] = h4 at st1 R4 o4 x4 n4 S4 O4 apart4
  have R4 : h4.Row h.next 0 [.int .i64 ep, w] := R4
  have l2 : loadN 2 ⟨h.next, 0, none⟩ h4 = .ok (plV ep w) h4 := R4.loadN (by simp)
  have st2 := S4.storeR (n := 2) (off := 0) x4.wf (by omega) (v := plV ep w) rfl (by simp [plV, cells_agg]) (by show (bif oneCell w then true else false) = true; rw [w2]; rfl)
  have S5 := S4.wr_self x4.wf (off := 0) (vs := cellsOf (plV ep w)) (by simp [plV, cells_agg])
  have o5 : ∀ b el L, b ≠ h1.next → h4.Row b el L → (h4.wr h1.next 0 (cellsOf (plV ep w))).Row b el L := fun b el L hne r => S4.wr_other x4.wf (off := 0) (vs := cellsOf (plV ep w)) (by simp [plV, cells_agg]) r hne
  have x5 := S4.wr_ext x4 (by have := x0.next; omega) (off := 0) (vs := cellsOf (plV ep w)) (by simp [plV, cells_agg])
  have n5 := S4.wr_next (off := 0) (vs := cellsOf (plV ep w)) (by simp [plV, cells_agg])
  have l3 : loadN 2 ⟨h1.next, 0, none⟩ (h4.wr h1.next 0 (cellsOf (plV ep w))) = .ok (plV ep w) _ := S5.loadN (by simp [over, plV, cells_agg])
  refine ⟨_, w, ?_, x5, O4.keep fun b el L hbk r => o5 b el L (fun hx => apart4 _ _ S4 (hx ▸ hbk)) r, by omega, fun b el L r => ?_⟩
  · rw [call32 rfl]
    unfold d32
    simp only [setArgs_cons, setArgs_nil, Nat.succ_eq_add_one, Nat.zero_add, Nat.reduceAdd, cOp_is, cDo_is, cCond_is, cSeq_is, cBlock_is, cNorm_is, cRet_is, cExit_is, opX_ok, doX_ok, condX_true, condX_false, seqX_norm, seqX_exit, seqX_ret, blockX_norm, blockX_ret, blockX_exit, oMove_is, kV_is, slot_set, Nat.reduceLT, Nat.reduceEqDiff, if_true, if_false, reduceIte, hbx, al, oFieldAddr_is', fieldAR_is, oLoad1_is, loadR_is, l1, oCall_is, vals_cons, vals_nil, c1, oStore_is, st1, oLoadN_is, loadsR_is, l2, st2, leave_ret]
    rw [finish_c1 (v := plV ep w) (h' := h4.wr h1.next 0 (cellsOf (plV ep w))) (by simp only [slot_set, Nat.reduceLT, Nat.reduceEqDiff, if_true, if_false, reduceIte]; exact l3)]
  · have hb := r.lt W
    have := c5 b el L (r.ext W y2)
    exact ⟨o5 b el L (by omega) (o4 b el L (by omega) this.1), this.2⟩
end Go.Proofs.Ytkafejncffinmaa
set_option linter.unusedVariables false
set_option linter.unusedSimpArgs false
namespace Go.Proofs.Ytkafejncffinmaa
open Go
set_option maxRecDepth 100000

/-! ### placements in memory -/
abbrev Pw := Int × Value × List Int
def flatW : List Pw → List Value
  | [] => []
  | x :: l => .int .i64 x.1 :: x.2.1 :: flatW l
theorem flatW_len : ∀ ws : List Pw, (flatW ws).length = 2 * ws.length
  | [] => rfl
  | x :: l => by
    show (flatW l).length + 1 + 1 = 2 * (l.length + 1)
    rw [flatW_len l]; omega
theorem flatW_at : ∀ (ws : List Pw) (i : Nat) (x : Pw), ws[i]? = some x → ((flatW ws).drop (i * 2)).take 2 = [.int .i64 x.1, x.2.1]
  | [], i, x, h => by cases h
  | y :: l, 0, x, h => by cases h; rfl
  | y :: l, i + 1, x, h => by
    have := flatW_at l i x h
    rw [show (i + 1) * 2 = i * 2 + 1 + 1 by omega]
    exact this
theorem flatW_app (a b : List Pw) : flatW (a ++ b) = flatW a ++ flatW b := by
  induction a with
  | nil => rfl
  | cons x l ih => show _ :: _ :: flatW (l ++ b) = _; rw [ih]; rfl
/-- a slice of placements, made behind number k -/
def Hp.Pls (h : Hp) (k : Nat) (v : Value) (ws : List Pw) : Prop := (v = .slice none 0 0 ∧ ws = []) ∨ ∃ b, v = .slice (some ⟨b, 0, none⟩) ws.length ws.length ∧ h.Row b 38 (flatW ws) ∧ k ≤ b ∧ 256 ≤ b
/-- their nodes -/
def Hp.Nds (h : Hp) (k : Nat) (ws : List Pw) : Prop := ∀ x ∈ ws, h.Own k 3 x.2.1 (ints .i64 x.2.2)
def okPl (ep : Int) (zs : List Int) : Prop := 1 ≤ ep ∧ ep < 1099511627776 ∧ 1 ≤ zs.length ∧ zs.length ≤ 255 ∧ (∀ z ∈ zs, 0 ≤ z ∧ z < 256) ∧ zs.Nodup
theorem Hp.Nds.ext {h h' : Hp} {k : Nat} {ws : List Pw} (d : h.Nds k ws) (W : h.Wf) (x : h.Ext h') : h'.Nds k ws := fun y hy => (d y hy).ext W x
theorem Hp.Pls.ext {h h' : Hp} {k : Nat} {v : Value} {ws : List Pw} (d : h.Pls k v ws) (W : h.Wf) (x : h.Ext h') : h'.Pls k v ws := by
  rcases d with h1 | ⟨b, h1, h2, h3⟩
  · exact .inl h1
  · exact .inr ⟨b, h1, h2.ext W x, h3⟩
theorem Hp.Pls.len {h : Hp} {k : Nat} {v : Value} {ws : List Pw} (d : h.Pls k v ws) {g : Hp} : lenSR v g = .ok (.int .i64 (ws.length : Int)) g := by
  rcases d with ⟨rfl, rfl⟩ | ⟨b, rfl, _⟩ <;> rfl
theorem kind_ne {h : Hp} {b b' el el' : Nat} {L L' : List Value} (r : h.Row b el L) (r' : h.Row b' el' L') (he : el ≠ el') : b ≠ b' := fun hb => by
  subst hb
  obtain ⟨_, e1, _⟩ := r
  obtain ⟨_, e2, _⟩ := r'
  rw [e1] at e2
  injection e2 with _ _ e3
  exact he e3
theorem Hp.Vals.cells1 {h : Hp} {v : Value} {l : List Value} (b : h.Vals v l) : cellsOf v = [v] ∧ oneCell v = true := by
  obtain ⟨a, c, rfl⟩ := b.shape
  exact ⟨rfl, rfl⟩
theorem Hp.Own.other {h : Hp} {k en b el : Nat} {v : Value} {xs L : List Value} (o : h.Own k en v xs) (r : h.Row b el L) (he : el ≠ en + 1) : ¬ blkV v b := by
  rcases o with ⟨rfl, _⟩ | ⟨c, rfl, rc, _⟩
  · exact blkV_nil
  · exact blkV_at (kind_ne r rc he)

/-! ### right -/
theorem cutE_is {F : CallF} {e : Env} {h : Hp} {x y : O} {el b N m : Nat} (hx : x e = .slice (some ⟨b, 0, none⟩) N N) (hy : y e = .int .i64 (m : Int)) (hm : m < N) : oCut el 1 x none (some y) none F e h = .ok (.slice (some ⟨b, 0, none⟩) m N) h := by
  show (match x e with | .slice a n c => bounds e n c none (some y) none (fun l hh m => cutF el 1 a false l hh m h) | _ => .no) = _
  rw [hx]
  show (match natV (y e) with | .ok n => (bif Nat.ble n N then cutF el 1 (some ⟨b, 0, none⟩) false 0 n N h else .no) | .no => .no) = _
  rw [hy, natV_cast]
  simp only
  rw [nat_ble.2 (Nat.le_of_lt hm)]
  show sliceOf (some ⟨b, 0, none⟩) 1 0 m N h = _
  unfold sliceOf
  simp only [forceN_is]
  cases N with
  | zero => omega
  | succ N => rfl
noncomputable def prB : C := (cOp (slotT 39) (oCmp iLt .i64 (slotG 38) (slotG 37))
(cCond (slotG 39)
(cSeq (cBlock 1 (cOp (slotT 41) (oIdx 1 (slotG 36) (slotG 38))
(cOp (slotT 42) (oLoad1 (slotG 41))
(cOp (slotT 5) (oMove (slotG 38))
(cOp (slotT 6) (oMove (slotG 42))
(cOp (slotT 44) (oCmp iLt .i64 (slotG 6) (kV (.int .i64 0)))
(cG (slotG 44) false (slotT 46) (oMove (slotG 6))
(cG (slotG 44) false (slotT 47) (oMove (slotG 1))
(cG (slotG 44) false (slotT 48) (oCmp iGe .i64 (slotG 46) (slotG 47))
(cOp (slotT 49) (oPick (slotG 44) (kV (.bool true)) (slotG 48))
(cG (slotG 49) false (slotT 51) (oFieldAddr 1 (slotG 2))
(cG (slotG 49) false (slotT 52) (oLoad1 (slotG 51))
(cG (slotG 49) false (slotT 53) (oMove (slotG 5))
(cG (slotG 49) false (slotT 54) (oCut 3 1 (slotG 52) none (some (slotG 53)) none)
(cG (slotG 49) false (slotT 55) (oMove (slotG 6))
(cG (slotG 49) false (slotT 56) (oCall 55 [(slotG 54), (slotG 55)])
(cOp (slotT 57) (oPick (slotG 49) (kV (.bool true)) (slotG 56))
(cCond (slotG 57)
(cOp (slotT 4) (oMove (kV (.bool false)))
cRet)
cNorm))))))))))))))))))
(cOp (slotT 58) (oAdd .i64 (topOf .i64) (slotG 38) (kV (.int .i64 1)))
(cOp (slotT 38) (oMove (slotG 58))
cNorm)))
(cExit 0)))
noncomputable def prE : C := (cOp (slotT 4) (oMove (kV (.bool true)))
cRet)
noncomputable def prS : C := (cSeq (cBlock 0 (cLoop (cOp (slotT 39) (oCmp iLt .i64 (slotG 38) (slotG 37))
(cCond (slotG 39)
(cSeq (cBlock 1 (cOp (slotT 41) (oIdx 1 (slotG 36) (slotG 38))
(cOp (slotT 42) (oLoad1 (slotG 41))
(cOp (slotT 5) (oMove (slotG 38))
(cOp (slotT 6) (oMove (slotG 42))
(cOp (slotT 44) (oCmp iLt .i64 (slotG 6) (kV (.int .i64 0)))
(cG (slotG 44) false (slotT 46) (oMove (slotG 6))
(cG (slotG 44) false (slotT 47) (oMove (slotG 1))
(cG (slotG 44) false (slotT 48) (oCmp iGe .i64 (slotG 46) (slotG 47))
(cOp (slotT 49) (oPick (slotG 44) (kV (.bool true)) (slotG 48))
(cG (slotG 49) false (slotT 51) (oFieldAddr 1 (slotG 2))
(cG (slotG 49) false (slotT 52) (oLoad1 (slotG 51))
(cG (slotG 49) false (slotT 53) (oMove (slotG 5))
(cG (slotG 49) false (slotT 54) (oCut 3 1 (slotG 52) none (some (slotG 53)) none)
(cG (slotG 49) false (slotT 55) (oMove (slotG 6))
(cG (slotG 49) false (slotT 56) (oCall 55 [(slotG 54), (slotG 55)])
(cOp (slotT 57) (oPick (slotG 49) (kV (.bool true)) (slotG 56))
(cCond (slotG 57)
(cOp (slotT 4) (oMove (kV (.bool false)))
cRet)
cNorm))))))))))))))))))
(cOp (slotT 58) (oAdd .i64 (topOf .i64) (slotG 38) (kV (.int .i64 1)))
(cOp (slotT 38) (oMove (slotG 58))
cNorm)))
(cExit 0)))))
(cOp (slotT 4) (oMove (kV (.bool true)))
cRet))
theorem prS_is : prS = cSeq (cBlock 0 (cLoop prB)) prE := rfl
noncomputable def d52h : C := (cOp (slotT 2) (oBox (slotG 0))
(cOp (slotT 4) (oMove (kV (.bool false)))
(cOp (slotT 8) (oCmp iLt .i64 (slotG 1) (kV (.int .i64 1)))
(cG (slotG 8) false (slotT 10) (oMove (slotG 1))
(cG (slotG 8) false (slotT 11) (oCmp iGt .i64 (slotG 10) (kV (.int .i64 256)))
(cOp (slotT 12) (oPick (slotG 8) (kV (.bool true)) (slotG 11))
(cG (slotG 12) false (slotT 14) (oFieldAddr 0 (slotG 2))
(cG (slotG 12) false (slotT 15) (oLoad1 (slotG 14))
(cG (slotG 12) false (slotT 16) (oCmp iLt .i64 (slotG 15) (kV (.int .i64 1)))
(cOp (slotT 17) (oPick (slotG 12) (kV (.bool true)) (slotG 16))
(cG (slotG 17) false (slotT 19) (oFieldAddr 0 (slotG 2))
(cG (slotG 17) false (slotT 20) (oLoad1 (slotG 19))
(cG (slotG 17) false (slotT 21) (oCmp iGt .i64 (slotG 20) (kV (.int .i64 1099511627776)))
(cOp (slotT 22) (oPick (slotG 17) (kV (.bool true)) (slotG 21))
(cG (slotG 22) false (slotT 24) (oFieldAddr 1 (slotG 2))
(cG (slotG 22) false (slotT 25) (oLoad1 (slotG 24))
(cG (slotG 22) false (slotT 26) (oLenS (slotG 25))
(cG (slotG 22) false (slotT 27) (oCmp iLt .i64 (slotG 26) (kV (.int .i64 1)))
(cOp (slotT 28) (oPick (slotG 22) (kV (.bool true)) (slotG 27))
(cG (slotG 28) false (slotT 30) (oFieldAddr 1 (slotG 2))
(cG (slotG 28) false (slotT 31) (oLoad1 (slotG 30))
(cG (slotG 28) false (slotT 32) (oLenS (slotG 31))
(cG (slotG 28) false (slotT 33) (oCmp iGt .i64 (slotG 32) (kV (.int .i64 255)))
(cOp (slotT 34) (oPick (slotG 28) (kV (.bool true)) (slotG 33))
(cCond (slotG 34)
(cOp (slotT 4) (oMove (kV (.bool false)))
cRet)
(cOp (slotT 35) (oFieldAddr 1 (slotG 2))
(cOp (slotT 36) (oLoad1 (slotG 35))
(cOp (slotT 37) (oLenS (slotG 36))
(cOp (slotT 38) (oMove (kV (.int .i64 0)))
prS)))))))))))))))))))))))))))))
theorem d52_is : d52 = d52h := rfl
theorem Hp.Own.at {h : Hp} {k en : Nat} {v : Value} {xs : List Value} (o : h.Own k en v xs) (hx : 0 < xs.length) : ∃ b, v = .slice (some ⟨b, 0, none⟩) xs.length xs.length := by
  rcases o with ⟨_, rfl⟩ | ⟨b, h1, _⟩
  · cases hx
  · exact ⟨b, h1⟩
theorem not_before {zs : List Int} (hn : zs.Nodup) {i : Nat} (hlt : i < zs.length) : zs.getD i 0 ∉ zs.take i := fun hm => by
  have e : zs = zs.take i ++ zs.getD i 0 :: zs.drop (i + 1) := by rw [← drop_at hlt, List.take_append_drop]
  have hp : (zs.take i ++ zs.getD i 0 :: zs.drop (i + 1)).Pairwise (· ≠ ·) := by rw [← e]; exact hn
  exact (List.pairwise_append.1 hp).2.2 _ hm _ List.mem_cons_self rfl
theorem pr_loop {n : Nat} {h : Hp} {k A : Nat} {ep : Int} {w : Value} {zs : List Int} (o : h.Own k 3 w (ints .i64 zs)) (RA : h.Row A 0 [.int .i64 ep, w]) (hok : okPl ep zs) {e : Env} (s1 : slotG 1 e = .int .i64 256) (s2 : slotG 2 e = .pointer (some ⟨A, 0, none⟩)) (s36 : slotG 36 e = w) (s37 : slotG 37 e = .int .i64 (zs.length : Int)) (s38 : slotG 38 e = .int .i64 0) :
    ∃ e', cLoop prB (call bodies (n + 2)) e h = .exit 0 e' h := by
  obtain ⟨h1, h2, h3, h4, h5, h6⟩ := hok
  have V := o.vals
  obtain ⟨b, hw⟩ := o.at (by rw [ints_len]; omega)
  rw [ints_len] at hw
  have la : load1 ⟨A, 1, none⟩ h = .ok w h := RA.load1 (off := 1) (by simp)
  refine loop_run (I := fun i e' h' => h' = h ∧ slotG 1 e' = .int .i64 256 ∧ slotG 2 e' = .pointer (some ⟨A, 0, none⟩) ∧ slotG 36 e' = w ∧ slotG 37 e' = .int .i64 (zs.length : Int) ∧ slotG 38 e' = .int .i64 (i : Int) ∧ i ≤ zs.length)
    (Q := fun y => ∃ e', y = .exit 0 e' h) zs.length (by omega) (fun i e' h' ⟨hh, t1, t2, t36, t37, t38, hi⟩ => ?_) ⟨rfl, s1, s2, s36, s37, s38, Nat.zero_le _⟩
  subst hh
  by_cases hlt : i < zs.length
  · left
    obtain ⟨a, g1, g2⟩ := V.int hlt
    have hz : zs.getD i 0 ∈ zs := by rw [List.getD_eq_getElem?_getD, List.getElem?_eq_getElem hlt]; exact List.getElem_mem hlt
    have hnb := not_before h6 hlt
    obtain ⟨z0, z1⟩ := h5 _ hz
    generalize zs.getD i 0 = z at g2 hz hnb z0 z1
    have c1 : iLt (i : Int) (zs.length : Int) = true := by rw [iLt_is]; simp; omega
    have c2 : iLt z 0 = false := by rw [iLt_is]; simp; omega
    have c3 : iGe z 256 = false := by rw [iGe_is]; simp; omega
    have ct : ∀ e : Env, slotG 52 e = w → slotG 53 e = .int .i64 (i : Int) → oCut 3 1 (slotG 52) none (some (slotG 53)) none (call bodies (n + 2)) e h' = .ok (.slice (some ⟨b, 0, none⟩) i zs.length) h' := fun e q1 q2 => cutE_is (q1.trans hw) q2 hlt
    have Vc : h'.Vals (.slice (some ⟨b, 0, none⟩) i zs.length) (ints .i64 (zs.take i)) := by
      obtain ⟨o', c', q1, q2⟩ := V.cut (n := i) (by rw [ints_len]; exact hlt)
      rw [hw, ints_len] at q1
      cases q1
      have : ints .i64 (zs.take i) = (ints .i64 zs).take i := List.map_take ..
      rw [this]; exact q2
    have k1 := contains_is (n := n) (x := z) Vc (by rw [List.length_take]; omega)
    rw [decide_eq_false hnb] at k1
    have a3 : addR .i64 (.int .i64 (i : Int)) (.int .i64 1) h' = .ok (.int .i64 ((i + 1 : Nat) : Int)) h' := by
      have : (i : Int) + 1 = ((i + 1 : Nat) : Int) := by omega
      rw [addR_is, this, wrap_nat (by omega)]
    have hrun : ∃ e2, prB (call bodies (n + 2)) e' h' = .norm e2 h' ∧ slotG 1 e2 = .int .i64 256 ∧ slotG 2 e2 = .pointer (some ⟨A, 0, none⟩) ∧ slotG 36 e2 = w ∧ slotG 37 e2 = .int .i64 (zs.length : Int) ∧ slotG 38 e2 = .int .i64 ((i + 1 : Nat) : Int) := by
      unfold prB
      simp only [cOp_is, cDo_is, cCond_is, cSeq_is, cBlock_is, cNorm_is, cRet_is, cExit_is, opX_ok, doX_ok, condX_true, condX_false, seqX_norm, seqX_exit, seqX_ret, blockX_norm, blockX_ret, blockX_exit, oMove_is, kV_is, slot_set, Nat.reduceLT, Nat.reduceEqDiff, if_true, if_false, reduceIte, cG_is, guardX_tt, guardX_tf, guardX_ft, guardX_ff, guardX_none, skipC_is, oPick_is, pickR_true, pickR_false, oCmp_is, cmpR_is, t38, t37, c1, oIdx_is, t36, g1, oLoad1_is, g2, c2, t1, c3, oFieldAddr_is', t2, fieldAR_is, loadR_is, Nat.zero_add, la, ct, oCall_is, vals_cons, vals_nil, k1, oAdd_is, a3]
      exact ⟨_, rfl, by simp only [slot_set, Nat.reduceLT, Nat.reduceEqDiff, if_true, if_false, reduceIte]; exact t1, by simp only [slot_set, Nat.reduceLT, Nat.reduceEqDiff, if_true, if_false, reduceIte]; exact t2, by simp only [slot_set, Nat.reduceLT, Nat.reduceEqDiff, if_true, if_false, reduceIte]; exact t36, by simp only [slot_set, Nat.reduceLT, Nat.reduceEqDiff, if_true, if_false, reduceIte]; exact t37, by simp only [slot_set, Nat.reduceLT, Nat.reduceEqDiff, if_true, if_false, reduceIte]⟩
    obtain ⟨e2, r1, r2⟩ := hrun
    exact ⟨hlt, e2, h', r1, rfl, r2.1, r2.2.1, r2.2.2.1, r2.2.2.2.1, r2.2.2.2.2, hlt⟩
  · right
    have c1 : iLt (i : Int) (zs.length : Int) = false := by rw [iLt_is]; simp; omega
    have hrun : ∃ e2, prB (call bodies (n + 2)) e' h' = .exit 0 e2 h' := by
      unfold prB
      simp only [cOp_is, cDo_is, cCond_is, cSeq_is, cBlock_is, cNorm_is, cRet_is, cExit_is, opX_ok, doX_ok, condX_true, condX_false, seqX_norm, seqX_exit, seqX_ret, blockX_norm, blockX_ret, blockX_exit, oMove_is, kV_is, slot_set, Nat.reduceLT, Nat.reduceEqDiff, if_true, if_false, reduceIte, oCmp_is, cmpR_is, t38, t37, c1]
      exact ⟨_, rfl⟩
    obtain ⟨e2, r1⟩ := hrun
    rw [r1]
    exact ⟨rfl, e2, rfl⟩
theorem pright_is {n : Nat} {h : Hp} (W : h.Wf) {k : Nat} {ep : Int} {w : Value} {zs : List Int} (o : h.Own k 3 w (ints .i64 zs)) (hok : okPl ep zs) : call bodies (n + 3) 52 [plV ep w, .int .i64 256] h = .ok (.bool true) (h.pushRow 0 [.int .i64 ep, w]) := by
  have hok' := hok
  obtain ⟨h1, h2, h3, h4, _, _⟩ := hok'
  have R := Hp.Row.new W 0 [.int .i64 ep, w]
  have x1 := pl_ext W (ep := ep) (w := w)
  have hbx : ∀ e : Env, slotG 0 e = plV ep w → oBox (slotG 0) (call bodies (n + 2)) e h = .ok (.pointer (some ⟨h.next, 0, none⟩)) (h.pushRow 0 [.int .i64 ep, w]) := fun e he => pl_box W he
  have o1 := o.ext W x1
  generalize h.pushRow 0 [.int .i64 ep, w] = g at R x1 hbx o1
  have l0 : load1 ⟨h.next, 0, none⟩ g = .ok (.int .i64 ep) g := R.load1 (off := 0) (by simp)
  have l1 : load1 ⟨h.next, 1, none⟩ g = .ok w g := R.load1 (off := 1) (by simp)
  have c1 : iLt 256 1 = false := rfl
  have c2 : iGt 256 256 = false := rfl
  have c3 : iLt ep 1 = false := by rw [iLt_is]; simp; omega
  have c4 : iGt ep 1099511627776 = false := by rw [iGt_is]; simp; omega
  have c5 : iLt (zs.length : Int) 1 = false := by rw [iLt_is]; simp; omega
  have c6 : iGt (zs.length : Int) 255 = false := by rw [iGt_is]; simp; omega
  have pre : ∃ e1, d52h (call bodies (n + 2)) (setArgs e0 0 [plV ep w, .int .i64 256]) h = prS (call bodies (n + 2)) e1 g ∧ slotG 1 e1 = .int .i64 256 ∧ slotG 2 e1 = .pointer (some ⟨h.next, 0, none⟩) ∧ slotG 36 e1 = w ∧ slotG 37 e1 = .int .i64 (zs.length : Int) ∧ slotG 38 e1 = .int .i64 0 := by
    unfold d52h
    simp only [setArgs_cons, setArgs_nil, Nat.succ_eq_add_one, Nat.zero_add, Nat.reduceAdd, cOp_is, cCond_is, opX_ok, condX_false, oMove_is, kV_is, slot_set, Nat.reduceLT, Nat.reduceEqDiff, if_true, if_false, reduceIte, cG_is, guardX_tt, guardX_tf, guardX_ft, guardX_ff, guardX_none, skipC_is, oPick_is, pickR_true, pickR_false, hbx, oCmp_is, cmpR_is, c1, c2, oFieldAddr_is', fieldAR_is, oLoad1_is, loadR_is, l0, l1, c3, c4, oLenS_is, o1.vals.ilen, c5, c6]
    exact ⟨_, rfl, by simp only [slot_set, Nat.reduceLT, Nat.reduceEqDiff, if_true, if_false, reduceIte], by simp only [slot_set, Nat.reduceLT, Nat.reduceEqDiff, if_true, if_false, reduceIte], by simp only [slot_set, Nat.reduceLT, Nat.reduceEqDiff, if_true, if_false, reduceIte], by simp only [slot_set, Nat.reduceLT, Nat.reduceEqDiff, if_true, if_false, reduceIte], by simp only [slot_set, Nat.reduceLT, Nat.reduceEqDiff, if_true, if_false, reduceIte]⟩
  obtain ⟨e1, p1, p2, p3, p4, p5, p6⟩ := pre
  obtain ⟨e2, q1⟩ := pr_loop (n := n) o1 R hok p2 p3 p4 p5 p6
  rw [call52 rfl, d52_is, p1, prS_is]
  simp only [cSeq_is, cBlock_is, q1, blockX_exit, seqX_norm]
  unfold prE
  simp only [cOp_is, cDo_is, cCond_is, cSeq_is, cBlock_is, cNorm_is, cRet_is, cExit_is, opX_ok, doX_ok, condX_true, condX_false, seqX_norm, seqX_exit, seqX_ret, blockX_norm, blockX_ret, blockX_exit, oMove_is, kV_is, slot_set, Nat.reduceLT, Nat.reduceEqDiff, if_true, if_false, reduceIte, leave_ret, finish_1]
theorem all1_is {n : Nat} {h : Hp} (W : h.Wf) {k : Nat} {ep : Int} {w : Value} {zs : List Int} (o : h.Own k 3 w (ints .i64 zs)) (hok : okPl ep zs) : ∃ h', call bodies (n + 4) 51 [plV ep w] h = .ok (.bool false) h' ∧ h.Ext h' := by
  have R := Hp.Row.new W 0 [.int .i64 ep, w]
  have x1 := pl_ext W (ep := ep) (w := w)
  have hbx : ∀ e : Env, slotG 0 e = plV ep w → oBox (slotG 0) (call bodies (n + 3)) e h = .ok (.pointer (some ⟨h.next, 0, none⟩)) (h.pushRow 0 [.int .i64 ep, w]) := fun e he => pl_box W he
  have o1 := o.ext W x1
  generalize h.pushRow 0 [.int .i64 ep, w] = g at R x1 hbx o1
  have l0 : loadN 2 ⟨h.next, 0, none⟩ g = .ok (plV ep w) g := R.loadN (by simp)
  have k1 := pright_is (n := n) x1.wf o1 hok
  refine ⟨_, ?_, x1.trans (pl_ext x1.wf (ep := ep) (w := w))⟩
  rw [call51 rfl]
  unfold d51
  simp only [setArgs_cons, setArgs_nil, Nat.succ_eq_add_one, Nat.zero_add, Nat.reduceAdd, cOp_is, cDo_is, cCond_is, cSeq_is, cBlock_is, cNorm_is, cRet_is, cExit_is, opX_ok, doX_ok, condX_true, condX_false, seqX_norm, seqX_exit, seqX_ret, blockX_norm, blockX_ret, blockX_exit, oMove_is, kV_is, slot_set, Nat.reduceLT, Nat.reduceEqDiff, if_true, if_false, reduceIte, hbx, oLoadN_is, loadsR_is, l0, oCall_is, vals_cons, vals_nil, k1, oNot_is, notR_is, Bool.not_true, leave_ret, finish_1]

/-! ### searches -/
noncomputable def fnB : C := (cOp (slotT 9) (oCmp iLt .i64 (slotG 8) (slotG 7))
(cCond (slotG 9)
(cSeq (cBlock 1 (cOp (slotT 5) (oMove (slotG 8))
(cOp (slotT 14) (oIdx 2 (slotG 0) (slotG 5))
(cOp (slotT 15) (oLoadN 2 (slotG 14))
(cOp (slotT 16) (oApply (slotG 1) [(slotG 15)])
(cCond (slotG 16)
(cOp (slotT 4) (oMove (slotG 5))
cRet)
cNorm))))))
(cOp (slotT 18) (oAdd .i64 (topOf .i64) (slotG 8) (kV (.int .i64 1)))
(cOp (slotT 8) (oMove (slotG 18))
cNorm)))
(cExit 0)))
noncomputable def fnE : C := (cOp (slotT 4) (oMove (kV (.int .i64 (-1))))
cRet)
noncomputable def fnS : C := (cSeq (cBlock 0 (cLoop (cOp (slotT 9) (oCmp iLt .i64 (slotG 8) (slotG 7))
(cCond (slotG 9)
(cSeq (cBlock 1 (cOp (slotT 5) (oMove (slotG 8))
(cOp (slotT 14) (oIdx 2 (slotG 0) (slotG 5))
(cOp (slotT 15) (oLoadN 2 (slotG 14))
(cOp (slotT 16) (oApply (slotG 1) [(slotG 15)])
(cCond (slotG 16)
(cOp (slotT 4) (oMove (slotG 5))
cRet)
cNorm))))))
(cOp (slotT 18) (oAdd .i64 (topOf .i64) (slotG 8) (kV (.int .i64 1)))
(cOp (slotT 8) (oMove (slotG 18))
cNorm)))
(cExit 0)))))
(cOp (slotT 4) (oMove (kV (.int .i64 (-1))))
cRet))
theorem fnS_is : fnS = cSeq (cBlock 0 (cLoop fnB)) fnE := rfl
noncomputable def d53h : C := (cOp (slotT 4) (oMove (kV (.int .i64 0)))
(cOp (slotT 7) (oLenS (slotG 0))
(cOp (slotT 8) (oMove (kV (.int .i64 0)))
fnS)))
theorem d53_is : d53 = d53h := rfl
theorem fn_loop {F : CallF} {h : Hp} (W : h.Wf) {b : Nat} {ws : List Pw} (R : h.Row b 38 (flatW ws)) (hl : ws.length ≤ 1000) {fv : Value} (hcall : ∀ g, h.Ext g → ∀ x ∈ ws, ∃ g', applyR F fv [plV x.1 x.2.1] g = .ok (.bool false) g' ∧ g.Ext g')
    {e : Env} (s0 : slotG 0 e = .slice (some ⟨b, 0, none⟩) ws.length ws.length) (s1 : slotG 1 e = fv) (s7 : slotG 7 e = .int .i64 (ws.length : Int)) (s8 : slotG 8 e = .int .i64 0) : ∃ e' h', cLoop fnB F e h = .exit 0 e' h' ∧ h.Ext h' := by
  refine loop_run (I := fun i e' h' => h.Ext h' ∧ slotG 0 e' = .slice (some ⟨b, 0, none⟩) ws.length ws.length ∧ slotG 1 e' = fv ∧ slotG 7 e' = .int .i64 (ws.length : Int) ∧ slotG 8 e' = .int .i64 (i : Int) ∧ i ≤ ws.length)
    (Q := fun y => ∃ e' h', y = .exit 0 e' h' ∧ h.Ext h') ws.length (by omega) (fun i e' h' ⟨x, t0, t1, t7, t8, hi⟩ => ?_) ⟨.refl W, s0, s1, s7, s8, Nat.zero_le _⟩
  by_cases hlt : i < ws.length
  · left
    have R' := R.ext W x
    have hx : ws[i]? = some ws[i] := List.getElem?_eq_getElem hlt
    have ci : idxSR 2 (.slice (some ⟨b, 0, none⟩) ws.length ws.length) (.int .i64 (i : Int)) h' = .ok (.pointer (some ⟨b, i * 2, none⟩)) h' := by
      have := idxSR_is (h := h') (es := 2) (b := b) (off := 0) (c := ws.length) (k := .i64) hlt
      rw [Nat.zero_add] at this; exact this
    have ld : loadN 2 ⟨b, i * 2, none⟩ h' = .ok (plV ws[i].1 ws[i].2.1) h' := by
      have := R'.loadN (off := i * 2) (n := 2) (by rw [flatW_len]; omega)
      rw [flatW_at ws i _ hx] at this
      exact this
    obtain ⟨g', k1, k2⟩ := hcall h' x ws[i] (List.getElem_mem hlt)
    have c1 : iLt (i : Int) (ws.length : Int) = true := by rw [iLt_is]; simp; omega
    have a3 : addR .i64 (.int .i64 (i : Int)) (.int .i64 1) g' = .ok (.int .i64 ((i + 1 : Nat) : Int)) g' := by
      have : (i : Int) + 1 = ((i + 1 : Nat) : Int) := by omega
      rw [addR_is, this, wrap_nat (by omega)]
    generalize ws[i] = y at ld k1
    have hrun : ∃ e2, fnB F e' h' = .norm e2 g' ∧ slotG 0 e2 = .slice (some ⟨b, 0, none⟩) ws.length ws.length ∧ slotG 1 e2 = fv ∧ slotG 7 e2 = .int .i64 (ws.length : Int) ∧ slotG 8 e2 = .int .i64 ((i + 1 : Nat) : Int) := by
      unfold fnB
      simp only [cOp_is, cDo_is, cCond_is, cSeq_is, cBlock_is, cNorm_is, cRet_is, cExit_is, opX_ok, doX_ok, condX_true, condX_false, seqX_norm, seqX_exit, seqX_ret, blockX_norm, blockX_ret, blockX_exit, oMove_is, kV_is, slot_set, Nat.reduceLT, Nat.reduceEqDiff, if_true, if_false, reduceIte, oCmp_is, cmpR_is, t8, t7, c1, oIdx_is, t0, ci, oLoadN_is, loadsR_is, ld, oApply_is, t1, vals_cons, vals_nil, k1, oAdd_is, a3]
      exact ⟨_, rfl, by simp only [slot_set, Nat.reduceLT, Nat.reduceEqDiff, if_true, if_false, reduceIte]; exact t0, by simp only [slot_set, Nat.reduceLT, Nat.reduceEqDiff, if_true, if_false, reduceIte]; exact t1, by simp only [slot_set, Nat.reduceLT, Nat.reduceEqDiff, if_true, if_false, reduceIte]; exact t7, by simp only [slot_set, Nat.reduceLT, Nat.reduceEqDiff, if_true, if_false, reduceIte]⟩
    obtain ⟨e2, r1, r2, r3, r4, r5⟩ := hrun
    exact ⟨hlt, e2, g', r1, x.trans k2, r2, r3, r4, r5, hlt⟩
  · right
    have c1 : iLt (i : Int) (ws.length : Int) = false := by rw [iLt_is]; simp; omega
    have hrun : ∃ e2, fnB F e' h' = .exit 0 e2 h' := by
      unfold fnB
      simp only [cOp_is, cDo_is, cCond_is, cSeq_is, cBlock_is, cNorm_is, cRet_is, cExit_is, opX_ok, doX_ok, condX_true, condX_false, seqX_norm, seqX_exit, seqX_ret, blockX_norm, blockX_ret, blockX_exit, oMove_is, kV_is, slot_set, Nat.reduceLT, Nat.reduceEqDiff, if_true, if_false, reduceIte, oCmp_is, cmpR_is, t8, t7, c1]
      exact ⟨_, rfl⟩
    obtain ⟨e2, r1⟩ := hrun
    rw [r1]
    exact ⟨rfl, e2, h', rfl, x⟩
theorem cfn_is {m : Nat} {h : Hp} (W : h.Wf) {k : Nat} {v : Value} {ws : List Pw} (d : h.Pls k v ws) (hp : 0 < ws.length) (hl : ws.length ≤ 1000) {fv : Value} (hcall : ∀ g, h.Ext g → ∀ x ∈ ws, ∃ g', applyR (call bodies m) fv [plV x.1 x.2.1] g = .ok (.bool false) g' ∧ g.Ext g') :
    ∃ h', call bodies (m + 2) 48 [v, fv] h = .ok (.bool false) h' ∧ h.Ext h' := by
  rcases d with ⟨_, rfl⟩ | ⟨b, rfl, R, _, _⟩
  · cases hp
  have ln : ∀ g : Hp, lenSR (.slice (some ⟨b, 0, none⟩) ws.length ws.length) g = .ok (.int .i64 (ws.length : Int)) g := fun _ => rfl
  have pre : ∃ e1, d53h (call bodies m) (setArgs e0 0 [.slice (some ⟨b, 0, none⟩) ws.length ws.length, fv]) h = fnS (call bodies m) e1 h ∧ slotG 0 e1 = .slice (some ⟨b, 0, none⟩) ws.length ws.length ∧ slotG 1 e1 = fv ∧ slotG 7 e1 = .int .i64 (ws.length : Int) ∧ slotG 8 e1 = .int .i64 0 := by
    unfold d53h
    simp only [setArgs_cons, setArgs_nil, Nat.succ_eq_add_one, Nat.zero_add, Nat.reduceAdd, cOp_is, opX_ok, oMove_is, kV_is, slot_set, Nat.reduceLT, Nat.reduceEqDiff, if_true, if_false, reduceIte, oLenS_is, ln]
    exact ⟨_, rfl, by simp only [slot_set, Nat.reduceLT, Nat.reduceEqDiff, if_true, if_false, reduceIte], by simp only [slot_set, Nat.reduceLT, Nat.reduceEqDiff, if_true, if_false, reduceIte], by simp only [slot_set, Nat.reduceLT, Nat.reduceEqDiff, if_true, if_false, reduceIte], by simp only [slot_set, Nat.reduceLT, Nat.reduceEqDiff, if_true, if_false, reduceIte]⟩
  obtain ⟨e1, p1, p0, pp1, p7, p8⟩ := pre
  obtain ⟨e2, h', q1, q2⟩ := fn_loop W R hl hcall p0 pp1 p7 p8
  have k1 : call bodies (m + 1) 53 [.slice (some ⟨b, 0, none⟩) ws.length ws.length, fv] h = .ok (.int .i64 (-1)) h' := by
    rw [call53 rfl, d53_is, p1, fnS_is]
    simp only [cSeq_is, cBlock_is, q1, blockX_exit, seqX_norm]
    unfold fnE
    simp only [cOp_is, cDo_is, cCond_is, cSeq_is, cBlock_is, cNorm_is, cRet_is, cExit_is, opX_ok, doX_ok, condX_true, condX_false, seqX_norm, seqX_exit, seqX_ret, blockX_norm, blockX_ret, blockX_exit, oMove_is, kV_is, slot_set, Nat.reduceLT, Nat.reduceEqDiff, if_true, if_false, reduceIte, leave_ret, finish_1]
  have c1 : iGe (-1) 0 = false := rfl
  refine ⟨h', ?_, q2⟩
  rw [call48 rfl]
  unfold d48
  simp only [setArgs_cons, setArgs_nil, Nat.succ_eq_add_one, Nat.zero_add, Nat.reduceAdd, cOp_is, cDo_is, cCond_is, cSeq_is, cBlock_is, cNorm_is, cRet_is, cExit_is, opX_ok, doX_ok, condX_true, condX_false, seqX_norm, seqX_exit, seqX_ret, blockX_norm, blockX_ret, blockX_exit, oMove_is, kV_is, slot_set, Nat.reduceLT, Nat.reduceEqDiff, if_true, if_false, reduceIte, oCall_is, vals_cons, vals_nil, k1, oCmp_is, cmpR_is, c1, leave_ret, finish_1]
theorem all_is {n : Nat} {h : Hp} (W : h.Wf) {k k' : Nat} {v : Value} {ws : List Pw} (d : h.Pls k v ws) (D : h.Nds k' ws) (hp : 0 < ws.length) (hl : ws.length ≤ 1000) (hok : ∀ x ∈ ws, okPl x.1 x.2.2) : ∃ h', call bodies (n + 7) 47 [v] h = .ok (.bool true) h' ∧ h.Ext h' := by
  obtain ⟨h', k1, k2⟩ := cfn_is (m := n + 4) W d hp hl (fv := .func (.func 51) #[] #[]) (fun g x y hy => all1_is (n := n) x.wf ((D y hy).ext W x) (hok y hy))
  have c1 : iGe (ws.length : Int) 1 = true := by rw [iGe_is]; simp; omega
  have c2 : iLe (ws.length : Int) 1000 = true := by rw [iLe_is]; simp; omega
  refine ⟨h', ?_, k2⟩
  rw [call47 rfl]
  unfold d47
  simp only [setArgs_cons, setArgs_nil, Nat.succ_eq_add_one, Nat.zero_add, Nat.reduceAdd, cOp_is, cDo_is, cCond_is, cSeq_is, cBlock_is, cNorm_is, cRet_is, cExit_is, opX_ok, doX_ok, condX_true, condX_false, seqX_norm, seqX_exit, seqX_ret, blockX_norm, blockX_ret, blockX_exit, oMove_is, kV_is, slot_set, Nat.reduceLT, Nat.reduceEqDiff, if_true, if_false, reduceIte, cG_is, guardX_tt, guardX_tf, guardX_ft, guardX_ff, guardX_none, skipC_is, oPick_is, pickR_true, pickR_false, oLenS_is, d.len, oCmp_is, cmpR_is, c1, c2, oCall_is, vals_cons, vals_nil, k1, oNot_is, notR_is, Bool.not_false, leave_ret, finish_1]
theorem node2_is {n : Nat} {h : Hp} {f : Int} (h0 : 0 ≤ f) (h1 : f < 256) : call bodies (n + 1) 45 [.int .i64 f] h = .ok (.bool true) h := by
  rw [call45 rfl]
  unfold d45
  have c1 : iGe f 0 = true := by rw [iGe_is]; simp; omega
  have c2 : iLt f 256 = true := by rw [iLt_is]; simp; omega
  simp only [setArgs_cons, setArgs_nil, Nat.succ_eq_add_one, Nat.zero_add, Nat.reduceAdd, cOp_is, cDo_is, cCond_is, cSeq_is, cBlock_is, cNorm_is, cRet_is, cExit_is, opX_ok, doX_ok, condX_true, condX_false, seqX_norm, seqX_exit, seqX_ret, blockX_norm, blockX_ret, blockX_exit, oMove_is, kV_is, slot_set, Nat.reduceLT, Nat.reduceEqDiff, if_true, if_false, reduceIte, cG_is, guardX_tt, guardX_tf, guardX_ft, guardX_ff, guardX_none, skipC_is, oPick_is, pickR_true, pickR_false, oCmp_is, cmpR_is, c1, c2, leave_ret, finish_1]
end Go.Proofs.Ytkafejncffinmaa
set_option linter.unusedVariables false
set_option linter.unusedSimpArgs false
namespace Go.Proofs.Ytkafejncffinmaa
open Go
set_option maxRecDepth 100000
noncomputable def hdT : C := (cOp (slotT 8) (oCmp iGe .i64 (slotG 7) (kV (.int .i64 0)))
(cG (slotG 8) true (slotT 10) (oLoadN 2 (slotG 3))
(cG (slotG 8) true (slotT 11) (oLoad1 (slotG 2))
(cG (slotG 8) true (slotT 12) (oCall 11 [(slotG 10), (slotG 11)])
(cG (slotG 8) true (slotT 13) (oCmp iGe .i64 (slotG 12) (kV (.int .i64 0)))
(cG (slotG 8) true (slotT 14) (oMove (slotG 13))
(cG (slotG 14) false (slotT 15) (oFieldAddr 0 (slotG 3))
(cG (slotG 14) false (slotT 16) (oLoad1 (slotG 15))
(cG (slotG 14) false (slotT 17) (oCmp iGe .i64 (slotG 16) (kV (.int .i64 1099511627776)))
(cG (slotG 8) true (slotT 18) (oPick (slotG 14) (kV (.bool true)) (slotG 17))
(cOp (slotT 19) (oPick (slotG 8) (slotG 18) (kV (.bool false)))
(cOp (slotT 4) (oMove (slotG 19))
cRet))))))))))))
noncomputable def d46h : C := (cOp (slotT 3) (oBox (slotG 0))
(cOp (slotT 4) (oMove (kV (.bool false)))
(cOp (slotT 5) (oLoadN 2 (slotG 3))
(cOp (slotT 6) (oLoad1 (slotG 1))
(cOp (slotT 7) (oCall 11 [(slotG 5), (slotG 6)])
hdT)))))
theorem d46_is : d46 = d46h := rfl
theorem hd_no {F : CallF} {h : Hp} {e : Env} {x : Int} (s7 : slotG 7 e = .int .i64 x) (c1 : iGe x 0 = false) : ∃ e', hdT F e h = .ret e' h ∧ slotG 4 e' = .bool false := by
  unfold hdT
  simp only [cOp_is, cDo_is, cCond_is, cSeq_is, cBlock_is, cNorm_is, cRet_is, cExit_is, opX_ok, doX_ok, condX_true, condX_false, seqX_norm, seqX_exit, seqX_ret, blockX_norm, blockX_ret, blockX_exit, oMove_is, kV_is, slot_set, Nat.reduceLT, Nat.reduceEqDiff, if_true, if_false, reduceIte, cG_is, guardX_tt, guardX_tf, guardX_ft, guardX_ff, guardX_none, skipC_is, oPick_is, pickR_true, pickR_false, s7, oCmp_is, cmpR_is, c1]
  exact ⟨_, rfl, by simp only [slot_set, Nat.reduceLT, Nat.reduceEqDiff, if_true, if_false, reduceIte]⟩
theorem hd_yes {F : CallF} {h h2 : Hp} {e : Env} {A b5 : Nat} {x y ep to_ : Int} {p : Value} (s7 : slotG 7 e = .int .i64 x) (c1 : iGe x 0 = true) (s3 : slotG 3 e = .pointer (some ⟨A, 0, none⟩)) (s2 : slotG 2 e = .pointer (some ⟨b5, 0, none⟩)) (l2 : loadN 2 ⟨A, 0, none⟩ h = .ok p h) (l5 : load1 ⟨b5, 0, none⟩ h = .ok (.int .i64 to_) h)
    (k2 : F 11 [p, .int .i64 to_] h = .ok (.int .i64 y) h2) (c2 : iGe y 0 = false) (l3 : load1 ⟨A, 0, none⟩ h2 = .ok (.int .i64 ep) h2) (c3 : iGe ep 1099511627776 = false) : ∃ e', hdT F e h = .ret e' h2 ∧ slotG 4 e' = .bool false := by
  unfold hdT
  simp only [cOp_is, cDo_is, cCond_is, cSeq_is, cBlock_is, cNorm_is, cRet_is, cExit_is, opX_ok, doX_ok, condX_true, condX_false, seqX_norm, seqX_exit, seqX_ret, blockX_norm, blockX_ret, blockX_exit, oMove_is, kV_is, slot_set, Nat.reduceLT, Nat.reduceEqDiff, if_true, if_false, reduceIte, cG_is, guardX_tt, guardX_tf, guardX_ft, guardX_ff, guardX_none, skipC_is, oPick_is, pickR_true, pickR_false, s7, oCmp_is, cmpR_is, c1, oLoadN_is, s3, loadsR_is, l2, oLoad1_is, s2, loadR_is, l5, oCall_is, vals_cons, vals_nil, k2, c2, oFieldAddr_is', fieldAR_is, Nat.zero_add, l3, c3]
  exact ⟨_, rfl, by simp only [slot_set, Nat.reduceLT, Nat.reduceEqDiff, if_true, if_false, reduceIte]⟩
theorem hinder_is {n : Nat} {h : Hp} (W : h.Wf) {k b4 b5 : Nat} {ep from_ to_ : Int} {w : Value} {zs : List Int} (o : h.Own k 3 w (ints .i64 zs)) (hok : okPl ep zs) (hto : to_ ∉ zs) (r4 : h.Row b4 0 [.int .i64 from_]) (r5 : h.Row b5 0 [.int .i64 to_]) :
    ∃ h', call bodies (n + 3) 46 [plV ep w, .pointer (some ⟨b4, 0, none⟩), .pointer (some ⟨b5, 0, none⟩)] h = .ok (.bool false) h' ∧ h.Ext h' := by
  obtain ⟨h1, h2, h3, h4, _, _⟩ := hok
  have R := Hp.Row.new W 0 [.int .i64 ep, w]
  have x1 := pl_ext W (ep := ep) (w := w)
  have hbx : ∀ e : Env, slotG 0 e = plV ep w → oBox (slotG 0) (call bodies (n + 2)) e h = .ok (.pointer (some ⟨h.next, 0, none⟩)) (h.pushRow 0 [.int .i64 ep, w]) := fun e he => pl_box W he
  have o1 := o.ext W x1
  have r41 := r4.ext W x1
  have r51 := r5.ext W x1
  generalize h.pushRow 0 [.int .i64 ep, w] = g at R x1 hbx o1 r41 r51
  have l0 : loadN 2 ⟨h.next, 0, none⟩ g = .ok (plV ep w) g := R.loadN (by simp)
  have l4 : load1 ⟨b4, 0, none⟩ g = .ok (.int .i64 from_) g := r41.load1 (off := 0) (by simp)
  have k1 := pindex_is (n := n) (x := from_) x1.wf (ep := ep) o1.vals (by omega)
  have y2 := pl_ext x1.wf (ep := ep) (w := w)
  have x2 := x1.trans y2
  have o2 := o1.ext x1.wf y2
  have R2 := R.ext x1.wf y2
  have r52 := r51.ext x1.wf y2
  generalize g.pushRow 0 [.int .i64 ep, w] = g2 at k1 x2 o2 R2 r52 y2
  have l2 : loadN 2 ⟨h.next, 0, none⟩ g2 = .ok (plV ep w) g2 := R2.loadN (by simp)
  have l5 : load1 ⟨b5, 0, none⟩ g2 = .ok (.int .i64 to_) g2 := r52.load1 (off := 0) (by simp)
  have k2 := pindex_is (n := n) (x := to_) x2.wf (ep := ep) o2.vals (by omega)
  have x3 := x2.trans (pl_ext x2.wf (ep := ep) (w := w))
  have R3 := R2.ext x2.wf (pl_ext x2.wf (ep := ep) (w := w))
  generalize g2.pushRow 0 [.int .i64 ep, w] = g3 at k2 x3 R3
  have l3 : load1 ⟨h.next, 0, none⟩ g3 = .ok (.int .i64 ep) g3 := R3.load1 (off := 0) (by simp)
  have pre : ∃ e1, d46h (call bodies (n + 2)) (setArgs e0 0 [plV ep w, .pointer (some ⟨b4, 0, none⟩), .pointer (some ⟨b5, 0, none⟩)]) h = hdT (call bodies (n + 2)) e1 g2 ∧ slotG 7 e1 = .int .i64 (idxZ from_ 0 zs) ∧ slotG 3 e1 = .pointer (some ⟨h.next, 0, none⟩) ∧ slotG 2 e1 = .pointer (some ⟨b5, 0, none⟩) := by
    unfold d46h
    simp only [setArgs_cons, setArgs_nil, Nat.succ_eq_add_one, Nat.zero_add, Nat.reduceAdd, cOp_is, opX_ok, oMove_is, kV_is, slot_set, Nat.reduceLT, Nat.reduceEqDiff, if_true, if_false, reduceIte, hbx, oLoadN_is, loadsR_is, l0, oLoad1_is, loadR_is, l4, oCall_is, vals_cons, vals_nil, k1]
    exact ⟨_, rfl, by simp only [slot_set, Nat.reduceLT, Nat.reduceEqDiff, if_true, if_false, reduceIte], by simp only [slot_set, Nat.reduceLT, Nat.reduceEqDiff, if_true, if_false, reduceIte], by simp only [slot_set, Nat.reduceLT, Nat.reduceEqDiff, if_true, if_false, reduceIte]⟩
  obtain ⟨e1, p1, p7, p3, p2⟩ := pre
  by_cases hf : from_ ∈ zs
  · have c1 : iGe (idxZ from_ 0 zs) 0 = true := by rw [iGe_idx]; simpa using hf
    have c2 : iGe (idxZ to_ 0 zs) 0 = false := by rw [iGe_idx]; simpa using hto
    have c3 : iGe ep 1099511627776 = false := by rw [iGe_is]; simp; omega
    obtain ⟨e2, q1, q2⟩ := hd_yes p7 c1 p3 p2 l2 l5 k2 c2 l3 c3
    refine ⟨g3, ?_, x3⟩
    rw [call46 rfl, d46_is, p1, q1]
    simp only [leave_ret, finish_1, q2]
  · have c1 : iGe (idxZ from_ 0 zs) 0 = false := by rw [iGe_idx]; simpa using hf
    obtain ⟨e2, q1, q2⟩ := hd_no (F := call bodies (n + 2)) (h := g2) p7 c1
    refine ⟨g2, ?_, x2⟩
    rw [call46 rfl, d46_is, p1, q1]
    simp only [leave_ret, finish_1, q2]
end Go.Proofs.Ytkafejncffinmaa
set_option linter.unusedVariables false
set_option linter.unusedSimpArgs false
namespace Go.Proofs.Ytkafejncffinmaa
open Go
set_option maxRecDepth 100000

/-! ### rows of two cells to an element -/
def Hp.Own2 (h : Hp) (k : Nat) (v : Value) (cs : List Value) (n : Nat) : Prop := (v = .slice none 0 0 ∧ cs = [] ∧ n = 0) ∨ ∃ b, v = .slice (some ⟨b, 0, none⟩) n n ∧ h.Row b 38 cs ∧ cs.length = n * 2 ∧ k ≤ b ∧ 256 ≤ b
theorem Hp.Own2.keep {h h' : Hp} {k n : Nat} {v : Value} {cs : List Value} (o : h.Own2 k v cs n) (hk : ∀ b el L, blkV v b → h.Row b el L → h'.Row b el L) : h'.Own2 k v cs n := by
  rcases o with h1 | ⟨b, h1, h2, h3⟩
  · exact .inl h1
  · exact .inr ⟨b, h1, hk b _ _ ⟨0, _, _, h1⟩ h2, h3⟩
theorem Hp.Own2.ext {h h' : Hp} {k n : Nat} {v : Value} {cs : List Value} (o : h.Own2 k v cs n) (W : h.Wf) (x : h.Ext h') : h'.Own2 k v cs n := o.keep fun _ _ _ _ r => r.ext W x
theorem Hp.Own2.other {h : Hp} {k n b el : Nat} {v : Value} {cs L : List Value} (o : h.Own2 k v cs n) (r : h.Row b el L) (he : el ≠ 38) : ¬ blkV v b := by
  rcases o with ⟨rfl, _⟩ | ⟨c, rfl, rc, _⟩
  · exact blkV_nil
  · exact blkV_at (kind_ne r rc he)
theorem Hp.Own2.len {h g : Hp} {k n : Nat} {v : Value} {cs : List Value} (o : h.Own2 k v cs n) : lenSR v g = .ok (.int .i64 (n : Int)) g := by
  rcases o with ⟨rfl, _, rfl⟩ | ⟨b, rfl, _⟩ <;> rfl
theorem Hp.Own2.pls {h : Hp} {k : Nat} {v : Value} {ws : List Pw} (o : h.Own2 k v (flatW ws) ws.length) : h.Pls k v ws := by
  rcases o with ⟨h1, h2, h3⟩ | ⟨b, h1, h2, h3, h4⟩
  · refine .inl ⟨h1, ?_⟩
    cases ws with
    | nil => rfl
    | cons x l => cases h3
  · exact .inr ⟨b, h1, h2, h4⟩
theorem src2 {h : Hp} {b : Nat} {p q : Value} (r : h.Row b 0 [p, q]) {k : List Value → R} : srcCells h 2 (.slice (some ⟨b, 0, none⟩) 1 1) 1 k = k [p, q] := by
  obtain ⟨cc, hc, hl⟩ := r.rowOf
  unfold srcCells
  simp only [hc]
  have e : Nat.mul 1 2 = 2 := rfl
  rw [e]
  simp only [Nat.add_eq]
  rw [nat_ble.2 (show 0 + 2 ≤ [p, q].length by simp)]
  simp only [cond_true, getN_is, List.append_nil, Is.rowL hl 0 2 (by simp)]
  rfl
theorem two_slice {F : CallF} {e : Env} {h : Hp} (W : h.Wf) {g : O} {p q : Value} (hv : g e = .agg ⟨[p, q]⟩) : oBuildSlice 1 (repL ty37.zero 1) [(0, 2, g)] F e h = .ok (.slice (some ⟨h.next, 0, none⟩) 1 1) (h.pushRow 0 [p, q]) := by
  have hz : repL ty37.zero 1 = [.int .i64 0, .slice none 0 0] := by kernel_rfl
  have hc : cellsOf (.agg ⟨[p, q]⟩) = [p, q] := rfl
  rw [hz, oBuildSlice_is, fillL_cons (hk := by rw [hv]; rfl), hv, hc, if_pos (show [p, q].length = 2 from rfl), if_pos (show 0 + 2 ≤ [Value.int .i64 0, .slice none 0 0].length from Nat.le_refl _), fillL_nil, newRow_is W]; rfl
theorem own2_one {h0 h : Hp} {k n : Nat} {v p q : Value} {cs : List Value} (x0 : h0.Ext h) (hk : h0.next ≤ k) (hk2 : k ≤ h.next) (o : h.Own2 k v cs n) (ha : allOne [p, q] = true) (hn : n ≤ 100000) :
    ∃ h' v', appR 2 32 37 v (.slice (some ⟨h.next, 0, none⟩) 1 1) (h.pushRow 0 [p, q]) = .ok v' h' ∧ h0.Ext h' ∧ h'.Own2 k v' (cs ++ [p, q]) (n + 1) ∧ h'.next = h.next + 2 ∧ ∀ b el L, ¬ blkV v b → h.Row b el L → h'.Row b el L ∧ ¬ blkV v' b := by
  have W0 := x0.wf
  have x1 := x0.pushRow 0 [p, q]
  have y1 := (Hp.Ext.refl W0).pushRow 0 [p, q]
  have r1 := Hp.Row.new W0 0 [p, q]
  have n1 : (h.pushRow 0 [p, q]).next = h.next + 1 := rfl
  have o1 := o.ext W0 y1
  generalize hg : h.pushRow 0 [p, q] = g at x1 y1 r1 n1 o1
  have W := x1.wf
  have sr : ∀ k : List Value → R, srcCells g 2 (.slice (some ⟨h.next, 0, none⟩) 1 1) 1 k = k [p, q] := fun k => src2 r1
  have lv : lenV (.slice (some ⟨h.next, 0, none⟩) 1 1) = .ok 1 := rfl
  rcases o1 with ⟨rfl, rfl, rfl⟩ | ⟨b, rfl, r, hlen, hb, hb2⟩
  · obtain ⟨t1, t2⟩ := ofL_is [p, q]
    refine ⟨g.push (.cells (ofL [p, q]) 2 38), .slice (some ⟨g.next, 0, none⟩) 1 1, ?_, x1.push _, .inr ⟨g.next, rfl, ⟨ofL [p, q], by rw [W.push_get, if_pos rfl]; rfl, t2⟩, rfl, by omega, W.big⟩, by show g.next + 1 = _; omega, fun b' el' L' _ r' => ⟨(r'.ext W0 y1).push W _, blkV_at (by have := r'.lt W0; omega)⟩⟩
    unfold appR appendF
    simp only [lv, sr, forceN_is, Nat.add_eq, Nat.zero_add]
    have e1 : Nat.ble 1 0 = false := rfl
    have e2 : Nat.ble (Nat.mul (Nat.succ 1) (Nat.succ 32)) most = true := nat_ble.2 (by show 66 ≤ 1099511627776; omega)
    simp only [e2, cond_true, ha]
    unfold growA srcCells growF
    simp only [List.nil_append, t1]
    unfold growT
    simp only [lenL_is]
    unfold newRowT
    rw [forceN_is, newBlk_is W]; rfl
  · obtain ⟨cc, hcc, hl⟩ := r.rowOf
    obtain ⟨t, h2, h3⟩ := setAll_is [p, q] cc cs cs.length hl (.inr rfl)
    have h3 : t.Is (cs ++ [p, q]) := by
      have e : cs.drop (cs.length + [p, q].length) = [] := List.drop_of_length_le (by omega)
      rw [e] at h3
      simpa using h3
    have hlen2 : (cs ++ [p, q]).length = cs.length + 2 := List.length_append
    have hlt := r.lt W
    have W1 : (g.put b .dead).Wf := W.put hlt _
    have x2 : h0.Ext (g.put b .dead) := x1.put (by omega) hlt _
    refine ⟨(g.put b .dead).push (.cells t (cs.length + 2) 38), .slice (some ⟨g.next, 0, none⟩) (n + 1) (n + 1), ?_, x2.push _, .inr ⟨g.next, rfl, ⟨t, by
      have := W1.push_get (.cells t (cs.length + 2) 38) g.next
      rw [this, if_pos (show g.next = (g.put b .dead).next from rfl), hlen2], h3⟩, by rw [hlen2]; omega, by omega, W.big⟩, by show g.next + 1 = _; omega, fun b' el' L' hne r' => ?_⟩
    · unfold appR appendF
      simp only [lv, sr, forceN_is, Nat.add_eq]
      have e1 : Nat.ble (n + 1) n = false := by
        cases e : Nat.ble (n + 1) n
        · rfl
        · have := nat_ble.1 e; omega
      have e2 : Nat.ble (Nat.mul (Nat.succ (n + 1)) (Nat.succ 32)) most = true := nat_ble.2 (by show (n + 1 + 1) * 33 ≤ 1099511627776; omega)
      rw [e1]
      simp only [e2, cond_true, ha]
      unfold growA
      have e3 : Nat.beq cs.length (Nat.mul n 2) = true := nat_beq.2 hlen
      simp only [hcc, e3, h2]
      unfold growT
      have e4 : atEnd 0 n 2 cs.length = true := by
        unfold atEnd
        cases n with
        | zero => rfl
        | succ m => exact nat_beq.2 (by show 0 + (m + 1) * 2 = cs.length; omega)
      simp only [hcc, lenL_is, Nat.add_eq, Nat.beq_refl, cond_true, e4]
      rw [putBlk_is W hb2 hlt]
      unfold newRowT
      rw [forceN_is, newBlk_is W1]; rfl
    · have hne' : b' ≠ b := fun e => hne ⟨0, _, _, by rw [e]⟩
      have hb' : b' < h.next := r'.lt W0
      obtain ⟨c', hc', hl'⟩ := r'.ext W0 y1
      refine ⟨⟨c', ?_, hl'⟩, blkV_at (by omega)⟩
      rw [W1.push_get, if_neg (by show b' ≠ g.next; omega), W.put_get hlt, if_neg hne', hc']

/-! ### the loop -/
noncomputable def mvA : C := (cOp (slotT 56) (oFieldAddr 1 (slotG 14))
(cOp (slotT 57) (oLoad1 (slotG 56))
(cOp (slotT 59) (oLoad1 (slotG 5))
(cOp (slotT 60) (oIdx 1 (slotG 57) (slotG 15))
(cDo (oStore 1 (slotG 60) (slotG 59))
(cOp (slotT 61) (oFieldAddr 0 (slotG 14))
(cOp (slotT 62) (oLoad1 (slotG 61))
(cOp (slotT 63) (oAdd .i64 (topOf .i64) (slotG 62) (kV (.int .i64 1)))
(cOp (slotT 64) (oFieldAddr 0 (slotG 14))
(cDo (oStore 1 (slotG 64) (slotG 63))
(cOp (slotT 67) (oBuildSlice 1 (repL ty3.zero 1) [(0, 1, (slotG 13))])
(cOp (slotT 68) (oAppend 1 8 3 (slotG 12) (slotG 67))
(cOp (slotT 12) (oMove (slotG 68))
cNorm)))))))))))))
noncomputable def mvB2 : C := (cOp (slotT 70) (oLoadN 2 (slotG 14))
(cOp (slotT 71) (oBuildSlice 1 (repL ty37.zero 1) [(0, 2, (slotG 70))])
(cOp (slotT 72) (oAppend 2 32 37 (slotG 11) (slotG 71))
(cOp (slotT 11) (oMove (slotG 72))
cNorm))))
noncomputable def mvL : C := (cOp (slotT 45) (oCmp iLt .i64 (slotG 44) (slotG 43))
(cCond (slotG 45)
(cSeq (cBlock 2 (cOp (slotT 47) (oIdx 2 (slotG 42) (slotG 44))
(cOp (slotT 48) (oLoadN 2 (slotG 47))
(cOp (slotT 14) (oAlloc 2 zt37)
(cOp (slotT 13) (oMove (slotG 44))
(cDo (oStore 2 (slotG 14) (slotG 48))
(cOp (slotT 49) (oLoadN 2 (slotG 14))
(cOp (slotT 50) (oCall 32 [(slotG 49)])
(cDo (oStore 2 (slotG 14) (slotG 50))
(cOp (slotT 51) (oLoadN 2 (slotG 14))
(cOp (slotT 52) (oLoad1 (slotG 4))
(cOp (slotT 53) (oCall 11 [(slotG 51), (slotG 52)])
(cOp (slotT 15) (oMove (slotG 53))
(cOp (slotT 55) (oCmp iGe .i64 (slotG 15) (kV (.int .i64 0)))
(cSeq (cCond (slotG 55)
mvA
cNorm)
mvB2)))))))))))))))
(cOp (slotT 73) (oAdd .i64 (topOf .i64) (slotG 44) (kV (.int .i64 1)))
(cOp (slotT 44) (oMove (slotG 73))
cNorm)))
(cExit 1)))
noncomputable def mvE : C := (cOp (slotT 6) (oMove (slotG 11))
(cOp (slotT 7) (oMove (slotG 12))
(cOp (slotT 8) (oMove (kV (.int .i64 0)))
cRet)))
/-- what the loop keeps -/
def keepM (e e2 : Env) : Prop := slotG 4 e2 = slotG 4 e ∧ slotG 5 e2 = slotG 5 e ∧ slotG 14 e2 = slotG 14 e ∧ slotG 42 e2 = slotG 42 e ∧ slotG 43 e2 = slotG 43 e ∧ slotG 44 e2 = slotG 44 e
theorem mvA_is {F : CallF} {hL g : Hp} {k c b5 n i j : Nat} {ep to_ : Int} {w vg vo : Value} {zs gs : List Int} {cs : List Value} (hL256 : 256 ≤ hL.next) (x : hL.Ext g) (hk : hL.next ≤ k) (hk2 : k ≤ g.next) (hc : k ≤ c) (Rc : g.Row c 0 [.int .i64 ep, w]) (R5 : g.Row b5 0 [.int .i64 to_]) (o : g.Own k 3 w (ints .i64 zs)) (G : g.Own k 3 vg (ints .i64 gs)) (hne : ∀ b, blkV w b → ¬ blkV vg b) (U : g.Own2 k vo cs n)
    (hj : j < zs.length) (hep : 0 ≤ ep ∧ ep < 1099511627776) (hgs : gs.length ≤ 100000) (hb5 : b5 < c) {e : Env} (s5 : slotG 5 e = .pointer (some ⟨b5, 0, none⟩)) (s11 : slotG 11 e = vo) (s12 : slotG 12 e = vg) (s13 : slotG 13 e = .int .i64 (i : Int)) (s14 : slotG 14 e = .pointer (some ⟨c, 0, none⟩)) (s15 : slotG 15 e = .int .i64 (j : Int)) :
    ∃ e2 g2 vg2, mvA F e g = .norm e2 g2 ∧ hL.Ext g2 ∧ g.next ≤ g2.next ∧ g2.Row c 0 [.int .i64 (ep + 1), w] ∧ g2.Own k 3 vg2 (ints .i64 (gs ++ [(i : Int)])) ∧ g2.Own2 k vo cs n ∧ keepM e e2 ∧ slotG 11 e2 = vo ∧ slotG 12 e2 = vg2 := by
  have W := x.wf
  have big : 256 ≤ c := Nat.le_trans hL256 (Nat.le_trans hk hc)
  obtain ⟨b, hw⟩ := o.at (by rw [ints_len]; omega)
  rw [ints_len] at hw
  have Rw : g.Row b 4 (ints .i64 zs) ∧ k ≤ b ∧ 256 ≤ b := by
    rcases o with ⟨h1, _⟩ | ⟨b', h1, h2, h3, h4⟩
    · rw [hw] at h1; cases h1
    · rw [hw] at h1
      injection h1 with h1 _ _
      injection h1 with h1
      injection h1 with h1 _ _
      subst h1
      exact ⟨h2, h3, h4⟩
  obtain ⟨Rw, hkb, hb256⟩ := Rw
  have ne1 : c ≠ b := kind_ne Rc Rw (by omega)
  have ne5 : b5 ≠ b := kind_ne R5 Rw (by omega)
  have lw : load1 ⟨c, 1, none⟩ g = .ok w g := Rc.load1 (off := 1) (by simp)
  have l5 : load1 ⟨b5, 0, none⟩ g = .ok (.int .i64 to_) g := R5.load1 (off := 0) (by simp)
  have ci : idxSR 1 w (.int .i64 (j : Int)) g = .ok (.pointer (some ⟨b, j, none⟩)) g := by
    rw [hw]
    have := idxSR_is (h := g) (es := 1) (b := b) (off := 0) (c := zs.length) (k := .i64) hj
    rw [Nat.zero_add, Nat.mul_one] at this; exact this
  -- the node
  have ho : j + [Value.int .i64 to_].length ≤ (ints .i64 zs).length := by rw [ints_len]; simp; omega
  have st1 := Rw.storeR (n := 1) (off := j) W hb256 (v := .int .i64 to_) rfl ho rfl
  have x1 := Rw.wr_ext x (Nat.le_trans hk hkb) (off := j) (vs := cellsOf (.int .i64 to_)) ho
  have n1 := Rw.wr_next (off := j) (vs := cellsOf (.int .i64 to_)) ho
  have o1 : ∀ b' el L, b' ≠ b → g.Row b' el L → (g.wr b j (cellsOf (.int .i64 to_))).Row b' el L := fun b' el L hn r => Rw.wr_other W (off := j) (vs := cellsOf (.int .i64 to_)) ho r hn
  have Rc1 := o1 _ _ _ ne1 Rc
  have G1 : (g.wr b j (cellsOf (.int .i64 to_))).Own k 3 vg (ints .i64 gs) := G.keep fun b' el L hb r => o1 b' el L (fun hx => hne b ⟨0, _, _, hw⟩ (hx ▸ hb)) r
  have U1 : (g.wr b j (cellsOf (.int .i64 to_))).Own2 k vo cs n := U.keep fun b' el L hb r => o1 b' el L (fun hx => U.other Rw (by omega) (hx ▸ hb)) r
  generalize g.wr b j (cellsOf (.int .i64 to_)) = g1 at st1 x1 n1 o1 Rc1 G1 U1
  -- the epoch
  have le : load1 ⟨c, 0, none⟩ g1 = .ok (.int .i64 ep) g1 := Rc1.load1 (off := 0) (by simp)
  have ae : addR .i64 (.int .i64 ep) (.int .i64 1) g1 = .ok (.int .i64 (ep + 1)) g1 := by rw [addR_is, wrap_int (by omega) (by omega)]
  have st2 := Rc1.storeR (n := 1) (off := 0) x1.wf big (v := .int .i64 (ep + 1)) rfl (by simp [cellsOf]) rfl
  have x2 := Rc1.wr_ext x1 (Nat.le_trans hk hc) (off := 0) (vs := cellsOf (.int .i64 (ep + 1))) (by simp [cellsOf])
  have n2 := Rc1.wr_next (off := 0) (vs := cellsOf (.int .i64 (ep + 1))) (by simp [cellsOf])
  have o2 : ∀ b' el L, b' ≠ c → g1.Row b' el L → (g1.wr c 0 (cellsOf (.int .i64 (ep + 1)))).Row b' el L := fun b' el L hn r => Rc1.wr_other x1.wf (off := 0) (vs := cellsOf (.int .i64 (ep + 1))) (by simp [cellsOf]) r hn
  have Rc2 := Rc1.wr_self x1.wf (off := 0) (vs := cellsOf (.int .i64 (ep + 1))) (by simp [cellsOf])
  have G2 : (g1.wr c 0 (cellsOf (.int .i64 (ep + 1)))).Own k 3 vg (ints .i64 gs) := G1.keep fun b' el L hb r => o2 b' el L (fun hx => G1.other Rc1 (by omega) (hx ▸ hb)) r
  have U2 : (g1.wr c 0 (cellsOf (.int .i64 (ep + 1)))).Own2 k vo cs n := U1.keep fun b' el L hb r => o2 b' el L (fun hx => U1.other Rc1 (by omega) (hx ▸ hb)) r
  generalize g1.wr c 0 (cellsOf (.int .i64 (ep + 1))) = g2 at st2 x2 n2 o2 Rc2 G2 U2
  have Rc2 : g2.Row c 0 [.int .i64 (ep + 1), w] := Rc2
  -- the group
  have os : ∀ e : Env, slotG 13 e = .int .i64 (i : Int) → oBuildSlice 1 (repL ty3.zero 1) [(0, 1, slotG 13)] F e g2 = .ok (.slice (some ⟨g2.next, 0, none⟩) 1 1) (g2.pushRow 0 [.int .i64 (i : Int)]) := fun e he => by rw [zero3]; exact one_slice x2.wf he rfl rfl
  obtain ⟨g3, vg2, a1, a2, a3, a4, a5⟩ := own_one (eb := 8) (n := (i : Int)) (kd := .i64) x2 hk (by omega) G2 (by rw [ints_len]; omega)
  have a3 : g3.Own k 3 vg2 (ints .i64 (gs ++ [(i : Int)])) := by unfold ints; rw [List.map_append]; exact a3
  have Rc3 := (a5 _ _ _ (G2.other Rc2 (by omega)) Rc2).1
  have U3 : g3.Own2 k vo cs n := by
    rcases U2 with h1 | ⟨b', h1, h2, h3⟩
    · exact .inl h1
    · exact .inr ⟨b', h1, (a5 _ _ _ (G2.other h2 (by omega)) h2).1, h3⟩
  have hrun : ∃ e2, mvA F e g = .norm e2 g3 ∧ keepM e e2 ∧ slotG 11 e2 = vo ∧ slotG 12 e2 = vg2 := by
    unfold mvA keepM
    simp only [cOp_is, cDo_is, cCond_is, cSeq_is, cBlock_is, cNorm_is, cRet_is, cExit_is, opX_ok, doX_ok, condX_true, condX_false, seqX_norm, seqX_exit, seqX_ret, blockX_norm, blockX_ret, blockX_exit, oMove_is, kV_is, slot_set, Nat.reduceLT, Nat.reduceEqDiff, if_true, if_false, reduceIte, oFieldAddr_is', s14, fieldAR_is, oLoad1_is, loadR_is, Nat.zero_add, lw, s5, l5, oIdx_is, s15, ci, oStore_is, st1, le, oAdd_is, ae, st2, os, s13, oAppend_is, s12, a1]
    exact ⟨_, rfl, ⟨by simp only [slot_set, Nat.reduceLT, Nat.reduceEqDiff, if_true, if_false, reduceIte], by simp only [slot_set, Nat.reduceLT, Nat.reduceEqDiff, if_true, if_false, reduceIte, s5], by simp only [slot_set, Nat.reduceLT, Nat.reduceEqDiff, if_true, if_false, reduceIte, s14], by simp only [slot_set, Nat.reduceLT, Nat.reduceEqDiff, if_true, if_false, reduceIte], by simp only [slot_set, Nat.reduceLT, Nat.reduceEqDiff, if_true, if_false, reduceIte], by simp only [slot_set, Nat.reduceLT, Nat.reduceEqDiff, if_true, if_false, reduceIte]⟩, by simp only [slot_set, Nat.reduceLT, Nat.reduceEqDiff, if_true, if_false, reduceIte]; exact s11, by simp only [slot_set, Nat.reduceLT, Nat.reduceEqDiff, if_true, if_false, reduceIte]⟩
  obtain ⟨e2, r1, r2, r3, r4⟩ := hrun
  exact ⟨e2, g3, vg2, r1, a2, by omega, Rc3, a3, U3, r2, r3, r4⟩
theorem mvB2_is {F : CallF} {hL g : Hp} {k c n : Nat} {ep : Int} {w vg vo : Value} {gs : List Int} {cs : List Value} (x : hL.Ext g) (hk : hL.next ≤ k) (hk2 : k ≤ g.next) (Rc : g.Row c 0 [.int .i64 ep, w]) (hw : oneCell w = true) (G : g.Own k 3 vg (ints .i64 gs)) (U : g.Own2 k vo cs n) (hn : n ≤ 100000)
    {e : Env} (s11 : slotG 11 e = vo) (s12 : slotG 12 e = vg) (s14 : slotG 14 e = .pointer (some ⟨c, 0, none⟩)) :
    ∃ e2 g2 vo2 cs2, mvB2 F e g = .norm e2 g2 ∧ hL.Ext g2 ∧ g.next ≤ g2.next ∧ g2.Own k 3 vg (ints .i64 gs) ∧ g2.Own2 k vo2 cs2 (n + 1) ∧ keepM e e2 ∧ slotG 11 e2 = vo2 ∧ slotG 12 e2 = vg := by
  have ld : loadN 2 ⟨c, 0, none⟩ g = .ok (.agg ⟨[.int .i64 ep, w]⟩) g := Rc.loadN (by simp)
  have ts : ∀ e : Env, slotG 70 e = .agg ⟨[.int .i64 ep, w]⟩ → oBuildSlice 1 (repL ty37.zero 1) [(0, 2, slotG 70)] F e g = .ok (.slice (some ⟨g.next, 0, none⟩) 1 1) (g.pushRow 0 [.int .i64 ep, w]) := fun e he => two_slice x.wf he
  obtain ⟨g2, vo2, a1, a2, a3, a4, a5⟩ := own2_one x hk hk2 U (p := .int .i64 ep) (q := w) (by show (bif oneCell w then true else false) = true; rw [hw]; rfl) hn
  have G2 : g2.Own k 3 vg (ints .i64 gs) := by
    rcases G with h1 | ⟨b, h1, h2, h3⟩
    · exact .inl h1
    · exact .inr ⟨b, h1, (a5 _ _ _ (U.other h2 (by omega)) h2).1, h3⟩
  have hrun : ∃ e2, mvB2 F e g = .norm e2 g2 ∧ keepM e e2 ∧ slotG 11 e2 = vo2 ∧ slotG 12 e2 = vg := by
    unfold mvB2 keepM
    simp only [cOp_is, cDo_is, cCond_is, cSeq_is, cBlock_is, cNorm_is, cRet_is, cExit_is, opX_ok, doX_ok, condX_true, condX_false, seqX_norm, seqX_exit, seqX_ret, blockX_norm, blockX_ret, blockX_exit, oMove_is, kV_is, slot_set, Nat.reduceLT, Nat.reduceEqDiff, if_true, if_false, reduceIte, oLoadN_is, s14, loadsR_is, ld, ts, oAppend_is, s11, a1]
    exact ⟨_, rfl, ⟨by simp only [slot_set, Nat.reduceLT, Nat.reduceEqDiff, if_true, if_false, reduceIte], by simp only [slot_set, Nat.reduceLT, Nat.reduceEqDiff, if_true, if_false, reduceIte], by simp only [slot_set, Nat.reduceLT, Nat.reduceEqDiff, if_true, if_false, reduceIte, s14], by simp only [slot_set, Nat.reduceLT, Nat.reduceEqDiff, if_true, if_false, reduceIte], by simp only [slot_set, Nat.reduceLT, Nat.reduceEqDiff, if_true, if_false, reduceIte], by simp only [slot_set, Nat.reduceLT, Nat.reduceEqDiff, if_true, if_false, reduceIte]⟩, by simp only [slot_set, Nat.reduceLT, Nat.reduceEqDiff, if_true, if_false, reduceIte], by simp only [slot_set, Nat.reduceLT, Nat.reduceEqDiff, if_true, if_false, reduceIte]; exact s12⟩
  obtain ⟨e2, r1, r2, r3, r4⟩ := hrun
  exact ⟨e2, g2, vo2, _, r1, a2, by omega, G2, a3, r2, r3, r4⟩
end Go.Proofs.Ytkafejncffinmaa
set_option linter.unusedVariables false
set_option linter.unusedSimpArgs false
namespace Go.Proofs.Ytkafejncffinmaa
open Go
set_option maxRecDepth 100000
noncomputable def mvP : C := (cSeq (cCond (slotG 55)
(cOp (slotT 56) (oFieldAddr 1 (slotG 14))
(cOp (slotT 57) (oLoad1 (slotG 56))
(cOp (slotT 59) (oLoad1 (slotG 5))
(cOp (slotT 60) (oIdx 1 (slotG 57) (slotG 15))
(cDo (oStore 1 (slotG 60) (slotG 59))
(cOp (slotT 61) (oFieldAddr 0 (slotG 14))
(cOp (slotT 62) (oLoad1 (slotG 61))
(cOp (slotT 63) (oAdd .i64 (topOf .i64) (slotG 62) (kV (.int .i64 1)))
(cOp (slotT 64) (oFieldAddr 0 (slotG 14))
(cDo (oStore 1 (slotG 64) (slotG 63))
(cOp (slotT 67) (oBuildSlice 1 (repL ty3.zero 1) [(0, 1, (slotG 13))])
(cOp (slotT 68) (oAppend 1 8 3 (slotG 12) (slotG 67))
(cOp (slotT 12) (oMove (slotG 68))
cNorm)))))))))))))
cNorm)
(cOp (slotT 70) (oLoadN 2 (slotG 14))
(cOp (slotT 71) (oBuildSlice 1 (repL ty37.zero 1) [(0, 2, (slotG 70))])
(cOp (slotT 72) (oAppend 2 32 37 (slotG 11) (slotG 71))
(cOp (slotT 11) (oMove (slotG 72))
cNorm)))))
theorem mvP_is : mvP = cSeq (cCond (slotG 55) mvA cNorm) mvB2 := rfl
noncomputable def mvK : C := (cOp (slotT 45) (oCmp iLt .i64 (slotG 44) (slotG 43))
(cCond (slotG 45)
(cSeq (cBlock 2 (cOp (slotT 47) (oIdx 2 (slotG 42) (slotG 44))
(cOp (slotT 48) (oLoadN 2 (slotG 47))
(cOp (slotT 14) (oAlloc 2 zt37)
(cOp (slotT 13) (oMove (slotG 44))
(cDo (oStore 2 (slotG 14) (slotG 48))
(cOp (slotT 49) (oLoadN 2 (slotG 14))
(cOp (slotT 50) (oCall 32 [(slotG 49)])
(cDo (oStore 2 (slotG 14) (slotG 50))
(cOp (slotT 51) (oLoadN 2 (slotG 14))
(cOp (slotT 52) (oLoad1 (slotG 4))
(cOp (slotT 53) (oCall 11 [(slotG 51), (slotG 52)])
(cOp (slotT 15) (oMove (slotG 53))
(cOp (slotT 55) (oCmp iGe .i64 (slotG 15) (kV (.int .i64 0)))
mvP))))))))))))))
(cOp (slotT 73) (oAdd .i64 (topOf .i64) (slotG 44) (kV (.int .i64 1)))
(cOp (slotT 44) (oMove (slotG 73))
cNorm)))
(cExit 1)))
noncomputable def mvS : C := (cSeq (cBlock 1 (cLoop (cOp (slotT 45) (oCmp iLt .i64 (slotG 44) (slotG 43))
(cCond (slotG 45)
(cSeq (cBlock 2 (cOp (slotT 47) (oIdx 2 (slotG 42) (slotG 44))
(cOp (slotT 48) (oLoadN 2 (slotG 47))
(cOp (slotT 14) (oAlloc 2 zt37)
(cOp (slotT 13) (oMove (slotG 44))
(cDo (oStore 2 (slotG 14) (slotG 48))
(cOp (slotT 49) (oLoadN 2 (slotG 14))
(cOp (slotT 50) (oCall 32 [(slotG 49)])
(cDo (oStore 2 (slotG 14) (slotG 50))
(cOp (slotT 51) (oLoadN 2 (slotG 14))
(cOp (slotT 52) (oLoad1 (slotG 4))
(cOp (slotT 53) (oCall 11 [(slotG 51), (slotG 52)])
(cOp (slotT 15) (oMove (slotG 53))
(cOp (slotT 55) (oCmp iGe .i64 (slotG 15) (kV (.int .i64 0)))
(cSeq (cCond (slotG 55)
(cOp (slotT 56) (oFieldAddr 1 (slotG 14))
(cOp (slotT 57) (oLoad1 (slotG 56))
(cOp (slotT 59) (oLoad1 (slotG 5))
(cOp (slotT 60) (oIdx 1 (slotG 57) (slotG 15))
(cDo (oStore 1 (slotG 60) (slotG 59))
(cOp (slotT 61) (oFieldAddr 0 (slotG 14))
(cOp (slotT 62) (oLoad1 (slotG 61))
(cOp (slotT 63) (oAdd .i64 (topOf .i64) (slotG 62) (kV (.int .i64 1)))
(cOp (slotT 64) (oFieldAddr 0 (slotG 14))
(cDo (oStore 1 (slotG 64) (slotG 63))
(cOp (slotT 67) (oBuildSlice 1 (repL ty3.zero 1) [(0, 1, (slotG 13))])
(cOp (slotT 68) (oAppend 1 8 3 (slotG 12) (slotG 67))
(cOp (slotT 12) (oMove (slotG 68))
cNorm)))))))))))))
cNorm)
(cOp (slotT 70) (oLoadN 2 (slotG 14))
(cOp (slotT 71) (oBuildSlice 1 (repL ty37.zero 1) [(0, 2, (slotG 70))])
(cOp (slotT 72) (oAppend 2 32 37 (slotG 11) (slotG 71))
(cOp (slotT 11) (oMove (slotG 72))
cNorm)))))))))))))))))))
(cOp (slotT 73) (oAdd .i64 (topOf .i64) (slotG 44) (kV (.int .i64 1)))
(cOp (slotT 44) (oMove (slotG 73))
cNorm)))
(cExit 1)))))
(cOp (slotT 6) (oMove (slotG 11))
(cOp (slotT 7) (oMove (slotG 12))
(cOp (slotT 8) (oMove (kV (.int .i64 0)))
cRet))))
theorem mvS_is : mvS = cSeq (cBlock 1 (cLoop mvK)) mvE := rfl
/-- the groups whose placements have a node -/
def grp (a : Int) : Nat → List Pw → List Int
  | _, [] => []
  | i, x :: l => if a ∈ x.2.2 then (i : Int) :: grp a (i + 1) l else grp a (i + 1) l
theorem mv_pre {n : Nat} {hL h' : Hp} {k k' b0 b4 i : Nat} {fr : Int} {ws : List Pw} {x : Pw} (W0 : hL.Wf) (ex : hL.Ext h') (hk : k = hL.next) (R0 : hL.Row b0 38 (flatW ws)) (D : hL.Nds k' ws) (R4 : hL.Row b4 0 [.int .i64 fr]) (hx : ws[i]? = some x) (hz : 0 < x.2.2.length) (hz2 : x.2.2.length ≤ 255) (hl : ws.length ≤ 1000)
    {m : Nat} {vo vg : Value} {cs : List Value} {gs : List Int} (U : h'.Own2 k vo cs m) (G : h'.Own k 3 vg (ints .i64 gs)) {e : Env} {b5 : Nat} (s4 : slotG 4 e = .pointer (some ⟨b4, 0, none⟩)) (s5 : slotG 5 e = .pointer (some ⟨b5, 0, none⟩)) (s11 : slotG 11 e = vo) (s12 : slotG 12 e = vg) (s42 : slotG 42 e = .slice (some ⟨b0, 0, none⟩) ws.length ws.length) (s43 : slotG 43 e = .int .i64 (ws.length : Int)) (s44 : slotG 44 e = .int .i64 (i : Int)) :
    ∃ e2 g c w, mvK (call bodies (n + 2)) e h' = seqX (blockX 2 (mvP (call bodies (n + 2)) e2 g)) (cOp (slotT 73) (oAdd .i64 (topOf .i64) (slotG 44) (kV (.int .i64 1))) (cOp (slotT 44) (oMove (slotG 73)) cNorm)) (call bodies (n + 2)) ∧
      hL.Ext g ∧ h'.next ≤ g.next ∧ k ≤ c ∧ g.Row c 0 [.int .i64 x.1, w] ∧ g.Own k 3 w (ints .i64 x.2.2) ∧ g.Own k 3 vg (ints .i64 gs) ∧ (∀ b, blkV w b → ¬ blkV vg b) ∧ g.Own2 k vo cs m ∧
      slotG 4 e2 = .pointer (some ⟨b4, 0, none⟩) ∧ slotG 5 e2 = .pointer (some ⟨b5, 0, none⟩) ∧ slotG 11 e2 = vo ∧ slotG 12 e2 = vg ∧ slotG 13 e2 = .int .i64 (i : Int) ∧ slotG 14 e2 = .pointer (some ⟨c, 0, none⟩) ∧ slotG 15 e2 = .int .i64 (idxZ fr 0 x.2.2) ∧ slotG 55 e2 = .bool (decide (fr ∈ x.2.2)) ∧
      slotG 42 e2 = .slice (some ⟨b0, 0, none⟩) ws.length ws.length ∧ slotG 43 e2 = .int .i64 (ws.length : Int) ∧ slotG 44 e2 = .int .i64 (i : Int) := by
  have W := ex.wf
  have hlt : i < ws.length := (List.getElem?_eq_some_iff.1 hx).1
  have big : 256 ≤ hL.next := W0.big
  have hxm : x ∈ ws := List.mem_of_getElem? hx
  have R0' := R0.ext W0 ex
  have ci : idxSR 2 (.slice (some ⟨b0, 0, none⟩) ws.length ws.length) (.int .i64 (i : Int)) h' = .ok (.pointer (some ⟨b0, i * 2, none⟩)) h' := by
    have := idxSR_is (h := h') (es := 2) (b := b0) (off := 0) (c := ws.length) (k := .i64) hlt
    rw [Nat.zero_add] at this; exact this
  have ld : loadN 2 ⟨b0, i * 2, none⟩ h' = .ok (plV x.1 x.2.1) h' := by
    have := R0'.loadN (off := i * 2) (n := 2) (by rw [flatW_len]; omega)
    rw [flatW_at ws i _ hx] at this
    exact this
  have Dx := D x hxm
  obtain ⟨ux1, ux2⟩ : cellsOf x.2.1 = [x.2.1] ∧ oneCell x.2.1 = true := by
    rcases Dx with ⟨h1, _⟩ | ⟨c, h1, _⟩ <;> rw [h1] <;> exact ⟨rfl, rfl⟩
  -- the cell
  have x1 := ex.push (.cells zt37 2 0)
  have y1 := (Hp.Ext.refl W).push (.cells zt37 2 0)
  have Rc : (h'.push (.cells zt37 2 0)).Row h'.next 0 [.int .i64 0, .slice none 0 0] := Hp.Row.alloc W zt37_is rfl
  have al := fun (e : Env) => oAlloc_is (F := call bodies (n + 2)) (e := e) (n := 2) (t := zt37) W
  have n1 : (h'.push (.cells zt37 2 0)).next = h'.next + 1 := rfl
  have U1 := U.ext W y1
  have G1 := G.ext W y1
  generalize h'.push (.cells zt37 2 0) = h1 at x1 y1 Rc al n1 U1 G1
  have ho : 0 + (cellsOf (plV x.1 x.2.1)).length ≤ [Value.int .i64 0, .slice none 0 0].length := by simp [plV, cells_agg]
  have hcx : h'.next ≥ hL.next := ex.next
  have st1 := Rc.storeR (n := 2) (off := 0) x1.wf (by omega) (v := plV x.1 x.2.1) rfl ho (by show (bif oneCell x.2.1 then true else false) = true; rw [ux2]; rfl)
  have x2 := Rc.wr_ext x1 hcx (off := 0) (vs := cellsOf (plV x.1 x.2.1)) ho
  have n2 := Rc.wr_next (off := 0) (vs := cellsOf (plV x.1 x.2.1)) ho
  have o2 : ∀ b' el L, b' ≠ h'.next → h1.Row b' el L → (h1.wr h'.next 0 (cellsOf (plV x.1 x.2.1))).Row b' el L := fun b' el L hn r => Rc.wr_other x1.wf (off := 0) (vs := cellsOf (plV x.1 x.2.1)) ho r hn
  have Rc2 := Rc.wr_self x1.wf (off := 0) (vs := cellsOf (plV x.1 x.2.1)) ho
  have U2 := U1.keep fun b' el L hb r => o2 b' el L (fun hx => U1.other Rc (by omega) (hx ▸ hb)) r
  have G2 := G1.keep fun b' el L hb r => o2 b' el L (fun hx => G1.other Rc (by omega) (hx ▸ hb)) r
  generalize h1.wr h'.next 0 (cellsOf (plV x.1 x.2.1)) = h2 at st1 x2 n2 o2 Rc2 U2 G2
  have Rc2 : h2.Row h'.next 0 [.int .i64 x.1, x.2.1] := Rc2
  have l1 : loadN 2 ⟨h'.next, 0, none⟩ h2 = .ok (plV x.1 x.2.1) h2 := Rc2.loadN (by simp)
  -- nodes of its own
  obtain ⟨h3, w, k1, x3, O3, n3, f3⟩ := own_is (n := n) x2 (k := k) (by omega) (ep := x.1) (Dx.ext W0 x2).vals hz (by omega)
  have Rc3 := (f3 _ _ _ Rc2).1
  have U3 := U2.keep fun b' el L hb r => (f3 b' el L r).1
  have G3 := G2.keep fun b' el L hb r => (f3 b' el L r).1
  have hne : ∀ b, blkV w b → ¬ blkV vg b := fun b hb hg => by
    rcases G2 with ⟨h1, _⟩ | ⟨b', h1, r, _⟩
    · obtain ⟨_, _, _, hg⟩ := hg
      rw [h1] at hg; cases hg
    · obtain ⟨_, _, _, hg⟩ := hg
      rw [h1] at hg
      injection hg with hg _ _
      injection hg with hg
      injection hg with hg _ _
      subst hg
      exact (f3 _ _ _ r).2 hb
  obtain ⟨w1, w2⟩ := O3.vals.cells1
  have ho4 : 0 + (cellsOf (plV x.1 w)).length ≤ [Value.int .i64 x.1, x.2.1].length := by simp [plV, cells_agg]
  have st2 := Rc3.storeR (n := 2) (off := 0) x3.wf (by omega) (v := plV x.1 w) rfl ho4 (by show (bif oneCell w then true else false) = true; rw [w2]; rfl)
  have x4 := Rc3.wr_ext x3 hcx (off := 0) (vs := cellsOf (plV x.1 w)) ho4
  have n4 := Rc3.wr_next (off := 0) (vs := cellsOf (plV x.1 w)) ho4
  have o4 : ∀ b' el L, b' ≠ h'.next → h3.Row b' el L → (h3.wr h'.next 0 (cellsOf (plV x.1 w))).Row b' el L := fun b' el L hn r => Rc3.wr_other x3.wf (off := 0) (vs := cellsOf (plV x.1 w)) ho4 r hn
  have Rc4 := Rc3.wr_self x3.wf (off := 0) (vs := cellsOf (plV x.1 w)) ho4
  have U4 := U3.keep fun b' el L hb r => o4 b' el L (fun hx => U3.other Rc3 (by omega) (hx ▸ hb)) r
  have G4 := G3.keep fun b' el L hb r => o4 b' el L (fun hx => G3.other Rc3 (by omega) (hx ▸ hb)) r
  have O4 := O3.keep fun b' el L hb r => o4 b' el L (fun hx => O3.other Rc3 (by omega) (hx ▸ hb)) r
  generalize h3.wr h'.next 0 (cellsOf (plV x.1 w)) = h4 at st2 x4 n4 o4 Rc4 U4 G4 O4
  have Rc4 : h4.Row h'.next 0 [.int .i64 x.1, w] := Rc4
  have l2 : loadN 2 ⟨h'.next, 0, none⟩ h4 = .ok (plV x.1 w) h4 := Rc4.loadN (by simp)
  have l4 : load1 ⟨b4, 0, none⟩ h4 = .ok (.int .i64 fr) h4 := (R4.ext W0 x4).load1 (off := 0) (by simp)
  have k2 := pindex_is (n := n) (x := fr) x4.wf (ep := x.1) O4.vals (by omega)
  have y5 := pl_ext x4.wf (ep := x.1) (w := w)
  have x5 := x4.trans y5
  have Rc5 := Rc4.ext x4.wf y5
  have U5 := U4.ext x4.wf y5
  have G5 := G4.ext x4.wf y5
  have O5 := O4.ext x4.wf y5
  have n5 := y5.next
  generalize h4.pushRow 0 [.int .i64 x.1, w] = h5 at k2 y5 x5 Rc5 U5 G5 O5 n5
  have c1 : iLt (i : Int) (ws.length : Int) = true := by rw [iLt_is]; simp; omega
  have hrun : ∃ e2, mvK (call bodies (n + 2)) e h' = seqX (blockX 2 (mvP (call bodies (n + 2)) e2 h5)) (cOp (slotT 73) (oAdd .i64 (topOf .i64) (slotG 44) (kV (.int .i64 1))) (cOp (slotT 44) (oMove (slotG 73)) cNorm)) (call bodies (n + 2)) ∧
      slotG 4 e2 = .pointer (some ⟨b4, 0, none⟩) ∧ slotG 5 e2 = .pointer (some ⟨b5, 0, none⟩) ∧ slotG 11 e2 = vo ∧ slotG 12 e2 = vg ∧ slotG 13 e2 = .int .i64 (i : Int) ∧ slotG 14 e2 = .pointer (some ⟨h'.next, 0, none⟩) ∧ slotG 15 e2 = .int .i64 (idxZ fr 0 x.2.2) ∧ slotG 55 e2 = .bool (decide (fr ∈ x.2.2)) ∧
      slotG 42 e2 = .slice (some ⟨b0, 0, none⟩) ws.length ws.length ∧ slotG 43 e2 = .int .i64 (ws.length : Int) ∧ slotG 44 e2 = .int .i64 (i : Int) := by
    unfold mvK
    simp only [cOp_is, cDo_is, cCond_is, cSeq_is, cBlock_is, opX_ok, doX_ok, condX_true, oMove_is, kV_is, slot_set, Nat.reduceLT, Nat.reduceEqDiff, if_true, if_false, reduceIte, oCmp_is, cmpR_is, s44, s43, c1, oIdx_is, s42, ci, oLoadN_is, loadsR_is, ld, al, oStore_is, st1, l1, oCall_is, vals_cons, vals_nil, k1, st2, l2, oLoad1_is, s4, loadR_is, l4, k2, iGe_idx]
    exact ⟨_, rfl, by simp only [slot_set, Nat.reduceLT, Nat.reduceEqDiff, if_true, if_false, reduceIte]; exact s4, by simp only [slot_set, Nat.reduceLT, Nat.reduceEqDiff, if_true, if_false, reduceIte]; exact s5, by simp only [slot_set, Nat.reduceLT, Nat.reduceEqDiff, if_true, if_false, reduceIte]; exact s11, by simp only [slot_set, Nat.reduceLT, Nat.reduceEqDiff, if_true, if_false, reduceIte]; exact s12, by simp only [slot_set, Nat.reduceLT, Nat.reduceEqDiff, if_true, if_false, reduceIte], by simp only [slot_set, Nat.reduceLT, Nat.reduceEqDiff, if_true, if_false, reduceIte], by simp only [slot_set, Nat.reduceLT, Nat.reduceEqDiff, if_true, if_false, reduceIte], by simp only [slot_set, Nat.reduceLT, Nat.reduceEqDiff, if_true, if_false, reduceIte], by simp only [slot_set, Nat.reduceLT, Nat.reduceEqDiff, if_true, if_false, reduceIte]; exact s42, by simp only [slot_set, Nat.reduceLT, Nat.reduceEqDiff, if_true, if_false, reduceIte]; exact s43, by simp only [slot_set, Nat.reduceLT, Nat.reduceEqDiff, if_true, if_false, reduceIte]; exact s44⟩
  obtain ⟨e2, r⟩ := hrun
  exact ⟨e2, h5, h'.next, w, r.1, x5, by omega, by omega, Rc5, O5, G5, hne, U5, r.2⟩
theorem mv_loop {n : Nat} {hL : Hp} {k' b0 b4 b5 : Nat} {fr to_ : Int} {ws : List Pw} (W0 : hL.Wf) (R0 : hL.Row b0 38 (flatW ws)) (D : hL.Nds k' ws) (R4 : hL.Row b4 0 [.int .i64 fr]) (R5 : hL.Row b5 0 [.int .i64 to_]) (hok : ∀ x ∈ ws, okPl x.1 x.2.2) (hl : ws.length ≤ 1000)
    {e : Env} (s4 : slotG 4 e = .pointer (some ⟨b4, 0, none⟩)) (s5 : slotG 5 e = .pointer (some ⟨b5, 0, none⟩)) (s11 : slotG 11 e = .slice none 0 0) (s12 : slotG 12 e = .slice none 0 0) (s42 : slotG 42 e = .slice (some ⟨b0, 0, none⟩) ws.length ws.length) (s43 : slotG 43 e = .int .i64 (ws.length : Int)) (s44 : slotG 44 e = .int .i64 0) :
    ∃ e2 g vo vg cs, cLoop mvK (call bodies (n + 2)) e hL = .exit 1 e2 g ∧ hL.Ext g ∧ g.Own2 hL.next vo cs ws.length ∧ g.Own hL.next 3 vg (ints .i64 (grp fr 0 ws)) ∧ slotG 11 e2 = vo ∧ slotG 12 e2 = vg := by
  refine loop_run (I := fun i e' h' => ∃ vo vg cs gs, hL.Ext h' ∧ h'.Own2 hL.next vo cs i ∧ h'.Own hL.next 3 vg (ints .i64 gs) ∧ gs ++ grp fr i (ws.drop i) = grp fr 0 ws ∧ gs.length ≤ i ∧ i ≤ ws.length ∧ slotG 4 e' = .pointer (some ⟨b4, 0, none⟩) ∧ slotG 5 e' = .pointer (some ⟨b5, 0, none⟩) ∧ slotG 11 e' = vo ∧ slotG 12 e' = vg ∧ slotG 42 e' = .slice (some ⟨b0, 0, none⟩) ws.length ws.length ∧ slotG 43 e' = .int .i64 (ws.length : Int) ∧ slotG 44 e' = .int .i64 (i : Int))
    (Q := fun y => ∃ e2 g vo vg cs, y = .exit 1 e2 g ∧ hL.Ext g ∧ g.Own2 hL.next vo cs ws.length ∧ g.Own hL.next 3 vg (ints .i64 (grp fr 0 ws)) ∧ slotG 11 e2 = vo ∧ slotG 12 e2 = vg) ws.length (by omega)
    (fun i e' h' ⟨vo, vg, cs, gs, ex, U, G, hg, hgl, hi, t4, t5, t11, t12, t42, t43, t44⟩ => ?_) ⟨_, _, [], [], .refl W0, .inl ⟨rfl, rfl, rfl⟩, .inl ⟨rfl, rfl⟩, rfl, Nat.le_refl _, Nat.zero_le _, s4, s5, s11, s12, s42, s43, s44⟩
  by_cases hlt : i < ws.length
  · left
    have hx : ws[i]? = some ws[i] := List.getElem?_eq_getElem hlt
    have hd : ws.drop i = ws[i] :: ws.drop (i + 1) := List.drop_eq_getElem_cons hlt
    have hxm : ws[i] ∈ ws := List.getElem_mem hlt
    rw [hd] at hg
    generalize ws[i] = x at hx hg hxm
    obtain ⟨p1, p2, p3, p4, p5, p6⟩ := hok x hxm
    have hg : gs ++ (if fr ∈ x.2.2 then (i : Int) :: grp fr (i + 1) (ws.drop (i + 1)) else grp fr (i + 1) (ws.drop (i + 1))) = grp fr 0 ws := hg
    obtain ⟨e2, g, c, w, r, x5, n5, hc, Rc, O, G5, hne, U5, q4, q5, q11, q12, q13, q14, q15, q55, q42, q43, q44⟩ := mv_pre (n := n) W0 ex rfl R0 D R4 hx (by omega) p4 hl U G t4 t5 t11 t12 t42 t43 t44
    have hkn : hL.next ≤ g.next := x5.next
    have R5' := R5.ext W0 x5
    have hb5 : b5 < c := Nat.lt_of_lt_of_le (R5.lt W0) hc
    obtain ⟨w1, w2⟩ := O.vals.cells1
    have key : ∃ e3 g3 vo3 cs3 vg3 gs3, mvP (call bodies (n + 2)) e2 g = .norm e3 g3 ∧ hL.Ext g3 ∧ g3.Own2 hL.next vo3 cs3 (i + 1) ∧ g3.Own hL.next 3 vg3 (ints .i64 gs3) ∧ gs3 ++ grp fr (i + 1) (ws.drop (i + 1)) = grp fr 0 ws ∧ gs3.length ≤ i + 1 ∧ keepM e2 e3 ∧ slotG 11 e3 = vo3 ∧ slotG 12 e3 = vg3 := by
      by_cases hf : fr ∈ x.2.2
      · rw [decide_eq_true hf] at q55
        rw [if_pos hf] at hg
        obtain ⟨j, hj, hjz, _⟩ := idxZ_at hf
        rw [hjz] at q15
        obtain ⟨e3, g3, vg3, a1, a2, a3, a4, a5, a6, a7, a8, a9⟩ := mvA_is (F := call bodies (n + 2)) W0.big x5 (Nat.le_refl _) hkn hc Rc R5' O G5 hne U5 hj ⟨by omega, p2⟩ (by omega) hb5 q5 q11 q12 q13 q14 q15
        obtain ⟨k4, k5, k14, k42, k43, k44⟩ := a7
        obtain ⟨e4, g4, vo4, cs4, b1, b2, b3, b4', b5', b6, b7, b8⟩ := mvB2_is (F := call bodies (n + 2)) a2 (Nat.le_refl _) a2.next a4 w2 a5 a6 (by omega) a8 a9 (k14.trans q14)
        obtain ⟨m4, m5, m14, m42, m43, m44⟩ := b6
        refine ⟨e4, g4, vo4, cs4, vg3, gs ++ [(i : Int)], ?_, b2, b5', b4', ?_, by rw [List.length_append, List.length_singleton]; omega, ⟨m4.trans k4, m5.trans k5, m14.trans k14, m42.trans k42, m43.trans k43, m44.trans k44⟩, b7, b8⟩
        · rw [mvP_is]
          simp only [cSeq_is, cCond_is, q55, condX_true, a1, seqX_norm, b1]
        · rw [List.append_assoc]; exact hg
      · rw [decide_eq_false hf] at q55
        rw [if_neg hf] at hg
        obtain ⟨e4, g4, vo4, cs4, b1, b2, b3, b4', b5', b6, b7, b8⟩ := mvB2_is (F := call bodies (n + 2)) x5 (Nat.le_refl _) hkn Rc w2 G5 U5 (by omega) q11 q12 q14
        refine ⟨e4, g4, vo4, cs4, vg, gs, ?_, b2, b5', b4', hg, by omega, b6, b7, b8⟩
        rw [mvP_is]
        simp only [cSeq_is, cCond_is, q55, condX_false, cNorm_is, seqX_norm, b1]
    obtain ⟨e3, g3, vo3, cs3, vg3, gs3, a1, a2, a3, a4, a5, a6, ⟨k4, k5, k14, k42, k43, k44⟩, a8, a9⟩ := key
    have z44 : slotG 44 e3 = .int .i64 (i : Int) := k44.trans q44
    have ad : addR .i64 (.int .i64 (i : Int)) (.int .i64 1) g3 = .ok (.int .i64 ((i + 1 : Nat) : Int)) g3 := by
      have : (i : Int) + 1 = ((i + 1 : Nat) : Int) := by omega
      rw [addR_is, this, wrap_nat (by omega)]
    have hrun : ∃ e4, mvK (call bodies (n + 2)) e' h' = .norm e4 g3 ∧ slotG 4 e4 = .pointer (some ⟨b4, 0, none⟩) ∧ slotG 5 e4 = .pointer (some ⟨b5, 0, none⟩) ∧ slotG 11 e4 = vo3 ∧ slotG 12 e4 = vg3 ∧ slotG 42 e4 = .slice (some ⟨b0, 0, none⟩) ws.length ws.length ∧ slotG 43 e4 = .int .i64 (ws.length : Int) ∧ slotG 44 e4 = .int .i64 ((i + 1 : Nat) : Int) := by
      rw [r, a1]
      simp only [blockX_norm, seqX_norm, cOp_is, opX_ok, oAdd_is, z44, kV_is, ad, oMove_is, cNorm_is, slot_set, Nat.reduceLT, Nat.reduceEqDiff, if_true, if_false, reduceIte]
      exact ⟨_, rfl, by simp only [slot_set, Nat.reduceLT, Nat.reduceEqDiff, if_true, if_false, reduceIte]; exact k4.trans q4, by simp only [slot_set, Nat.reduceLT, Nat.reduceEqDiff, if_true, if_false, reduceIte]; exact k5.trans q5, by simp only [slot_set, Nat.reduceLT, Nat.reduceEqDiff, if_true, if_false, reduceIte]; exact a8, by simp only [slot_set, Nat.reduceLT, Nat.reduceEqDiff, if_true, if_false, reduceIte]; exact a9, by simp only [slot_set, Nat.reduceLT, Nat.reduceEqDiff, if_true, if_false, reduceIte]; exact k42.trans q42, by simp only [slot_set, Nat.reduceLT, Nat.reduceEqDiff, if_true, if_false, reduceIte]; exact k43.trans q43, by simp only [slot_set, Nat.reduceLT, Nat.reduceEqDiff, if_true, if_false, reduceIte]⟩
    obtain ⟨e4, w'⟩ := hrun
    exact ⟨hlt, e4, g3, w'.1, vo3, vg3, cs3, gs3, a2, a3, a4, a5, a6, hlt, w'.2.1, w'.2.2.1, w'.2.2.2.1, w'.2.2.2.2.1, w'.2.2.2.2.2.1, w'.2.2.2.2.2.2.1, w'.2.2.2.2.2.2.2⟩
  · right
    have c1 : iLt (i : Int) (ws.length : Int) = false := by rw [iLt_is]; simp; omega
    have hrun : ∃ e2, mvK (call bodies (n + 2)) e' h' = .exit 1 e2 h' ∧ slotG 11 e2 = vo ∧ slotG 12 e2 = vg := by
      unfold mvK
      simp only [cOp_is, cDo_is, cCond_is, cSeq_is, cBlock_is, cNorm_is, cRet_is, cExit_is, opX_ok, doX_ok, condX_true, condX_false, seqX_norm, seqX_exit, seqX_ret, blockX_norm, blockX_ret, blockX_exit, oMove_is, kV_is, slot_set, Nat.reduceLT, Nat.reduceEqDiff, if_true, if_false, reduceIte, oCmp_is, cmpR_is, t44, t43, c1]
      exact ⟨_, rfl, by simp only [slot_set, Nat.reduceLT, Nat.reduceEqDiff, if_true, if_false, reduceIte]; exact t11, by simp only [slot_set, Nat.reduceLT, Nat.reduceEqDiff, if_true, if_false, reduceIte]; exact t12⟩
    obtain ⟨e2, r1, r2, r3⟩ := hrun
    rw [r1]
    have hi' : i = ws.length := by omega
    subst hi'
    rw [List.drop_of_length_le (Nat.le_refl _)] at hg
    have hg : gs ++ [] = grp fr 0 ws := hg
    rw [List.append_nil] at hg
    rw [hg] at G
    exact ⟨rfl, e2, h', vo, vg, cs, rfl, ex, U, G, r2, r3⟩

/-! ### the function -/
noncomputable def mvH : C := (cOp (slotT 19) (oCall 47 [(slotG 0)])
(cOp (slotT 20) (oNot (slotG 19))
(cOp (slotT 17) (oMove (slotG 20))
(cCond (slotG 17)
(cOp (slotT 6) (oMove (kV (.slice none 0 0)))
(cOp (slotT 7) (oMove (kV (.slice none 0 0)))
(cOp (slotT 8) (oMove (kV (.int .i64 2)))
cRet)))
(cOp (slotT 23) (oLoad1 (slotG 4))
(cOp (slotT 24) (oApply (slotG 9) [(slotG 23)])
(cOp (slotT 25) (oNot (slotG 24))
(cG (slotG 25) false (slotT 27) (oMove (slotG 9))
(cG (slotG 25) false (slotT 28) (oLoad1 (slotG 5))
(cG (slotG 25) false (slotT 29) (oApply (slotG 27) [(slotG 28)])
(cG (slotG 25) false (slotT 30) (oNot (slotG 29))
(cOp (slotT 31) (oPick (slotG 25) (kV (.bool true)) (slotG 30))
(cG (slotG 31) false (slotT 33) (oLoad1 (slotG 4))
(cG (slotG 31) false (slotT 34) (oLoad1 (slotG 5))
(cG (slotG 31) false (slotT 35) (oCmp iEq .i64 (slotG 33) (slotG 34))
(cOp (slotT 36) (oPick (slotG 31) (kV (.bool true)) (slotG 35))
(cG (slotG 36) false (slotT 38) (oMove (slotG 0))
(cG (slotG 36) false (slotT 39) (oMove (slotG 10))
(cG (slotG 36) false (slotT 40) (oCall 48 [(slotG 38), (slotG 39)])
(cOp (slotT 41) (oPick (slotG 36) (kV (.bool true)) (slotG 40))
(cOp (slotT 21) (oMove (slotG 41))
(cCond (slotG 21)
(cOp (slotT 6) (oMove (kV (.slice none 0 0)))
(cOp (slotT 7) (oMove (kV (.slice none 0 0)))
(cOp (slotT 8) (oMove (kV (.int .i64 100)))
cRet)))
cNorm))))))))))))))))))))))
noncomputable def d29h : C := (cOp (slotT 4) (oBox (slotG 1))
(cOp (slotT 5) (oBox (slotG 2))
(cOp (slotT 6) (oMove (kV (.slice none 0 0)))
(cOp (slotT 7) (oMove (kV (.slice none 0 0)))
(cOp (slotT 8) (oMove (kV (.int .i64 0)))
(cOp (slotT 9) (oMove (kV (.func (.func 45) #[] #[])))
(cOp (slotT 16) (oFunc (.func 46) [] [(slotG 4), (slotG 5)])
(cOp (slotT 10) (oMove (slotG 16))
(cSeq (cBlock 0 mvH)
(cOp (slotT 11) (oMove (kV (.slice none 0 0)))
(cOp (slotT 12) (oMove (kV (.slice none 0 0)))
(cOp (slotT 42) (oMove (slotG 0))
(cOp (slotT 43) (oLenS (slotG 42))
(cOp (slotT 44) (oMove (kV (.int .i64 0)))
mvS))))))))))))))
theorem d29_is : d29 = d29h := rfl
theorem move_is {n : Nat} {h : Hp} (W : h.Wf) {k k' : Nat} {v : Value} {ws : List Pw} (d : h.Pls k v ws) (D : h.Nds k' ws) (hp : 0 < ws.length) (hl : ws.length ≤ 1000) (hok : ∀ x ∈ ws, okPl x.1 x.2.2) {fr to_ : Int} (f0 : 0 ≤ fr) (f1 : fr < 256) (t0 : 0 ≤ to_) (t1 : to_ < 256) (hft : fr ≠ to_) (hto : ∀ x ∈ ws, to_ ∉ x.2.2) :
    ∃ h' vo vg cs k2, call bodies (n + 8) 29 [v, .int .i64 fr, .int .i64 to_] h = .ok (.tuple ⟨[vo, vg, .int .i64 0]⟩) h' ∧ h.Ext h' ∧ h.next ≤ k2 ∧ h'.Own2 k2 vo cs ws.length ∧ h'.Own k2 3 vg (ints .i64 (grp fr 0 ws)) := by
  have x1 := (Hp.Ext.refl W).pushRow 0 [.int .i64 fr]
  have R4 := Hp.Row.new W 0 [.int .i64 fr]
  have n1 : (h.pushRow 0 [.int .i64 fr]).next = h.next + 1 := rfl
  have f1' : ∀ e : Env, slotG 1 e = .int .i64 fr → oBox (slotG 1) (call bodies (n + 7)) e h = .ok (.pointer (some ⟨h.next, 0, none⟩)) (h.pushRow 0 [.int .i64 fr]) := fun e he => by rw [oBox_is, he, boxR_is W]; rfl
  generalize h.pushRow 0 [.int .i64 fr] = h1 at x1 R4 n1 f1'
  have y2 := (Hp.Ext.refl x1.wf).pushRow 0 [.int .i64 to_]
  have x2 := x1.trans y2
  have R5 := Hp.Row.new x1.wf 0 [.int .i64 to_]
  have f2' : ∀ e : Env, slotG 2 e = .int .i64 to_ → oBox (slotG 2) (call bodies (n + 7)) e h1 = .ok (.pointer (some ⟨h1.next, 0, none⟩)) (h1.pushRow 0 [.int .i64 to_]) := fun e he => by rw [oBox_is, he, boxR_is x1.wf]; rfl
  have R4 := R4.ext x1.wf y2
  generalize h1.pushRow 0 [.int .i64 to_] = h2 at y2 x2 R5 f2' R4
  -- are they right, does any hinder?
  obtain ⟨h3, k1, y3⟩ := all_is (n := n) x2.wf (d.ext W x2) (D.ext W x2) hp hl hok
  have x3 := x2.trans y3
  have R4 := R4.ext x2.wf y3
  have R5 := R5.ext x2.wf y3
  have l4 : load1 ⟨h.next, 0, none⟩ h3 = .ok (.int .i64 fr) h3 := R4.load1 (off := 0) (by simp)
  have l5 : load1 ⟨h1.next, 0, none⟩ h3 = .ok (.int .i64 to_) h3 := R5.load1 (off := 0) (by simp)
  have k2 := node2_is (n := n + 6) (h := h3) f0 f1
  have k3 := node2_is (n := n + 6) (h := h3) t0 t1
  have c1 : iEq fr to_ = false := by rw [iEq_is]; simpa using hft
  obtain ⟨h4, k4, y4⟩ := cfn_is (m := n + 5) x3.wf (d.ext W x3) hp hl (fv := .func (.func 46) ⟨[]⟩ ⟨[.pointer (some ⟨h.next, 0, none⟩), .pointer (some ⟨h1.next, 0, none⟩)]⟩)
    (fun g x y hy => hinder_is (n := n + 2) x.wf ((D.ext W x3 y hy).ext x3.wf x) (hok y hy) (hto y hy) (R4.ext x3.wf x) (R5.ext x3.wf x))
  have x4 := x3.trans y4
  have R4 := R4.ext x3.wf y4
  have R5 := R5.ext x3.wf y4
  have hH : ∀ e : Env, slotG 0 e = v → slotG 4 e = .pointer (some ⟨h.next, 0, none⟩) → slotG 5 e = .pointer (some ⟨h1.next, 0, none⟩) → slotG 9 e = .func (.func 45) #[] #[] → slotG 10 e = .func (.func 46) ⟨[]⟩ ⟨[.pointer (some ⟨h.next, 0, none⟩), .pointer (some ⟨h1.next, 0, none⟩)]⟩ →
      ∃ e2, mvH (call bodies (n + 7)) e h2 = .norm e2 h4 ∧ slotG 0 e2 = v ∧ slotG 4 e2 = .pointer (some ⟨h.next, 0, none⟩) ∧ slotG 5 e2 = .pointer (some ⟨h1.next, 0, none⟩) := fun e q0 q4 q5 q9 q10 => by
    have a9 : ∀ (z : Int) (h : Hp), applyR (call bodies (n + 7)) (.func (.func 45) #[] #[]) [.int .i64 z] h = call bodies (n + 7) 45 [.int .i64 z] h := fun _ _ => rfl
    unfold mvH
    simp only [cOp_is, cDo_is, cCond_is, cSeq_is, cBlock_is, cNorm_is, cRet_is, cExit_is, opX_ok, doX_ok, condX_true, condX_false, seqX_norm, seqX_exit, seqX_ret, blockX_norm, blockX_ret, blockX_exit, oMove_is, kV_is, slot_set, Nat.reduceLT, Nat.reduceEqDiff, if_true, if_false, reduceIte, cG_is, guardX_tt, guardX_tf, guardX_ft, guardX_ff, guardX_none, skipC_is, oPick_is, pickR_true, pickR_false, oCall_is, vals_cons, vals_nil, q0, k1, oNot_is, notR_is, Bool.not_true, oLoad1_is, q4, loadR_is, l4, oApply_is, q9, a9, k2, q5, l5, k3, oCmp_is, cmpR_is, c1, q10, k4]
    exact ⟨_, rfl, by simp only [slot_set, Nat.reduceLT, Nat.reduceEqDiff, if_true, if_false, reduceIte]; exact q0, by simp only [slot_set, Nat.reduceLT, Nat.reduceEqDiff, if_true, if_false, reduceIte]; exact q4, by simp only [slot_set, Nat.reduceLT, Nat.reduceEqDiff, if_true, if_false, reduceIte]; exact q5⟩
  obtain ⟨b0, hv, R0⟩ : ∃ b0, v = .slice (some ⟨b0, 0, none⟩) ws.length ws.length ∧ h.Row b0 38 (flatW ws) := by
    rcases d with ⟨_, rfl⟩ | ⟨b, h1, h2, _⟩
    · cases hp
    · exact ⟨b, h1, h2⟩
  have pre : ∃ e1, d29h (call bodies (n + 7)) (setArgs e0 0 [v, .int .i64 fr, .int .i64 to_]) h = mvS (call bodies (n + 7)) e1 h4 ∧ slotG 4 e1 = .pointer (some ⟨h.next, 0, none⟩) ∧ slotG 5 e1 = .pointer (some ⟨h1.next, 0, none⟩) ∧ slotG 11 e1 = .slice none 0 0 ∧ slotG 12 e1 = .slice none 0 0 ∧ slotG 42 e1 = v ∧ slotG 43 e1 = .int .i64 (ws.length : Int) ∧ slotG 44 e1 = .int .i64 0 := by
    have vl : ∀ g : Hp, lenSR v g = .ok (.int .i64 (ws.length : Int)) g := fun g => d.len
    obtain ⟨e2, r1, r2, r3, r4⟩ := hH (Env.set 10 (.func (.func 46) ⟨[]⟩ ⟨[.pointer (some ⟨h.next, 0, none⟩), .pointer (some ⟨h1.next, 0, none⟩)]⟩) (Env.set 16 (.func (.func 46) ⟨[]⟩ ⟨[.pointer (some ⟨h.next, 0, none⟩), .pointer (some ⟨h1.next, 0, none⟩)]⟩) (Env.set 9 (.func (.func 45) #[] #[]) (Env.set 8 (.int .i64 0) (Env.set 7 (.slice none 0 0) (Env.set 6 (.slice none 0 0) (Env.set 5 (.pointer (some ⟨h1.next, 0, none⟩)) (Env.set 4 (.pointer (some ⟨h.next, 0, none⟩)) (Env.set 2 (.int .i64 to_) (Env.set 1 (.int .i64 fr) (Env.set 0 v e0)))))))))))
      (by simp only [slot_set, Nat.reduceLT, Nat.reduceEqDiff, if_true, if_false, reduceIte]) (by simp only [slot_set, Nat.reduceLT, Nat.reduceEqDiff, if_true, if_false, reduceIte]) (by simp only [slot_set, Nat.reduceLT, Nat.reduceEqDiff, if_true, if_false, reduceIte]) (by simp only [slot_set, Nat.reduceLT, Nat.reduceEqDiff, if_true, if_false, reduceIte]) (by simp only [slot_set, Nat.reduceLT, Nat.reduceEqDiff, if_true, if_false, reduceIte])
    unfold d29h
    simp only [setArgs_cons, setArgs_nil, Nat.succ_eq_add_one, Nat.zero_add, Nat.reduceAdd, cOp_is, cSeq_is, cBlock_is, opX_ok, oMove_is, kV_is, slot_set, Nat.reduceLT, Nat.reduceEqDiff, if_true, if_false, reduceIte, f1', f2', oFunc_is, vals_cons, vals_nil]
    rw [r1]
    simp only [blockX_norm, seqX_norm, cOp_is, opX_ok, oMove_is, kV_is, slot_set, Nat.reduceLT, Nat.reduceEqDiff, if_true, if_false, reduceIte, r2, oLenS_is, vl]
    exact ⟨_, rfl, by simp only [slot_set, Nat.reduceLT, Nat.reduceEqDiff, if_true, if_false, reduceIte]; exact r3, by simp only [slot_set, Nat.reduceLT, Nat.reduceEqDiff, if_true, if_false, reduceIte]; exact r4, by simp only [slot_set, Nat.reduceLT, Nat.reduceEqDiff, if_true, if_false, reduceIte], by simp only [slot_set, Nat.reduceLT, Nat.reduceEqDiff, if_true, if_false, reduceIte], by simp only [slot_set, Nat.reduceLT, Nat.reduceEqDiff, if_true, if_false, reduceIte], by simp only [slot_set, Nat.reduceLT, Nat.reduceEqDiff, if_true, if_false, reduceIte], by simp only [slot_set, Nat.reduceLT, Nat.reduceEqDiff, if_true, if_false, reduceIte]⟩
  obtain ⟨e1, p1, p4, p5, p11, p12, p42, p43, p44⟩ := pre
  rw [hv] at p42
  obtain ⟨e2, g, vo, vg, cs, q1, q2, q3, q4, q5, q6⟩ := mv_loop (n := n + 5) x4.wf (R0.ext W x4) (D.ext W x4) R4 R5 hok hl p4 p5 p11 p12 p42 p43 p44
  refine ⟨g, vo, vg, cs, h4.next, ?_, x4.trans q2, x4.next, q3, q4⟩
  rw [call29 rfl, d29_is, p1, mvS_is]
  simp only [cSeq_is, cBlock_is, q1, blockX_exit, seqX_norm]
  unfold mvE
  simp only [cOp_is, cDo_is, cCond_is, cSeq_is, cBlock_is, cNorm_is, cRet_is, cExit_is, opX_ok, doX_ok, condX_true, condX_false, seqX_norm, seqX_exit, seqX_ret, blockX_norm, blockX_ret, blockX_exit, oMove_is, kV_is, slot_set, Nat.reduceLT, Nat.reduceEqDiff, if_true, if_false, reduceIte, q5, q6, leave_ret, finish_3]
end Go.Proofs.Ytkafejncffinmaa
set_option linter.unusedVariables false
set_option linter.unusedSimpArgs false
namespace Go.Proofs.Ytkafejncffinmaa
open Go
set_option maxRecDepth 100000
def entsZ : Nat → List Int → List Ent
  | _, [] => []
  | i, z :: l => ⟨.int .i64 z, .int .i64 1, i⟩ :: entsZ (i + 1) l
/-- a map that has 1 at each of these numbers -/
def Hp.MapZ (h : Hp) (r : Nat) (zs : List Int) : Prop := h.bl.get r = .map (entsZ 0 zs) zs.length
theorem Hp.MapZ.lt {h : Hp} {r : Nat} {zs : List Int} (m : h.MapZ r zs) (W : h.Wf) : r < h.next := by
  rcases Nat.lt_or_ge r h.next with h1 | h1
  · exact h1
  · have := W.fresh r h1
    unfold Hp.MapZ at m
    rw [this] at m; cases m
theorem Hp.MapZ.ext {h h' : Hp} {r : Nat} {zs : List Int} (m : h.MapZ r zs) (W : h.Wf) (x : h.Ext h') : h'.MapZ r zs := (x.get r (m.lt W)).trans m
theorem Hp.MapZ.same {h h' : Hp} {r : Nat} {zs : List Int} (m : h.MapZ r zs) (hb : h'.bl = h.bl) : h'.MapZ r zs := by unfold Hp.MapZ; rw [hb]; exact m
theorem Hp.MapZ.row {h : Hp} {r b el : Nat} {zs : List Int} {L : List Value} (m : h.MapZ r zs) (R : h.Row b el L) : b ≠ r := fun hb => by
  subst hb
  obtain ⟨_, e1, _⟩ := R
  unfold Hp.MapZ at m
  rw [e1] at m; cases m
theorem Hp.MapZ.ents {h : Hp} {r : Nat} {zs : List Int} (m : h.MapZ r zs) : entsOf h r = .ok (entsZ 0 zs) zs.length := by unfold entsOf; rw [m]; rfl
theorem fitZ {n : Nat} (hn : n ≤ 9223372036854775807) : fitK ⟨false, [.i .i64]⟩ (.int .i64 (n : Int)) = true := by
  show (match (match sameK .i64 .i64 with | true => Nat.ble n (topOf .i64) | false => false) with | true => true | false => false) = true
  have h1 : sameK .i64 .i64 = true := rfl
  have h2 : Nat.ble n (topOf .i64) = true := nat_ble.2 hn
  simp only [h1, h2]
theorem keyZ {n m : Nat} (hm : m ≤ 9223372036854775807) : keyEq ⟨false, [.i .i64]⟩ (.int .i64 (n : Int)) (.int .i64 (m : Int)) = some (decide (n = m)) := by
  unfold keyEq
  rw [fitZ hm]
  show (match (match sameK .i64 .i64 with | true => some (iEq (n : Int) (m : Int)) | false => none) with | some true => some true | some false => some false | none => none) = _
  have h1 : sameK .i64 .i64 = true := rfl
  simp only [h1, iEq_is]
  by_cases h : n = m
  · subst h; simp
  · have : ((n : Int) == (m : Int)) = false := by rw [beq_eq_false_iff_ne]; omega
    rw [this, decide_eq_false h]
theorem find_in {n : Nat} : ∀ (zs : List Int) (i : Nat), (∀ z ∈ zs, 0 ≤ z ∧ z ≤ 9223372036854775807) → (n : Int) ∈ zs → ∃ e, findE ⟨false, [.i .i64]⟩ (.int .i64 (n : Int)) (entsZ i zs) = some (some e) ∧ e.val = .int .i64 1
  | [], _, _, h => by cases h
  | z :: l, i, hz, h => by
    obtain ⟨z0, z1⟩ := hz z List.mem_cons_self
    obtain ⟨m, rfl⟩ := Int.eq_ofNat_of_zero_le z0
    show ∃ e, (match keyEq ⟨false, [.i .i64]⟩ (.int .i64 (n : Int)) (.int .i64 (m : Int)) with | some true => some (some (⟨.int .i64 (m : Int), .int .i64 1, i⟩ : Ent)) | some false => findE ⟨false, [.i .i64]⟩ (.int .i64 (n : Int)) (entsZ (i + 1) l) | none => none) = some (some e) ∧ e.val = .int .i64 1
    rw [keyZ (by omega)]
    by_cases hnm : n = m
    · rw [decide_eq_true hnm]; exact ⟨_, rfl, rfl⟩
    · rw [decide_eq_false hnm]
      refine find_in l (i + 1) (fun y hy => hz y (List.mem_cons_of_mem _ hy)) ?_
      rcases List.mem_cons.1 h with h | h
      · omega
      · exact h
theorem find_out {n : Nat} : ∀ (zs : List Int) (i : Nat), (∀ z ∈ zs, 0 ≤ z ∧ z ≤ 9223372036854775807) → (n : Int) ∉ zs → findE ⟨false, [.i .i64]⟩ (.int .i64 (n : Int)) (entsZ i zs) = some none
  | [], _, _, _ => rfl
  | z :: l, i, hz, h => by
    obtain ⟨z0, z1⟩ := hz z List.mem_cons_self
    obtain ⟨m, rfl⟩ := Int.eq_ofNat_of_zero_le z0
    show (match keyEq ⟨false, [.i .i64]⟩ (.int .i64 (n : Int)) (.int .i64 (m : Int)) with | some true => some (some (⟨.int .i64 (m : Int), .int .i64 1, i⟩ : Ent)) | some false => findE ⟨false, [.i .i64]⟩ (.int .i64 (n : Int)) (entsZ (i + 1) l) | none => none) = some none
    rw [keyZ (by omega)]
    have hnm : n ≠ m := fun hx => h (by rw [hx]; exact List.mem_cons_self)
    rw [decide_eq_false hnm]
    exact find_out l (i + 1) (fun y hy => hz y (List.mem_cons_of_mem _ hy)) (fun hx => h (List.mem_cons_of_mem _ hx))
theorem set_out {n : Nat} {v : Value} : ∀ (zs : List Int) (i : Nat), (∀ z ∈ zs, 0 ≤ z ∧ z ≤ 9223372036854775807) → (n : Int) ∉ zs → setE ⟨false, [.i .i64]⟩ (.int .i64 (n : Int)) v (entsZ i zs) = some none
  | [], _, _, _ => rfl
  | z :: l, i, hz, h => by
    obtain ⟨z0, z1⟩ := hz z List.mem_cons_self
    obtain ⟨m, rfl⟩ := Int.eq_ofNat_of_zero_le z0
    show (match keyEq ⟨false, [.i .i64]⟩ (.int .i64 (n : Int)) (.int .i64 (m : Int)) with | some true => some (some ((⟨.int .i64 (n : Int), v, i⟩ : Ent) :: entsZ (i + 1) l)) | some false => (match setE ⟨false, [.i .i64]⟩ (.int .i64 (n : Int)) v (entsZ (i + 1) l) with | some (some l') => some (some ((⟨.int .i64 (m : Int), .int .i64 1, i⟩ : Ent) :: l')) | some none => some none | none => none) | none => none) = some none
    rw [keyZ (by omega)]
    have hnm : n ≠ m := fun hx => h (by rw [hx]; exact List.mem_cons_self)
    rw [decide_eq_false hnm]
    simp only
    rw [set_out l (i + 1) (fun y hy => hz y (List.mem_cons_of_mem _ hy)) (fun hx => h (List.mem_cons_of_mem _ hx))]
theorem add_ents {x : Int} : ∀ (zs : List Int) (i : Nat), addE ⟨.int .i64 x, .int .i64 1, i + zs.length⟩ (entsZ i zs) = entsZ i (zs ++ [x])
  | [], i => rfl
  | z :: l, i => by
    show (⟨.int .i64 z, .int .i64 1, i⟩ : Ent) :: addE ⟨.int .i64 x, .int .i64 1, i + (l.length + 1)⟩ (entsZ (i + 1) l) = _
    have := add_ents (x := x) l (i + 1)
    rw [show i + 1 + l.length = i + (l.length + 1) by omega] at this
    rw [this]; rfl
noncomputable def lookR (z : Value) (m key : Value) (ok : Bool) (h : Hp) : R := lookupF ⟨false, [.i .i64]⟩ z m key ok h
theorem oLookup_is {F : CallF} {e : Env} {h : Hp} {x y : O} {z : Value} {ok : Bool} : oLookup ⟨false, [.i .i64]⟩ z ok x y F e h = lookR z (x e) (y e) ok h := rfl
noncomputable def updR (m key v : Value) (h : Hp) : R := updateF ⟨false, [.i .i64]⟩ m key v h
theorem oUpdate_is {F : CallF} {e : Env} {h : Hp} {m x y : O} : oUpdate ⟨false, [.i .i64]⟩ m x y F e h = updR (m e) (x e) (y e) h := by
  show forceV (x e) (fun key => forceV (y e) fun v => updateF ⟨false, [.i .i64]⟩ (m e) key v h) = _
  rw [forceV_is, forceV_is]; rfl
def okZ (zs : List Int) : Prop := ∀ z ∈ zs, 0 ≤ z ∧ z ≤ 9223372036854775807
theorem Hp.MapZ.look {h : Hp} {r n : Nat} {zs : List Int} (m : h.MapZ r zs) (hz : okZ zs) (hn : n ≤ 9223372036854775807) : lookR (.int .i64 0) (.map (some r)) (.int .i64 (n : Int)) false h = .ok (.int .i64 (if (n : Int) ∈ zs then 1 else 0)) h := by
  unfold lookR lookupF
  rw [fitZ hn]
  simp only [m.ents]
  by_cases hx : (n : Int) ∈ zs
  · obtain ⟨e, h1, h2⟩ := find_in zs 0 hz hx
    rw [h1, if_pos hx]
    show forceV e.val (fun v => .ok v h) = _
    rw [forceV_is, h2]
  · rw [find_out zs 0 hz hx, if_neg hx]
    show forceV (.int .i64 0) (fun v => .ok v h) = _
    rw [forceV_is]
/-- a number that is not there is put -/
theorem Hp.MapZ.put {h0 h : Hp} {r n : Nat} {zs : List Int} (x : h0.Ext h) (hr : h0.next ≤ r) (hr2 : 256 ≤ r) (m : h.MapZ r zs) (hz : okZ zs) (hn : n ≤ 9223372036854775807) (hx : (n : Int) ∉ zs) :
    ∃ h', updR (.map (some r)) (.int .i64 (n : Int)) (.int .i64 1) h = .ok noRes h' ∧ h0.Ext h' ∧ h'.MapZ r (zs ++ [(n : Int)]) ∧ h'.next = h.next ∧ ∀ b el L, h.Row b el L → h'.Row b el L := by
  have W := x.wf
  have hlt := m.lt W
  refine ⟨h.put r (.map (entsZ 0 (zs ++ [(n : Int)])) (zs.length + 1)), ?_, x.put hr hlt _, ?_, rfl, fun b el L R => ?_⟩
  · unfold updR updateF
    rw [fitZ hn]
    simp only [m.ents, set_out zs 0 hz hx]
    rw [putBlk_is W hr2 hlt]
    have := add_ents (x := (n : Int)) zs 0
    rw [Nat.zero_add] at this
    rw [this]; rfl
  · show (h.put r _).bl.get r = _
    rw [W.put_get hlt, if_pos rfl, List.length_append, List.length_singleton]
  · have hne := m.row R
    obtain ⟨c, h1, h2⟩ := R
    exact ⟨c, by rw [W.put_get hlt, if_neg hne, h1], h2⟩
/-- a number is put again -/
theorem oMap_is {F : CallF} {e : Env} {h : Hp} (W : h.Wf) : oMap F e h = .ok (.map (some h.next)) (h.push (.map [] 0)) := by
  unfold oMap
  rw [newBlk_is W]
theorem new_map {h : Hp} (W : h.Wf) : (h.push (.map [] 0)).MapZ h.next [] := by
  show (h.push (.map [] 0)).bl.get h.next = _
  rw [W.push_get, if_pos rfl]; rfl
theorem Hp.MapZ.keep {h h' : Hp} {r : Nat} {zs : List Int} (m : h.MapZ r zs) (hk : h'.bl.get r = h.bl.get r) : h'.MapZ r zs := hk.trans m
end Go.Proofs.Ytkafejncffinmaa
