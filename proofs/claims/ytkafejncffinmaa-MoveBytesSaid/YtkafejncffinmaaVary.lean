/-
  Numbers of seven bits to a byte, and a move's bytes: what is written is read, and what is read is what is written.
  bytes.Uint and bytes.GetUint: what they give, for any number, any bytes.
  What is right, what is the same, copies: what these functions give, whatever they are handed.
  move.Bytes: what it gives, whatever move it is handed.
-/
import Derived.Test.YtkafejncffinmaaEnv
import Derived.Test.YtkafejncffinmaaVals
import Derived.Test.YtkafejncffinmaaSymC
set_option linter.unusedVariables false
set_option linter.unusedSimpArgs false
namespace Go.Proofs.Ytkafejncffinmaa
open Go

/-! ### numbers -/
def uintL (n : Nat) : List Nat := if h : n < 128 then [n] else (n % 128 + 128) :: uintL (n / 128)
termination_by n
decreasing_by exact Nat.div_lt_self (by omega) (by omega)
theorem uintL_lo {n : Nat} (h : n < 128) : uintL n = [n] := by rw [uintL, dif_pos h]
theorem uintL_hi {n : Nat} (h : 128 ≤ n) : uintL n = (n % 128 + 128) :: uintL (n / 128) := by rw [uintL, dif_neg (by omega)]
theorem uintL_lt : ∀ (n x : Nat), x ∈ uintL n → x < 256 := by
  intro n
  induction n using Nat.strongRecOn with
  | _ n ih =>
    intro x hx
    by_cases h : n < 128
    · rw [uintL_lo h, List.mem_singleton] at hx
      omega
    · rw [uintL_hi (by omega)] at hx
      rcases List.mem_cons.1 hx with rfl | hx
      · omega
      · exact ih (n / 128) (Nat.div_lt_self (by omega) (by omega)) x hx
theorem uintL_pos (n : Nat) : 0 < (uintL n).length := by
  by_cases h : n < 128
  · rw [uintL_lo h]; exact Nat.one_pos
  · rw [uintL_hi (by omega)]; exact Nat.succ_pos _
theorem uintL_len : ∀ (k n : Nat), n < 128 ^ (k + 1) → (uintL n).length ≤ k + 1
  | 0, n, h => by
    have h : n < 128 := by simpa using h
    rw [uintL_lo h]; exact Nat.le_refl _
  | k + 1, n, h => by
    by_cases h1 : n < 128
    · rw [uintL_lo h1]; show 1 ≤ _; omega
    · rw [uintL_hi (by omega), List.length_cons]
      have h2 : n < 128 * 128 ^ (k + 1) := by rw [Nat.pow_succ] at h; rw [Nat.mul_comm]; exact h
      have := uintL_len k (n / 128) (Nat.div_lt_of_lt_mul h2)
      omega
theorem uintL_ten {n : Nat} (h : n < 18446744073709551616) : (uintL n).length ≤ 10 := uintL_len 9 n (by
  have : (128 : Nat) ^ (9 + 1) = 1180591620717411303424 := by decide
  rw [this]; omega)
/-- the number that bytes begin with, of which k have been read: and how many bytes it has -/
def uget : Nat → Nat → List Nat → Option (Nat × Nat)
  | _, _, [] => none
  | k, acc, c :: r => if (0 < k ∧ c = 0) ∨ (8 < k ∧ 1 < c) then none else if c < 128 then some (acc + c * 2 ^ (7 * k), k + 1) else uget (k + 1) (acc + c % 128 * 2 ^ (7 * k)) r
theorem pow_step (k : Nat) : 2 ^ (7 * (k + 1)) = 128 * 2 ^ (7 * k) := by
  rw [show 7 * (k + 1) = 7 + 7 * k by omega, Nat.pow_add, show (2 : Nat) ^ 7 = 128 from rfl]
theorem pow_left {k : Nat} (hk : k ≤ 8) : 2 ^ (64 - 7 * k) = 128 * 2 ^ (64 - 7 * (k + 1)) := by
  rw [show 64 - 7 * k = 7 + (64 - 7 * (k + 1)) by omega, Nat.pow_add, show (2 : Nat) ^ 7 = 128 from rfl]
theorem uget_put : ∀ (n k acc : Nat) (r : List Nat), k ≤ 9 → n < 2 ^ (64 - 7 * k) → (0 < k → n ≠ 0) → uget k acc (uintL n ++ r) = some (acc + n * 2 ^ (7 * k), k + (uintL n).length) := by
  intro n
  induction n using Nat.strongRecOn with
  | _ n ih =>
    intro k acc r hk hn h0
    by_cases h : n < 128
    · rw [uintL_lo h]
      show uget k acc (n :: r) = _
      have h1 : ¬ ((0 < k ∧ n = 0) ∨ (8 < k ∧ 1 < n)) := by
        rintro (⟨a, b⟩ | ⟨a, b⟩)
        · exact h0 a b
        · have : k = 9 := by omega
          subst this
          have : n < 2 := hn
          omega
      rw [uget, if_neg h1, if_pos h]; rfl
    · have hk8 : k ≤ 8 := by
        rcases Nat.lt_or_ge k 9 with h1 | h1
        · omega
        · have : k = 9 := by omega
          subst this
          have : n < 2 := hn
          omega
      rw [uintL_hi (by omega)]
      show uget k acc ((n % 128 + 128) :: (uintL (n / 128) ++ r)) = _
      have h1 : ¬ ((0 < k ∧ n % 128 + 128 = 0) ∨ (8 < k ∧ 1 < n % 128 + 128)) := by omega
      have h2 : ¬ n % 128 + 128 < 128 := by omega
      rw [uget, if_neg h1, if_neg h2]
      have hlt : n / 128 < 2 ^ (64 - 7 * (k + 1)) := by
        rw [pow_left hk8] at hn
        exact Nat.div_lt_of_lt_mul hn
      rw [ih (n / 128) (Nat.div_lt_self (by omega) (by omega)) (k + 1) _ r (by omega) hlt (by omega)]
      have e2 : (n % 128 + 128) % 128 = n % 128 := by omega
      have e4 : acc + n % 128 * 2 ^ (7 * k) + n / 128 * (128 * 2 ^ (7 * k)) = acc + n * 2 ^ (7 * k) := by
        have e5 : n * 2 ^ (7 * k) = (128 * (n / 128) + n % 128) * 2 ^ (7 * k) := by rw [Nat.div_add_mod]
        rw [e5, Nat.add_mul, Nat.mul_comm 128 (n / 128), Nat.mul_assoc]; omega
      rw [e2, pow_step, e4, List.length_cons, show k + 1 + (uintL (n / 128)).length = k + ((uintL (n / 128)).length + 1) by omega]
theorem uget_get : ∀ (l : List Nat) (k acc v j : Nat), k ≤ 9 → (∀ x ∈ l, x < 256) → uget k acc l = some (v, j) → ∃ n r, l = uintL n ++ r ∧ v = acc + n * 2 ^ (7 * k) ∧ j = k + (uintL n).length ∧ (0 < k → n ≠ 0) ∧ n < 2 ^ (64 - 7 * k)
  | [], k, acc, v, j, _, _, h => by cases h
  | c :: r, k, acc, v, j, hk, hb, h => by
    rw [uget] at h
    split at h
    · cases h
    · rename_i h1
      split at h
      · rename_i h2
        cases h
        refine ⟨c, r, by rw [uintL_lo h2]; rfl, rfl, by rw [uintL_lo h2]; rfl, by omega, ?_⟩
        rcases Nat.lt_or_ge k 9 with h3 | h3
        · have h4 : 2 ^ 8 ≤ 2 ^ (64 - 7 * k) := Nat.pow_le_pow_right (by omega) (by omega)
          have h5 : (2 : Nat) ^ 8 = 256 := rfl
          omega
        · have : k = 9 := by omega
          subst this
          show c < 2
          omega
      · rename_i h2
        have hk8 : k ≤ 8 := by omega
        obtain ⟨n, q, rfl, e2, e3, e4, e5⟩ := uget_get r (k + 1) _ v j (by omega) (fun x hx => hb x (List.mem_cons_of_mem _ hx)) h
        have hc := hb c List.mem_cons_self
        have hn : n ≠ 0 := e4 (Nat.succ_pos k)
        have hi : uintL (c % 128 + 128 * n) = c :: uintL n := by
          rw [uintL_hi (by omega)]
          have a1 : (c % 128 + 128 * n) % 128 + 128 = c := by omega
          have a2 : (c % 128 + 128 * n) / 128 = n := by omega
          rw [a1, a2]
        refine ⟨c % 128 + 128 * n, q, by rw [hi]; rfl, ?_, ?_, fun _ => by omega, ?_⟩
        · have e6 : n * (128 * 2 ^ (7 * k)) = 128 * n * 2 ^ (7 * k) := by rw [← Nat.mul_assoc, Nat.mul_comm n 128]
          rw [e2, pow_step, Nat.add_mul, e6]; omega
        · rw [e3, hi, List.length_cons]; omega
        · rw [pow_left hk8]; omega
theorem ug_put {v : Nat} (h : v < 18446744073709551616) (r : List Nat) : uget 0 0 (uintL v ++ r) = some (v, (uintL v).length) := by
  have := uget_put v 0 0 r (by omega) h (by omega)
  simpa using this
theorem ug_get {l : List Nat} {v j : Nat} (hb : ∀ x ∈ l, x < 256) (h : uget 0 0 l = some (v, j)) : l = uintL v ++ l.drop j ∧ j = (uintL v).length ∧ v < 18446744073709551616 := by
  obtain ⟨n, r, e1, e2, e3, _, e5⟩ := uget_get l 0 0 v j (by omega) hb h
  have hv : v = n := by simpa using e2
  subst hv
  have hj : j = (uintL v).length := by simpa using e3
  have e5 : v < 18446744073709551616 := e5
  refine ⟨?_, hj, e5⟩
  subst e1
  rw [hj, List.drop_left]
theorem ug_le {l : List Nat} {v j : Nat} (hb : ∀ x ∈ l, x < 256) (h : uget 0 0 l = some (v, j)) : j ≤ l.length := by
  obtain ⟨e1, e2, _⟩ := ug_get hb h
  have := congrArg List.length e1
  rw [List.length_append] at this
  omega

/-! ### moves -/
def risingL : Int → List Int → Bool
  | _, [] => true
  | p, n :: l => decide (0 ≤ n ∧ n ≤ 1099511627776 ∧ p < n) && risingL n l
def rightB (f t : Int) (zs : List Int) : Bool := decide (0 ≤ f ∧ f < 256 ∧ 0 ≤ t ∧ t < 256 ∧ f ≠ t ∧ zs.length ≤ 10000) && risingL (-1) zs
def deltas : Int → List Int → List Nat
  | _, [] => []
  | last, n :: l => uintL (n - last).toNat ++ deltas n l
def bytesL (f t : Int) (zs : List Int) : List Nat := uintL f.toNat ++ (uintL t.toNat ++ (uintL zs.length ++ deltas 0 zs))
def readN : Nat → Int → List Nat → Option (List Int × List Nat)
  | 0, _, r => some ([], r)
  | k + 1, last, r => match uget 0 0 r with
    | none => none
    | some (n, j) => if n ≤ 1099511627776 ∧ last + n ≤ 1099511627776 then (match readN k (last + n) (r.drop j) with
      | some (xs, q) => some ((last + n) :: xs, q)
      | none => none) else none
def readA (l : List Nat) : Option (Int × Int × List Int × List Nat) := match uget 0 0 l with
  | none => none
  | some (f, j) => if f ≤ 256 then (match uget 0 0 (l.drop j) with
    | none => none
    | some (t, j2) => if t ≤ 256 then (match uget 0 0 ((l.drop j).drop j2) with
      | none => none
      | some (m, j3) => if m ≤ 10000 then (match readN m 0 (((l.drop j).drop j2).drop j3) with
        | none => none
        | some (xs, q) => some ((f : Int), (t : Int), xs, q)) else none) else none) else none
def readL (l : List Nat) : Option (Int × Int × List Int) := match readA l with
  | some (f, t, xs, []) => if rightB f t xs = true then some (f, t, xs) else none
  | _ => none
theorem deltas_lt : ∀ (zs : List Int) (last : Int) (x : Nat), x ∈ deltas last zs → x < 256
  | [], _, x, h => by cases h
  | n :: l, last, x, h => by
    rcases List.mem_append.1 h with h | h
    · exact uintL_lt _ x h
    · exact deltas_lt l n x h
theorem bytesL_lt (f t : Int) (zs : List Int) (x : Nat) (h : x ∈ bytesL f t zs) : x < 256 := by
  rcases List.mem_append.1 h with h | h
  · exact uintL_lt _ x h
  rcases List.mem_append.1 h with h | h
  · exact uintL_lt _ x h
  rcases List.mem_append.1 h with h | h
  · exact uintL_lt _ x h
  exact deltas_lt _ _ x h
theorem bytesL_pos (f t : Int) (zs : List Int) : 0 < (bytesL f t zs).length := by
  have := uintL_pos f.toNat
  unfold bytesL
  rw [List.length_append]; omega
theorem drop_len (a b : List Nat) : (a ++ b).drop a.length = b := List.drop_left
theorem readN_put : ∀ (zs : List Int) (p last : Int) (r : List Nat), risingL p zs = true → (p = last ∨ p = -1 ∧ last = 0) → 0 ≤ last → readN zs.length last (deltas last zs ++ r) = some (zs, r)
  | [], p, last, r, _, _, _ => rfl
  | n :: l, p, last, r, h, hp, h0 => by
    unfold risingL at h
    rw [Bool.and_eq_true, decide_eq_true_eq] at h
    obtain ⟨⟨h1, h2, h3⟩, h4⟩ := h
    have e : ((n - last).toNat : Int) = n - last := Int.toNat_of_nonneg (by omega)
    have hd : (n - last).toNat ≤ 1099511627776 := by omega
    show readN (l.length + 1) last ((uintL (n - last).toNat ++ deltas n l) ++ r) = _
    rw [List.append_assoc]
    unfold readN
    rw [ug_put (by omega)]
    simp only
    rw [if_pos ⟨hd, by omega⟩, drop_len, show last + ((n - last).toNat : Int) = n by omega, readN_put l n n r h4 (.inl rfl) h1]
theorem readN_get : ∀ (k : Nat) (last : Int) (l : List Nat) (xs : List Int) (q : List Nat), (∀ x ∈ l, x < 256) → readN k last l = some (xs, q) → l = deltas last xs ++ q ∧ xs.length = k
  | 0, last, l, xs, q, _, h => by cases h; exact ⟨rfl, rfl⟩
  | k + 1, last, l, xs, q, hb, h => by
    unfold readN at h
    split at h
    · cases h
    rename_i n j hu
    split at h
    case isFalse => cases h
    split at h
    case h_2 => cases h
    rename_i ys q' hr
    cases h
    obtain ⟨e1, e2, _⟩ := ug_get hb hu
    obtain ⟨e3, e4⟩ := readN_get k (last + n) (l.drop j) ys q (fun x hx => hb x (List.mem_of_mem_drop hx)) hr
    refine ⟨?_, by rw [List.length_cons, e4]⟩
    show l = (uintL (last + (n : Int) - last).toNat ++ deltas (last + n) ys) ++ q
    rw [show (last + (n : Int) - last).toNat = n by omega, List.append_assoc, ← e3, ← e1]
theorem right_parts {f t : Int} {zs : List Int} (h : rightB f t zs = true) : 0 ≤ f ∧ f < 256 ∧ 0 ≤ t ∧ t < 256 ∧ f ≠ t ∧ zs.length ≤ 10000 ∧ risingL (-1) zs = true := by
  unfold rightB at h
  rw [Bool.and_eq_true, decide_eq_true_eq] at h
  obtain ⟨⟨a, b, c, d, e, g⟩, k⟩ := h
  exact ⟨a, b, c, d, e, g, k⟩
theorem readA_put {f t : Int} {zs : List Int} (h : rightB f t zs = true) (r : List Nat) : readA (bytesL f t zs ++ r) = some (f, t, zs, r) := by
  obtain ⟨h1, h2, h3, h4, _, h5, h6⟩ := right_parts h
  have ef : ((f.toNat : Nat) : Int) = f := Int.toNat_of_nonneg h1
  have et : ((t.toNat : Nat) : Int) = t := Int.toNat_of_nonneg h3
  have e0 : bytesL f t zs ++ r = uintL f.toNat ++ (uintL t.toNat ++ (uintL zs.length ++ (deltas 0 zs ++ r))) := by
    unfold bytesL
    simp only [List.append_assoc]
  rw [e0]
  unfold readA
  rw [ug_put (by omega)]
  simp only
  rw [if_pos (by omega), drop_len, ug_put (by omega)]
  simp only
  rw [if_pos (by omega), drop_len, ug_put (by omega)]
  simp only
  rw [if_pos h5, drop_len, readN_put zs (-1) 0 r h6 (.inr ⟨rfl, rfl⟩) (by omega)]
  simp only
  rw [ef, et]
theorem readA_get {l : List Nat} (hb : ∀ x ∈ l, x < 256) {f t : Int} {xs : List Int} {q : List Nat} (h : readA l = some (f, t, xs, q)) : l = bytesL f t xs ++ q := by
  unfold readA at h
  split at h
  · cases h
  rename_i f' j hf
  split at h
  case isFalse => cases h
  split at h
  · cases h
  rename_i t' j2 ht
  split at h
  case isFalse => cases h
  split at h
  · cases h
  rename_i m j3 hm
  split at h
  case isFalse => cases h
  split at h
  · cases h
  rename_i ys q' hr
  cases h
  have b1 : ∀ x ∈ l.drop j, x < 256 := fun x hx => hb x (List.mem_of_mem_drop hx)
  have b2 : ∀ x ∈ (l.drop j).drop j2, x < 256 := fun x hx => b1 x (List.mem_of_mem_drop hx)
  have b3 : ∀ x ∈ ((l.drop j).drop j2).drop j3, x < 256 := fun x hx => b2 x (List.mem_of_mem_drop hx)
  obtain ⟨e1, _⟩ := ug_get hb hf
  obtain ⟨e2, _⟩ := ug_get b1 ht
  obtain ⟨e3, _⟩ := ug_get b2 hm
  obtain ⟨e4, e5⟩ := readN_get m 0 _ xs q b3 hr
  have : bytesL (f' : Int) (t' : Int) xs ++ q = uintL f' ++ (uintL t' ++ (uintL m ++ (deltas 0 xs ++ q))) := by
    unfold bytesL
    simp only [List.append_assoc, Int.toNat_natCast, e5]
  rw [this, ← e4, ← e3, ← e2, ← e1]
theorem readL_put {f t : Int} {zs : List Int} (h : rightB f t zs = true) : readL (bytesL f t zs) = some (f, t, zs) := by
  have := readA_put h []
  rw [List.append_nil] at this
  unfold readL
  rw [this]
  simp only
  rw [if_pos h]
theorem readL_get {l : List Nat} (hb : ∀ x ∈ l, x < 256) {f t : Int} {zs : List Int} (h : readL l = some (f, t, zs)) : rightB f t zs = true ∧ l = bytesL f t zs := by
  unfold readL at h
  split at h
  case h_2 => cases h
  rename_i f' t' xs hr
  split at h
  case isFalse => cases h
  rename_i hok
  cases h
  have := readA_get hb hr
  rw [List.append_nil] at this
  exact ⟨hok, this⟩
/-- cut, there is none -/
theorem readL_cut {f t : Int} {zs : List Int} (h : rightB f t zs = true) {k : Nat} (hk : k < (bytesL f t zs).length) : readL ((bytesL f t zs).take k) = none := by
  cases hr : readL ((bytesL f t zs).take k) with
  | none => rfl
  | some m =>
    obtain ⟨f', t', ys⟩ := m
    exfalso
    obtain ⟨h1, h2⟩ := readL_get (fun x hx => bytesL_lt f t zs x (List.mem_of_mem_take hx)) hr
    have e1 := readA_put h []
    have e2 := readA_put h1 ((bytesL f t zs).drop k)
    rw [← h2, List.take_append_drop] at e2
    rw [List.append_nil, e2] at e1
    have e3 : (bytesL f t zs).drop k = [] := by
      injection e1 with e1
      injection e1 with _ e1
      injection e1 with _ e1
      injection e1
    have := congrArg List.length e3
    rw [List.length_drop, List.length_nil] at this
    omega
/-- with a byte more, there is none -/
theorem readL_more {f t : Int} {zs : List Int} (h : rightB f t zs = true) {x : Nat} (hx : x < 256) : readL (bytesL f t zs ++ [x]) = none := by
  cases hr : readL (bytesL f t zs ++ [x]) with
  | none => rfl
  | some m =>
    obtain ⟨f', t', ys⟩ := m
    exfalso
    obtain ⟨h1, h2⟩ := readL_get (fun y hy => by
      rcases List.mem_append.1 hy with hy | hy
      · exact bytesL_lt f t zs y hy
      · rw [List.mem_singleton] at hy; omega) hr
    have e1 := readA_put h [x]
    have e2 := readA_put h1 []
    rw [List.append_nil, ← h2, e1] at e2
    injection e2 with e2
    injection e2 with _ e2
    injection e2 with _ e2
    injection e2 with _ e2
    cases e2
end Go.Proofs.Ytkafejncffinmaa
set_option linter.unusedVariables false
set_option linter.unusedSimpArgs false
namespace Go.Proofs.Ytkafejncffinmaa
open Go
set_option maxRecDepth 100000
theorem zero5 : repL ty5.zero 1 = [.int .u8 0] := by kernel_rfl
theorem zero3 : repL ty3.zero 1 = [.int .i64 0] := by kernel_rfl

/-! ### Uint -/
noncomputable def uintB : C := (cOp (slotT 6) (oCmp iGt .u64 (slotG 1) (kV (.int .u64 127)))
(cCond (slotG 6)
(cBlock 1 (cOp (slotT 9) (oRem .u64 (slotG 1) (kV (.int .u64 128)))
(cOp (slotT 10) (oAdd .u64 (topOf .u64) (slotG 9) (kV (.int .u64 128)))
(cOp (slotT 11) (oConv .u8 (slotG 10))
(cOp (slotT 12) (oBuildSlice 1 (repL ty5.zero 1) [(0, 1, (slotG 11))])
(cOp (slotT 13) (oAppend 1 1 5 (slotG 0) (slotG 12))
(cOp (slotT 15) (oDiv .u64 (slotG 1) (kV (.int .u64 128)))
(cOp (slotT 0) (oMove (slotG 13))
(cOp (slotT 1) (oMove (slotG 15))
cNorm)))))))))
(cExit 0)))
noncomputable def uintR : C := (cOp (slotT 18) (oConv .u8 (slotG 1))
(cOp (slotT 19) (oBuildSlice 1 (repL ty5.zero 1) [(0, 1, (slotG 18))])
(cOp (slotT 20) (oAppend 1 1 5 (slotG 0) (slotG 19))
(cOp (slotT 4) (oMove (slotG 20))
cRet))))
theorem d36_is : d36 = cOp (slotT 4) (oMove (kV (.slice none 0 0))) (cSeq (cBlock 0 (cLoop uintB)) uintR) := rfl
theorem uint_loop {F : CallF} {h0 h : Hp} {k : Nat} (x0 : h0.Ext h) (hk : h0.next ≤ k) (hk2 : k ≤ h.next) {v : Value} {l : List Nat} (o : h.Own k 5 v (l.map bv)) (hl : l.length ≤ 1000000) {N : Nat} (hN : N < 18446744073709551616) {e : Env} (s0 : slotG 0 e = v) (s1 : slotG 1 e = .int .u64 (N : Int)) :
    ∃ e' h' v' xs m, cLoop uintB F e h = .exit 0 e' h' ∧ slotG 0 e' = v' ∧ slotG 1 e' = .int .u64 ((m : Nat) : Int) ∧ m < 128 ∧ l ++ uintL N = xs ++ [m] ∧ h0.Ext h' ∧ h'.Own k 5 v' (xs.map bv) ∧ h.next ≤ h'.next ∧ (∀ b el L, ¬ blkV v b → h.Row b el L → h'.Row b el L ∧ ¬ blkV v' b) := by
  have hten := uintL_ten hN
  refine loop_run (I := fun i e' h' => ∃ v' xs m, slotG 0 e' = v' ∧ slotG 1 e' = .int .u64 ((m : Nat) : Int) ∧ m < 18446744073709551616 ∧ l ++ uintL N = xs ++ uintL m ∧ i + (uintL m).length = (uintL N).length ∧ h0.Ext h' ∧ h'.Own k 5 v' (xs.map bv) ∧ h.next ≤ h'.next ∧ (∀ b el L, ¬ blkV v b → h.Row b el L → h'.Row b el L ∧ ¬ blkV v' b))
    (Q := fun x => ∃ e' h' v' xs m, x = .exit 0 e' h' ∧ slotG 0 e' = v' ∧ slotG 1 e' = .int .u64 ((m : Nat) : Int) ∧ m < 128 ∧ l ++ uintL N = xs ++ [m] ∧ h0.Ext h' ∧ h'.Own k 5 v' (xs.map bv) ∧ h.next ≤ h'.next ∧ (∀ b el L, ¬ blkV v b → h.Row b el L → h'.Row b el L ∧ ¬ blkV v' b)) 20 (by omega) (fun i e' h' ⟨v', xs, m, t0, t1, hm, hx, hi, x1, o1, hn, fr⟩ => ?_)
    ⟨v, l, N, s0, s1, hN, rfl, Nat.zero_add _, x0, o, Nat.le_refl _, fun b el L hb r => ⟨r, hb⟩⟩
  have hlen := congrArg List.length hx
  rw [List.length_append, List.length_append] at hlen
  by_cases h1 : m < 128
  · right
    have c1 : iGt (m : Int) 127 = false := by rw [iGt_is]; simp; omega
    have hrun : uintB F e' h' = .exit 0 (Env.set 6 (.bool false) e') h' := by
      unfold uintB
      simp only [cOp_is, cDo_is, cCond_is, cSeq_is, cBlock_is, cNorm_is, cRet_is, cExit_is, opX_ok, doX_ok, condX_true, condX_false, seqX_norm, seqX_exit, seqX_ret, blockX_norm, blockX_ret, blockX_exit, oMove_is, kV_is, slot_set, Nat.reduceLT, Nat.reduceEqDiff, if_true, if_false, reduceIte, oCmp_is, cmpR_is, t1, c1]
    rw [hrun]
    refine ⟨rfl, _, _, v', xs, m, rfl, by simp only [slot_set, Nat.reduceLT, Nat.reduceEqDiff, if_true, if_false, reduceIte]; exact t0, by simp only [slot_set, Nat.reduceLT, Nat.reduceEqDiff, if_true, if_false, reduceIte]; exact t1, h1, ?_, x1, o1, hn, fr⟩
    rw [hx, uintL_lo h1]
  · left
    have W := x1.wf
    have c1 : iGt (m : Int) 127 = true := by rw [iGt_is]; simp; omega
    have r1 : remR .u64 (.int .u64 (m : Int)) (.int .u64 128) h' = .ok (.int .u64 ((m % 128 : Nat) : Int)) h' := by rw [remR_is (by omega)]; rfl
    have a1 : addR .u64 (.int .u64 ((m % 128 : Nat) : Int)) (.int .u64 128) h' = .ok (.int .u64 ((m % 128 + 128 : Nat) : Int)) h' := by
      have : IntKind.u64.wrap (((m % 128 : Nat) : Int) + 128) = ((m % 128 + 128 : Nat) : Int) := by
        rw [show ((m % 128 : Nat) : Int) + 128 = ((m % 128 + 128 : Nat) : Int) by omega]; exact wrap_u64 (by omega)
      rw [addR_is, this]
    have v1 : convR .u8 (.int .u64 ((m % 128 + 128 : Nat) : Int)) h' = .ok (.int .u8 ((m % 128 + 128 : Nat) : Int)) h' := by
      rw [convR_is, wrap_u8, Nat.mod_eq_of_lt (show m % 128 + 128 < 256 by omega)]
    have os : ∀ e, slotG 11 e = .int .u8 ((m % 128 + 128 : Nat) : Int) → oBuildSlice 1 (repL ty5.zero 1) [(0, 1, slotG 11)] F e h' = .ok (.slice (some ⟨h'.next, 0, none⟩) 1 1) (h'.pushRow 0 [.int .u8 ((m % 128 + 128 : Nat) : Int)]) := fun e he => by rw [zero5]; exact one_slice W he rfl rfl
    have hpos := uintL_pos (m / 128)
    rw [uintL_hi (n := m) (by omega)] at hi hlen hx
    rw [List.length_cons] at hi hlen
    obtain ⟨h2, v2, a2, x2, o2, hn2, fr2⟩ := own_one (eb := 1) (n := ((m % 128 + 128 : Nat) : Int)) (kd := .u8) x1 hk (Nat.le_trans hk2 hn) o1 (by rw [List.length_map]; omega)
    have d1 : divR .u64 (.int .u64 (m : Int)) (.int .u64 128) h2 = .ok (.int .u64 ((m / 128 : Nat) : Int)) h2 := by
      have : IntKind.u64.wrap ((m : Int).tdiv 128) = ((m / 128 : Nat) : Int) := wrap_u64 (n := m / 128) (by omega)
      rw [divR_is (by omega), this]
    have hrun : ∃ e2, uintB F e' h' = .norm e2 h2 ∧ slotG 0 e2 = v2 ∧ slotG 1 e2 = .int .u64 ((m / 128 : Nat) : Int) := by
      unfold uintB
      simp only [cOp_is, cDo_is, cCond_is, cSeq_is, cBlock_is, cNorm_is, cRet_is, cExit_is, opX_ok, doX_ok, condX_true, condX_false, seqX_norm, seqX_exit, seqX_ret, blockX_norm, blockX_ret, blockX_exit, oMove_is, kV_is, slot_set, Nat.reduceLT, Nat.reduceEqDiff, if_true, if_false, reduceIte, oCmp_is, cmpR_is, t1, c1, oRem_is, r1, oAdd_is, a1, oConv_is, v1, os, oAppend_is, t0, a2, oDiv_is, d1]
      exact ⟨_, rfl, by simp only [slot_set, Nat.reduceLT, Nat.reduceEqDiff, if_true, if_false, reduceIte], by simp only [slot_set, Nat.reduceLT, Nat.reduceEqDiff, if_true, if_false, reduceIte]⟩
    obtain ⟨e2, b1, b2, b3⟩ := hrun
    refine ⟨by omega, e2, h2, b1, v2, xs ++ [m % 128 + 128], m / 128, b2, b3, by omega, ?_, by omega, x2, ?_, by omega, fun b el L hb r => ?_⟩
    · rw [hx]; simp
    · rw [List.map_append]; exact o2
    · obtain ⟨r1, r2⟩ := fr b el L hb r
      exact fr2 b el L r2 r1
theorem uint_is {n : Nat} {h0 h : Hp} {k : Nat} (x0 : h0.Ext h) (hk : h0.next ≤ k) (hk2 : k ≤ h.next) {v : Value} {l : List Nat} (o : h.Own k 5 v (l.map bv)) (hl : l.length ≤ 1000000) {N : Nat} (hN : N < 18446744073709551616) :
    ∃ h' v', call bodies (n + 1) 36 [v, .int .u64 (N : Int)] h = .ok v' h' ∧ h0.Ext h' ∧ h'.Own k 5 v' ((l ++ uintL N).map bv) ∧ h.next ≤ h'.next ∧ (∀ b el L, ¬ blkV v b → h.Row b el L → h'.Row b el L ∧ ¬ blkV v' b) := by
  obtain ⟨e1, h1, v1, xs, m, q1, s0, s1, hm, hx, x1, o1, hn, fr⟩ := uint_loop (F := call bodies n) x0 hk hk2 o hl hN (e := Env.set 4 (.slice none 0 0) (Env.set 1 (.int .u64 (N : Int)) (Env.set 0 v e0))) (by simp only [slot_set, Nat.reduceLT, Nat.reduceEqDiff, if_true, if_false, reduceIte]) (by simp only [slot_set, Nat.reduceLT, Nat.reduceEqDiff, if_true, if_false, reduceIte])
  have W := x1.wf
  have hten := uintL_ten hN
  have hlen := congrArg List.length hx
  rw [List.length_append, List.length_append, List.length_singleton] at hlen
  have c1 : convR .u8 (.int .u64 (m : Int)) h1 = .ok (.int .u8 (m : Int)) h1 := by
    rw [convR_is, wrap_u8, Nat.mod_eq_of_lt (show m < 256 by omega)]
  have os : ∀ e, slotG 18 e = .int .u8 (m : Int) → oBuildSlice 1 (repL ty5.zero 1) [(0, 1, slotG 18)] (call bodies n) e h1 = .ok (.slice (some ⟨h1.next, 0, none⟩) 1 1) (h1.pushRow 0 [.int .u8 (m : Int)]) := fun e he => by rw [zero5]; exact one_slice W he rfl rfl
  obtain ⟨h2, v2, a2, x2, o2, hn2, fr2⟩ := own_one (eb := 1) (n := (m : Int)) (kd := .u8) x1 hk (Nat.le_trans hk2 hn) o1 (by rw [List.length_map]; omega)
  refine ⟨h2, v2, ?_, x2, ?_, by omega, fun b el L hb r => ?_⟩
  · rw [call36 rfl, d36_is]
    simp only [setArgs_cons, setArgs_nil, Nat.succ_eq_add_one, Nat.zero_add, Nat.reduceAdd, slot_set, Nat.reduceLT, Nat.reduceEqDiff, if_true, if_false, reduceIte, cOp_is, opX_ok, oMove_is, kV_is, cSeq_is, cBlock_is]
    rw [q1]
    simp only [blockX_exit, seqX_norm]
    unfold uintR
    simp only [cOp_is, cDo_is, cCond_is, cSeq_is, cBlock_is, cNorm_is, cRet_is, cExit_is, opX_ok, doX_ok, condX_true, condX_false, seqX_norm, seqX_exit, seqX_ret, blockX_norm, blockX_ret, blockX_exit, oMove_is, kV_is, slot_set, Nat.reduceLT, Nat.reduceEqDiff, if_true, if_false, reduceIte, oConv_is, s1, c1, os, oAppend_is, s0, a2, leave_ret, finish_1]
  · rw [hx, List.map_append]; exact o2
  · obtain ⟨r1, r2⟩ := fr b el L hb r
    exact fr2 b el L r2 r1

/-! ### GetUint -/
/-- what GetUint gives of bytes from place p -/
def GuIs (l : List Nat) (p : Nat) (a b c : Int) : Prop := (∃ v j : Nat, uget 0 0 (l.drop p) = some (v, j) ∧ a = (v : Int) ∧ b = ((p + j : Nat) : Int) ∧ c = 0) ∨ (uget 0 0 (l.drop p) = none ∧ c ≠ 0)
noncomputable def getB : C := (cOp (slotT 22) (oLenS (slotG 0))
(cOp (slotT 23) (oCmp iLt .i64 (slotG 8) (slotG 22))
(cCond (slotG 23)
(cSeq (cBlock 1 (cOp (slotT 28) (oIdx 1 (slotG 0) (slotG 8))
(cOp (slotT 29) (oLoad1 (slotG 28))
(cOp (slotT 32) (oAri Int.sub .i64 (slotG 8) (slotG 1))
(cOp (slotT 9) (oMove (slotG 29))
(cOp (slotT 10) (oMove (slotG 32))
(cOp (slotT 34) (oCmp iGt .i64 (slotG 10) (kV (.int .i64 0)))
(cG (slotG 34) true (slotT 36) (oMove (slotG 9))
(cG (slotG 34) true (slotT 37) (oCmp iEq .u8 (slotG 36) (kV (.int .u8 0)))
(cOp (slotT 38) (oPick (slotG 34) (slotG 37) (kV (.bool false)))
(cG (slotG 38) false (slotT 40) (oMove (slotG 10))
(cG (slotG 38) false (slotT 41) (oCmp iGt .i64 (slotG 40) (kV (.int .i64 8)))
(cG (slotG 38) false (slotT 42) (oMove (slotG 41))
(cG (slotG 42) true (slotT 43) (oMove (slotG 9))
(cG (slotG 42) true (slotT 44) (oCmp iGt .u8 (slotG 43) (kV (.int .u8 1)))
(cG (slotG 38) false (slotT 45) (oPick (slotG 42) (slotG 44) (kV (.bool false)))
(cOp (slotT 46) (oPick (slotG 38) (kV (.bool true)) (slotG 45))
(cCond (slotG 46)
(cOp (slotT 4) (oMove (kV (.int .u64 0)))
(cOp (slotT 5) (oMove (kV (.int .i64 0)))
(cOp (slotT 6) (oMove (kV (.int .i64 10)))
cRet)))
(cOp (slotT 49) (oRem .u8 (slotG 9) (kV (.int .u8 128)))
(cOp (slotT 50) (oConv .u64 (slotG 49))
(cOp (slotT 52) (oAri Int.mul .i64 (kV (.int .i64 7)) (slotG 10))
(cOp (slotT 53) (oShl .u64 (slotG 50) (slotG 52))
(cOp (slotT 54) (oAdd .u64 (topOf .u64) (slotG 7) (slotG 53))
(cOp (slotT 7) (oMove (slotG 54))
(cOp (slotT 56) (oCmp iLt .u8 (slotG 9) (kV (.int .u8 128)))
(cCond (slotG 56)
(cOp (slotT 59) (oAdd .i64 (topOf .i64) (slotG 8) (kV (.int .i64 1)))
(cOp (slotT 4) (oMove (slotG 7))
(cOp (slotT 5) (oMove (slotG 59))
(cOp (slotT 6) (oMove (kV (.int .i64 0)))
cRet))))
cNorm))))))))))))))))))))))))))
(cOp (slotT 25) (oAdd .i64 (topOf .i64) (slotG 8) (kV (.int .i64 1)))
(cOp (slotT 8) (oMove (slotG 25))
cNorm)))
(cExit 0))))
noncomputable def getT : C := (cCond (slotG 46)
(cOp (slotT 4) (oMove (kV (.int .u64 0)))
(cOp (slotT 5) (oMove (kV (.int .i64 0)))
(cOp (slotT 6) (oMove (kV (.int .i64 10)))
cRet)))
(cOp (slotT 49) (oRem .u8 (slotG 9) (kV (.int .u8 128)))
(cOp (slotT 50) (oConv .u64 (slotG 49))
(cOp (slotT 52) (oAri Int.mul .i64 (kV (.int .i64 7)) (slotG 10))
(cOp (slotT 53) (oShl .u64 (slotG 50) (slotG 52))
(cOp (slotT 54) (oAdd .u64 (topOf .u64) (slotG 7) (slotG 53))
(cOp (slotT 7) (oMove (slotG 54))
(cOp (slotT 56) (oCmp iLt .u8 (slotG 9) (kV (.int .u8 128)))
(cCond (slotG 56)
(cOp (slotT 59) (oAdd .i64 (topOf .i64) (slotG 8) (kV (.int .i64 1)))
(cOp (slotT 4) (oMove (slotG 7))
(cOp (slotT 5) (oMove (slotG 59))
(cOp (slotT 6) (oMove (kV (.int .i64 0)))
cRet))))
cNorm)))))))))
noncomputable def getG (K : C) : C := (cOp (slotT 34) (oCmp iGt .i64 (slotG 10) (kV (.int .i64 0)))
(cG (slotG 34) true (slotT 36) (oMove (slotG 9))
(cG (slotG 34) true (slotT 37) (oCmp iEq .u8 (slotG 36) (kV (.int .u8 0)))
(cOp (slotT 38) (oPick (slotG 34) (slotG 37) (kV (.bool false)))
(cG (slotG 38) false (slotT 40) (oMove (slotG 10))
(cG (slotG 38) false (slotT 41) (oCmp iGt .i64 (slotG 40) (kV (.int .i64 8)))
(cG (slotG 38) false (slotT 42) (oMove (slotG 41))
(cG (slotG 42) true (slotT 43) (oMove (slotG 9))
(cG (slotG 42) true (slotT 44) (oCmp iGt .u8 (slotG 43) (kV (.int .u8 1)))
(cG (slotG 38) false (slotT 45) (oPick (slotG 42) (slotG 44) (kV (.bool false)))
(cOp (slotT 46) (oPick (slotG 38) (kV (.bool true)) (slotG 45))
K)))))))))))
theorem getB_is : getB = cOp (slotT 22) (oLenS (slotG 0)) (cOp (slotT 23) (oCmp iLt .i64 (slotG 8) (slotG 22)) (cCond (slotG 23) (cSeq (cBlock 1 (cOp (slotT 28) (oIdx 1 (slotG 0) (slotG 8)) (cOp (slotT 29) (oLoad1 (slotG 28)) (cOp (slotT 32) (oAri Int.sub .i64 (slotG 8) (slotG 1)) (cOp (slotT 9) (oMove (slotG 29)) (cOp (slotT 10) (oMove (slotG 32)) (getG getT))))))) (cOp (slotT 25) (oAdd .i64 (topOf .i64) (slotG 8) (kV (.int .i64 1))) (cOp (slotT 8) (oMove (slotG 25)) cNorm))) (cExit 0))) := rfl
theorem getG_is {K : C} {F : CallF} {h : Hp} {e : Env} {c i : Nat} {b1 b2 b3 b4 : Bool} (s9 : slotG 9 e = .int .u8 (c : Int)) (s10 : slotG 10 e = .int .i64 (i : Int)) (i1 : iGt (i : Int) 0 = b1) (i2 : iEq (c : Int) 0 = b2) (i3 : iGt (i : Int) 8 = b3) (i4 : iGt (c : Int) 1 = b4) :
    ∃ e', getG K F e h = K F e' h ∧ slotG 46 e' = .bool ((b1 && b2) || (b3 && b4)) ∧ slotG 0 e' = slotG 0 e ∧ slotG 1 e' = slotG 1 e ∧ slotG 7 e' = slotG 7 e ∧ slotG 8 e' = slotG 8 e ∧ slotG 9 e' = slotG 9 e ∧ slotG 10 e' = slotG 10 e := by
  unfold getG
  cases b1 <;> cases b2 <;> cases b3 <;> cases b4 <;>
  · simp only [cOp_is, cDo_is, cCond_is, cSeq_is, cBlock_is, cNorm_is, cRet_is, cExit_is, opX_ok, doX_ok, condX_true, condX_false, seqX_norm, seqX_exit, seqX_ret, blockX_norm, blockX_ret, blockX_exit, oMove_is, kV_is, slot_set, Nat.reduceLT, Nat.reduceEqDiff, if_true, if_false, reduceIte, cG_is, guardX_tt, guardX_tf, guardX_ft, guardX_ff, guardX_none, skipC_is, oPick_is, pickR_true, pickR_false, oCmp_is, cmpR_is, s9, s10, i1, i2, i3, i4]
    exact ⟨_, rfl, by simp only [slot_set, Nat.reduceLT, Nat.reduceEqDiff, if_true, if_false, reduceIte]; rfl, by simp only [slot_set, Nat.reduceLT, Nat.reduceEqDiff, if_true, if_false, reduceIte], by simp only [slot_set, Nat.reduceLT, Nat.reduceEqDiff, if_true, if_false, reduceIte], by simp only [slot_set, Nat.reduceLT, Nat.reduceEqDiff, if_true, if_false, reduceIte], by simp only [slot_set, Nat.reduceLT, Nat.reduceEqDiff, if_true, if_false, reduceIte], by simp only [slot_set, Nat.reduceLT, Nat.reduceEqDiff, if_true, if_false, reduceIte, s9], by simp only [slot_set, Nat.reduceLT, Nat.reduceEqDiff, if_true, if_false, reduceIte, s10]⟩
theorem pow_le63 {i : Nat} (hi : i ≤ 9) : 2 ^ (7 * i) ≤ 9223372036854775808 := by
  have : 2 ^ (7 * i) ≤ 2 ^ 63 := Nat.pow_le_pow_right (by omega) (by omega)
  have e : (2 : Nat) ^ 63 = 9223372036854775808 := rfl
  omega
theorem get_loop {F : CallF} {h : Hp} {u : Value} {l : List Nat} {p : Nat} (V : h.Vals u (l.map bv)) (hb : ∀ x ∈ l, x < 256) (hp : p ≤ l.length) (hl : l.length ≤ 1000000) {e : Env} (s0 : slotG 0 e = u) (s1 : slotG 1 e = .int .i64 (p : Int)) (s7 : slotG 7 e = .int .u64 0) (s8 : slotG 8 e = .int .i64 (p : Int)) :
    (∃ e', cLoop getB F e h = .exit 0 e' h ∧ uget 0 0 (l.drop p) = none) ∨ (∃ e' a b c, cLoop getB F e h = .ret e' h ∧ slotG 4 e' = .int .u64 a ∧ slotG 5 e' = .int .i64 b ∧ slotG 6 e' = .int .i64 c ∧ GuIs l p a b c) := by
  have Vl : lenSR u h = .ok (.int .i64 (l.length : Int)) h := by have := V.len; rwa [List.length_map] at this
  refine loop_run (I := fun i e' h' => h' = h ∧ ∃ acc : Nat, slotG 0 e' = u ∧ slotG 1 e' = .int .i64 (p : Int) ∧ slotG 7 e' = .int .u64 (acc : Int) ∧ slotG 8 e' = .int .i64 ((p + i : Nat) : Int) ∧ acc < 2 ^ (7 * i) ∧ i ≤ 9 ∧ p + i ≤ l.length ∧ uget 0 0 (l.drop p) = uget i acc (l.drop (p + i)))
    (Q := fun x => (∃ e', x = .exit 0 e' h ∧ uget 0 0 (l.drop p) = none) ∨ (∃ e' a b c, x = .ret e' h ∧ slotG 4 e' = .int .u64 a ∧ slotG 5 e' = .int .i64 b ∧ slotG 6 e' = .int .i64 c ∧ GuIs l p a b c)) 20 (by omega) (fun i e' h' ⟨hh, acc, t0, t1, t7, t8, hacc, hi9, hpi, hu⟩ => ?_)
    ⟨rfl, 0, s0, s1, s7, s8, by decide, by omega, hp, rfl⟩
  subst hh
  by_cases hlt : p + i < l.length
  · have hc : l.getD (p + i) 0 < 256 := hb _ (by rw [List.getD_eq_getElem?_getD, List.getElem?_eq_getElem hlt]; exact List.getElem_mem hlt)
    have hd : l.drop (p + i) = l.getD (p + i) 0 :: l.drop (p + i + 1) := by
      rw [List.drop_eq_getElem_cons hlt, List.getD_eq_getElem?_getD, List.getElem?_eq_getElem hlt]; rfl
    have hel : (l.map bv).getD (p + i) noRes = .int .u8 ((l.getD (p + i) 0 : Nat) : Int) := by
      rw [List.getD_eq_getElem?_getD, List.getElem?_map, List.getD_eq_getElem?_getD, List.getElem?_eq_getElem hlt]; rfl
    obtain ⟨a, g1, g2⟩ := V.at (i := p + i) (by rw [List.length_map]; exact hlt)
    rw [hel] at g2
    rw [hd] at hu
    generalize l.getD (p + i) 0 = c at hc g2 hu
    have c1 : iLt ((p + i : Nat) : Int) (l.length : Int) = true := by rw [iLt_is]; simp; omega
    have a2 : ariR Int.sub .i64 (.int .i64 ((p + i : Nat) : Int)) (.int .i64 (p : Int)) h' = .ok (.int .i64 (i : Int)) h' := by
      have : Int.sub ((p + i : Nat) : Int) (p : Int) = (i : Int) := by show ((p + i : Nat) : Int) - (p : Int) = i; omega
      rw [ariR_is, this, wrap_nat (by omega)]
    have a3 : addR .i64 (.int .i64 ((p + i : Nat) : Int)) (.int .i64 1) h' = .ok (.int .i64 ((p + (i + 1) : Nat) : Int)) h' := by
      have : ((p + i : Nat) : Int) + 1 = ((p + (i + 1) : Nat) : Int) := by omega
      rw [addR_is, this, wrap_nat (by omega)]
    have pre : ∃ e2, getB F e' h' = seqX (blockX 1 (getT F e2 h')) (cOp (slotT 25) (oAdd .i64 (topOf .i64) (slotG 8) (kV (.int .i64 1))) (cOp (slotT 8) (oMove (slotG 25)) cNorm)) F ∧ slotG 46 e2 = .bool ((decide (0 < i) && decide (c = 0)) || (decide (8 < i) && decide (1 < c))) ∧ slotG 0 e2 = u ∧ slotG 1 e2 = .int .i64 (p : Int) ∧ slotG 7 e2 = .int .u64 (acc : Int) ∧ slotG 8 e2 = .int .i64 ((p + i : Nat) : Int) ∧ slotG 9 e2 = .int .u8 (c : Int) ∧ slotG 10 e2 = .int .i64 (i : Int) := by
      obtain ⟨e2, q1, q2, q3, q4, q5, q6, q7, q8⟩ := getG_is (K := getT) (F := F) (h := h') (e := Env.set 10 (.int .i64 (i : Int)) (Env.set 9 (.int .u8 (c : Int)) (Env.set 32 (.int .i64 (i : Int)) (Env.set 29 (.int .u8 (c : Int)) (Env.set 28 (.pointer (some a)) (Env.set 23 (.bool true) (Env.set 22 (.int .i64 (l.length : Int)) e'))))))) (c := c) (i := i) (b1 := decide (0 < i)) (b2 := decide (c = 0)) (b3 := decide (8 < i)) (b4 := decide (1 < c))
        (by simp only [slot_set, Nat.reduceLT, Nat.reduceEqDiff, if_true, if_false, reduceIte]) (by simp only [slot_set, Nat.reduceLT, Nat.reduceEqDiff, if_true, if_false, reduceIte]) (by rw [iGt_is, decide_eq_decide]; omega) (by rw [iEq_is, Bool.eq_iff_iff, beq_iff_eq, decide_eq_true_eq]; omega) (by rw [iGt_is, decide_eq_decide]; omega) (by rw [iGt_is, decide_eq_decide]; omega)
      refine ⟨e2, ?_, q2, ?_, ?_, ?_, ?_, ?_, ?_⟩
      · rw [getB_is]
        simp only [cOp_is, cCond_is, cSeq_is, cBlock_is, opX_ok, condX_true, oMove_is, kV_is, slot_set, Nat.reduceLT, Nat.reduceEqDiff, if_true, if_false, reduceIte, oLenS_is, t0, Vl, oCmp_is, cmpR_is, t8, c1, oIdx_is, g1, oLoad1_is, g2, oAri_is, t1, a2, q1]
      · rw [q3]; simp only [slot_set, Nat.reduceLT, Nat.reduceEqDiff, if_true, if_false, reduceIte]; exact t0
      · rw [q4]; simp only [slot_set, Nat.reduceLT, Nat.reduceEqDiff, if_true, if_false, reduceIte]; exact t1
      · rw [q5]; simp only [slot_set, Nat.reduceLT, Nat.reduceEqDiff, if_true, if_false, reduceIte]; exact t7
      · rw [q6]; simp only [slot_set, Nat.reduceLT, Nat.reduceEqDiff, if_true, if_false, reduceIte]; exact t8
      · rw [q7]; simp only [slot_set, Nat.reduceLT, Nat.reduceEqDiff, if_true, if_false, reduceIte]
      · rw [q8]; simp only [slot_set, Nat.reduceLT, Nat.reduceEqDiff, if_true, if_false, reduceIte]
    obtain ⟨e2, p1, p46, p0, pp1, p7, p8, p9, p10⟩ := pre
    rw [uget] at hu
    by_cases hbad : (0 < i ∧ c = 0) ∨ (8 < i ∧ 1 < c)
    · right
      have hB : ((decide (0 < i) && decide (c = 0)) || (decide (8 < i) && decide (1 < c))) = true := by simpa using hbad
      rw [hB] at p46
      rw [if_pos hbad] at hu
      have hrun : ∃ e3, getT F e2 h' = .ret e3 h' ∧ slotG 4 e3 = .int .u64 0 ∧ slotG 5 e3 = .int .i64 0 ∧ slotG 6 e3 = .int .i64 10 := by
        unfold getT
        simp only [cOp_is, cDo_is, cCond_is, cSeq_is, cBlock_is, cNorm_is, cRet_is, cExit_is, opX_ok, doX_ok, condX_true, condX_false, seqX_norm, seqX_exit, seqX_ret, blockX_norm, blockX_ret, blockX_exit, oMove_is, kV_is, slot_set, Nat.reduceLT, Nat.reduceEqDiff, if_true, if_false, reduceIte, p46]
        exact ⟨_, rfl, by simp only [slot_set, Nat.reduceLT, Nat.reduceEqDiff, if_true, if_false, reduceIte], by simp only [slot_set, Nat.reduceLT, Nat.reduceEqDiff, if_true, if_false, reduceIte], by simp only [slot_set, Nat.reduceLT, Nat.reduceEqDiff, if_true, if_false, reduceIte]⟩
      obtain ⟨e3, r1, r4, r5, r6⟩ := hrun
      rw [p1, r1, blockX_ret, seqX_ret]
      exact ⟨rfl, .inr ⟨e3, 0, 0, 10, rfl, r4, r5, r6, .inr ⟨hu, by omega⟩⟩⟩
    · have hB : ((decide (0 < i) && decide (c = 0)) || (decide (8 < i) && decide (1 < c))) = false := by
        rw [← Bool.not_eq_true]; simpa using hbad
      rw [hB] at p46
      rw [if_neg hbad] at hu
      have hle : acc + c % 128 * 2 ^ (7 * i) < 2 ^ (7 * (i + 1)) := by
        rw [pow_step]
        have h1 : c % 128 ≤ 127 := by omega
        have h2 := Nat.mul_le_mul_right (2 ^ (7 * i)) h1
        omega
      have htop : c % 128 * 2 ^ (7 * i) ≤ 9223372036854775808 ∧ acc < 9223372036854775808 := by
        have h3 := pow_le63 hi9
        refine ⟨?_, by omega⟩
        rcases Nat.lt_or_ge i 9 with h4 | h4
        · have h5 : 2 ^ (7 * (i + 1)) ≤ 9223372036854775808 := pow_le63 (by omega)
          omega
        · have h5 : c % 128 ≤ 1 := by omega
          have h6 := Nat.mul_le_mul_right (2 ^ (7 * i)) h5
          omega
      have m1 : remR .u8 (.int .u8 (c : Int)) (.int .u8 128) h' = .ok (.int .u8 ((c % 128 : Nat) : Int)) h' := by rw [remR_is (by omega)]; rfl
      have m2 : convR .u64 (.int .u8 ((c % 128 : Nat) : Int)) h' = .ok (.int .u64 ((c % 128 : Nat) : Int)) h' := by rw [convR_is, wrap_u64 (by omega)]
      have m3 : ariR Int.mul .i64 (.int .i64 7) (.int .i64 (i : Int)) h' = .ok (.int .i64 ((7 * i : Nat) : Int)) h' := by
        have : Int.mul 7 (i : Int) = ((7 * i : Nat) : Int) := by show (7 : Int) * (i : Int) = _; omega
        rw [ariR_is, this, wrap_nat (by omega)]
      have m4 : shlR .u64 (.int .u64 ((c % 128 : Nat) : Int)) (.int .i64 ((7 * i : Nat) : Int)) h' = .ok (.int .u64 ((c % 128 * 2 ^ (7 * i) : Nat) : Int)) h' := by
        have : min (7 * i) IntKind.u64.bits = 7 * i := Nat.min_eq_left (by show 7 * i ≤ 64; omega)
        rw [shlR_is, this, wrap_u64 (by omega)]
      have m5 : addR .u64 (.int .u64 (acc : Int)) (.int .u64 ((c % 128 * 2 ^ (7 * i) : Nat) : Int)) h' = .ok (.int .u64 ((acc + c % 128 * 2 ^ (7 * i) : Nat) : Int)) h' := by
        rw [addR_is, ← Int.natCast_add, wrap_u64 (by omega)]
      by_cases hsm : c < 128
      · right
        rw [if_pos hsm] at hu
        have c2 : iLt (c : Int) 128 = true := by rw [iLt_is]; simp; omega
        have hrun : ∃ e3, getT F e2 h' = .ret e3 h' ∧ slotG 4 e3 = .int .u64 ((acc + c % 128 * 2 ^ (7 * i) : Nat) : Int) ∧ slotG 5 e3 = .int .i64 ((p + (i + 1) : Nat) : Int) ∧ slotG 6 e3 = .int .i64 0 := by
          unfold getT
          simp only [cOp_is, cDo_is, cCond_is, cSeq_is, cBlock_is, cNorm_is, cRet_is, cExit_is, opX_ok, doX_ok, condX_true, condX_false, seqX_norm, seqX_exit, seqX_ret, blockX_norm, blockX_ret, blockX_exit, oMove_is, kV_is, slot_set, Nat.reduceLT, Nat.reduceEqDiff, if_true, if_false, reduceIte, p46, oRem_is, p9, m1, oConv_is, m2, oAri_is, p10, m3, oShl_is, m4, oAdd_is, p7, m5, oCmp_is, cmpR_is, c2, p8, a3]
          exact ⟨_, rfl, by simp only [slot_set, Nat.reduceLT, Nat.reduceEqDiff, if_true, if_false, reduceIte], by simp only [slot_set, Nat.reduceLT, Nat.reduceEqDiff, if_true, if_false, reduceIte], by simp only [slot_set, Nat.reduceLT, Nat.reduceEqDiff, if_true, if_false, reduceIte]⟩
        obtain ⟨e3, r1, r4, r5, r6⟩ := hrun
        rw [p1, r1, blockX_ret, seqX_ret]
        refine ⟨rfl, .inr ⟨e3, _, _, _, rfl, r4, r5, r6, .inl ⟨_, _, hu, ?_, rfl, rfl⟩⟩⟩
        rw [Nat.mod_eq_of_lt hsm]
      · left
        rw [if_neg hsm] at hu
        have hi8 : i ≤ 8 := by omega
        have c2 : iLt (c : Int) 128 = false := by rw [iLt_is]; simp; omega
        have hrun : ∃ e3, getT F e2 h' = .norm e3 h' ∧ slotG 0 e3 = u ∧ slotG 1 e3 = .int .i64 (p : Int) ∧ slotG 7 e3 = .int .u64 ((acc + c % 128 * 2 ^ (7 * i) : Nat) : Int) ∧ slotG 8 e3 = .int .i64 ((p + i : Nat) : Int) := by
          unfold getT
          simp only [cOp_is, cDo_is, cCond_is, cSeq_is, cBlock_is, cNorm_is, cRet_is, cExit_is, opX_ok, doX_ok, condX_true, condX_false, seqX_norm, seqX_exit, seqX_ret, blockX_norm, blockX_ret, blockX_exit, oMove_is, kV_is, slot_set, Nat.reduceLT, Nat.reduceEqDiff, if_true, if_false, reduceIte, p46, oRem_is, p9, m1, oConv_is, m2, oAri_is, p10, m3, oShl_is, m4, oAdd_is, p7, m5, oCmp_is, cmpR_is, c2, p8, a3]
          exact ⟨_, rfl, by simp only [slot_set, Nat.reduceLT, Nat.reduceEqDiff, if_true, if_false, reduceIte]; exact p0, by simp only [slot_set, Nat.reduceLT, Nat.reduceEqDiff, if_true, if_false, reduceIte]; exact pp1, by simp only [slot_set, Nat.reduceLT, Nat.reduceEqDiff, if_true, if_false, reduceIte], by simp only [slot_set, Nat.reduceLT, Nat.reduceEqDiff, if_true, if_false, reduceIte]; exact p8⟩
        obtain ⟨e3, r1, r0, rr1, r7, r8⟩ := hrun
        have hrun2 : ∃ e4, getB F e' h' = .norm e4 h' ∧ slotG 0 e4 = u ∧ slotG 1 e4 = .int .i64 (p : Int) ∧ slotG 7 e4 = .int .u64 ((acc + c % 128 * 2 ^ (7 * i) : Nat) : Int) ∧ slotG 8 e4 = .int .i64 ((p + (i + 1) : Nat) : Int) := by
          rw [p1, r1]
          simp only [blockX_norm, seqX_norm, cOp_is, opX_ok, oAdd_is, r8, kV_is, a3, oMove_is, cNorm_is, slot_set, Nat.reduceLT, Nat.reduceEqDiff, if_true, if_false, reduceIte]
          exact ⟨_, rfl, by simp only [slot_set, Nat.reduceLT, Nat.reduceEqDiff, if_true, if_false, reduceIte]; exact r0, by simp only [slot_set, Nat.reduceLT, Nat.reduceEqDiff, if_true, if_false, reduceIte]; exact rr1, by simp only [slot_set, Nat.reduceLT, Nat.reduceEqDiff, if_true, if_false, reduceIte]; exact r7, by simp only [slot_set, Nat.reduceLT, Nat.reduceEqDiff, if_true, if_false, reduceIte]⟩
        obtain ⟨e4, k1, k2, k3, k4, k5⟩ := hrun2
        exact ⟨by omega, e4, h', k1, rfl, _, k2, k3, k4, k5, hle, by omega, by omega, hu⟩
  · right
    have c1 : iLt ((p + i : Nat) : Int) (l.length : Int) = false := by rw [iLt_is]; simp; omega
    have hrun : ∃ e2, getB F e' h' = .exit 0 e2 h' := by
      rw [getB_is]
      simp only [cOp_is, cDo_is, cCond_is, cSeq_is, cBlock_is, cNorm_is, cRet_is, cExit_is, opX_ok, doX_ok, condX_true, condX_false, seqX_norm, seqX_exit, seqX_ret, blockX_norm, blockX_ret, blockX_exit, oMove_is, kV_is, slot_set, Nat.reduceLT, Nat.reduceEqDiff, if_true, if_false, reduceIte, oLenS_is, t0, Vl, oCmp_is, cmpR_is, t8, c1]
      exact ⟨_, rfl⟩
    obtain ⟨e2, r1⟩ := hrun
    rw [r1]
    refine ⟨rfl, .inl ⟨e2, rfl, ?_⟩⟩
    rw [hu, List.drop_of_length_le (by omega)]; rfl
noncomputable def getR : C := (cOp (slotT 7) (oMove (kV (.int .u64 0)))
(cOp (slotT 8) (oMove (slotG 1))
(cSeq (cBlock 0 (cLoop (cOp (slotT 22) (oLenS (slotG 0))
(cOp (slotT 23) (oCmp iLt .i64 (slotG 8) (slotG 22))
(cCond (slotG 23)
(cSeq (cBlock 1 (cOp (slotT 28) (oIdx 1 (slotG 0) (slotG 8))
(cOp (slotT 29) (oLoad1 (slotG 28))
(cOp (slotT 32) (oAri Int.sub .i64 (slotG 8) (slotG 1))
(cOp (slotT 9) (oMove (slotG 29))
(cOp (slotT 10) (oMove (slotG 32))
(cOp (slotT 34) (oCmp iGt .i64 (slotG 10) (kV (.int .i64 0)))
(cG (slotG 34) true (slotT 36) (oMove (slotG 9))
(cG (slotG 34) true (slotT 37) (oCmp iEq .u8 (slotG 36) (kV (.int .u8 0)))
(cOp (slotT 38) (oPick (slotG 34) (slotG 37) (kV (.bool false)))
(cG (slotG 38) false (slotT 40) (oMove (slotG 10))
(cG (slotG 38) false (slotT 41) (oCmp iGt .i64 (slotG 40) (kV (.int .i64 8)))
(cG (slotG 38) false (slotT 42) (oMove (slotG 41))
(cG (slotG 42) true (slotT 43) (oMove (slotG 9))
(cG (slotG 42) true (slotT 44) (oCmp iGt .u8 (slotG 43) (kV (.int .u8 1)))
(cG (slotG 38) false (slotT 45) (oPick (slotG 42) (slotG 44) (kV (.bool false)))
(cOp (slotT 46) (oPick (slotG 38) (kV (.bool true)) (slotG 45))
(cCond (slotG 46)
(cOp (slotT 4) (oMove (kV (.int .u64 0)))
(cOp (slotT 5) (oMove (kV (.int .i64 0)))
(cOp (slotT 6) (oMove (kV (.int .i64 10)))
cRet)))
(cOp (slotT 49) (oRem .u8 (slotG 9) (kV (.int .u8 128)))
(cOp (slotT 50) (oConv .u64 (slotG 49))
(cOp (slotT 52) (oAri Int.mul .i64 (kV (.int .i64 7)) (slotG 10))
(cOp (slotT 53) (oShl .u64 (slotG 50) (slotG 52))
(cOp (slotT 54) (oAdd .u64 (topOf .u64) (slotG 7) (slotG 53))
(cOp (slotT 7) (oMove (slotG 54))
(cOp (slotT 56) (oCmp iLt .u8 (slotG 9) (kV (.int .u8 128)))
(cCond (slotG 56)
(cOp (slotT 59) (oAdd .i64 (topOf .i64) (slotG 8) (kV (.int .i64 1)))
(cOp (slotT 4) (oMove (slotG 7))
(cOp (slotT 5) (oMove (slotG 59))
(cOp (slotT 6) (oMove (kV (.int .i64 0)))
cRet))))
cNorm))))))))))))))))))))))))))
(cOp (slotT 25) (oAdd .i64 (topOf .i64) (slotG 8) (kV (.int .i64 1)))
(cOp (slotT 8) (oMove (slotG 25))
cNorm)))
(cExit 0))))))
(cOp (slotT 4) (oMove (kV (.int .u64 0)))
(cOp (slotT 5) (oMove (kV (.int .i64 0)))
(cOp (slotT 6) (oMove (kV (.int .i64 11)))
cRet))))))
noncomputable def getE : C := (cOp (slotT 4) (oMove (kV (.int .u64 0))) (cOp (slotT 5) (oMove (kV (.int .i64 0))) (cOp (slotT 6) (oMove (kV (.int .i64 11))) cRet)))
theorem getR_is : getR = cOp (slotT 7) (oMove (kV (.int .u64 0))) (cOp (slotT 8) (oMove (slotG 1)) (cSeq (cBlock 0 (cLoop getB)) getE)) := rfl
noncomputable def d38h : C := (cOp (slotT 4) (oMove (kV (.int .u64 0)))
(cOp (slotT 5) (oMove (kV (.int .i64 0)))
(cOp (slotT 6) (oMove (kV (.int .i64 0)))
(cOp (slotT 12) (oCmp iLt .i64 (slotG 1) (kV (.int .i64 0)))
(cG (slotG 12) false (slotT 14) (oMove (slotG 1))
(cG (slotG 12) false (slotT 15) (oMove (slotG 0))
(cG (slotG 12) false (slotT 16) (oLenS (slotG 15))
(cG (slotG 12) false (slotT 17) (oCmp iGt .i64 (slotG 14) (slotG 16))
(cOp (slotT 18) (oPick (slotG 12) (kV (.bool true)) (slotG 17))
(cCond (slotG 18)
(cOp (slotT 4) (oMove (kV (.int .u64 0)))
(cOp (slotT 5) (oMove (kV (.int .i64 0)))
(cOp (slotT 6) (oMove (kV (.int .i64 2)))
cRet)))
getR))))))))))
theorem d38_is : d38 = d38h := rfl
theorem get_is {n : Nat} {h : Hp} {u : Value} {l : List Nat} {p : Nat} (V : h.Vals u (l.map bv)) (hb : ∀ x ∈ l, x < 256) (hp : p ≤ l.length) (hl : l.length ≤ 1000000) :
    ∃ a b c, call bodies (n + 1) 38 [u, .int .i64 (p : Int)] h = .ok (.tuple ⟨[.int .u64 a, .int .i64 b, .int .i64 c]⟩) h ∧ GuIs l p a b c := by
  have Vl : lenSR u h = .ok (.int .i64 (l.length : Int)) h := by have := V.len; rwa [List.length_map] at this
  have c0 : iLt (p : Int) 0 = false := by rw [iLt_is]; simp
  have c1 : iGt (p : Int) (l.length : Int) = false := by rw [iGt_is]; simp; omega
  have pre : ∃ e1, d38h (call bodies n) (setArgs e0 0 [u, .int .i64 (p : Int)]) h = getR (call bodies n) e1 h ∧ slotG 0 e1 = u ∧ slotG 1 e1 = .int .i64 (p : Int) := by
    unfold d38h
    simp only [setArgs_cons, setArgs_nil, Nat.succ_eq_add_one, Nat.zero_add, Nat.reduceAdd, cOp_is, cCond_is, opX_ok, condX_false, oMove_is, kV_is, slot_set, Nat.reduceLT, Nat.reduceEqDiff, if_true, if_false, reduceIte, cG_is, guardX_tt, guardX_tf, guardX_ft, guardX_ff, guardX_none, skipC_is, oPick_is, pickR_true, pickR_false, oCmp_is, cmpR_is, c0, oLenS_is, Vl, c1]
    exact ⟨_, rfl, by simp only [slot_set, Nat.reduceLT, Nat.reduceEqDiff, if_true, if_false, reduceIte], by simp only [slot_set, Nat.reduceLT, Nat.reduceEqDiff, if_true, if_false, reduceIte]⟩
  obtain ⟨e1, p1, p2, p3⟩ := pre
  have H := get_loop (F := call bodies n) (e := Env.set 8 (.int .i64 (p : Int)) (Env.set 7 (.int .u64 0) e1)) V hb hp hl (by simp only [slot_set, Nat.reduceLT, Nat.reduceEqDiff, if_true, if_false, reduceIte]; exact p2) (by simp only [slot_set, Nat.reduceLT, Nat.reduceEqDiff, if_true, if_false, reduceIte]; exact p3) (by simp only [slot_set, Nat.reduceLT, Nat.reduceEqDiff, if_true, if_false, reduceIte]) (by simp only [slot_set, Nat.reduceLT, Nat.reduceEqDiff, if_true, if_false, reduceIte])
  rcases H with ⟨e2, q1, q2⟩ | ⟨e2, a, b, c, q1, q4, q5, q6, q7⟩
  · refine ⟨0, 0, 11, ?_, .inr ⟨q2, by omega⟩⟩
    rw [call38 rfl, d38_is, p1, getR_is]
    simp only [cOp_is, opX_ok, oMove_is, kV_is, slot_set, Nat.reduceLT, Nat.reduceEqDiff, if_true, if_false, reduceIte, p3, cSeq_is, cBlock_is]
    rw [q1]
    simp only [blockX_exit, seqX_norm]
    unfold getE
    simp only [cOp_is, cDo_is, cCond_is, cSeq_is, cBlock_is, cNorm_is, cRet_is, cExit_is, opX_ok, doX_ok, condX_true, condX_false, seqX_norm, seqX_exit, seqX_ret, blockX_norm, blockX_ret, blockX_exit, oMove_is, kV_is, slot_set, Nat.reduceLT, Nat.reduceEqDiff, if_true, if_false, reduceIte, leave_ret, finish_3]
  · refine ⟨a, b, c, ?_, q7⟩
    rw [call38 rfl, d38_is, p1, getR_is]
    simp only [cOp_is, opX_ok, oMove_is, kV_is, slot_set, Nat.reduceLT, Nat.reduceEqDiff, if_true, if_false, reduceIte, p3, cSeq_is, cBlock_is]
    rw [q1]
    simp only [blockX_ret, seqX_ret]
    simp only [leave_ret, finish_3, q4, q5, q6]
end Go.Proofs.Ytkafejncffinmaa
set_option linter.unusedVariables false
set_option linter.unusedSimpArgs false
namespace Go.Proofs.Ytkafejncffinmaa
open Go
set_option maxRecDepth 100000

/-! ### rising -/
noncomputable def rB : C := (cOp (slotT 8) (oCmp iLt .i64 (slotG 7) (slotG 6))
(cCond (slotG 8)
(cSeq (cBlock 1 (cOp (slotT 10) (oIdx 1 (slotG 5) (slotG 7))
(cOp (slotT 11) (oLoad1 (slotG 10))
(cOp (slotT 3) (oMove (slotG 7))
(cOp (slotT 4) (oMove (slotG 11))
(cOp (slotT 13) (oCmp iLt .i64 (slotG 4) (kV (.int .i64 0)))
(cG (slotG 13) false (slotT 15) (oMove (slotG 4))
(cG (slotG 13) false (slotT 16) (oCmp iGt .i64 (slotG 15) (kV (.int .i64 1099511627776)))
(cOp (slotT 17) (oPick (slotG 13) (kV (.bool true)) (slotG 16))
(cG (slotG 17) false (slotT 19) (oMove (slotG 3))
(cG (slotG 17) false (slotT 20) (oCmp iGt .i64 (slotG 19) (kV (.int .i64 0)))
(cG (slotG 17) false (slotT 21) (oMove (slotG 20))
(cG (slotG 21) true (slotT 22) (oMove (slotG 4))
(cG (slotG 21) true (slotT 23) (oMove (slotG 0))
(cG (slotG 21) true (slotT 24) (oMove (slotG 3))
(cG (slotG 21) true (slotT 25) (oAri Int.sub .i64 (slotG 24) (kV (.int .i64 1)))
(cG (slotG 21) true (slotT 26) (oIdx 1 (slotG 23) (slotG 25))
(cG (slotG 21) true (slotT 27) (oLoad1 (slotG 26))
(cG (slotG 21) true (slotT 28) (oCmp iLe .i64 (slotG 22) (slotG 27))
(cG (slotG 17) false (slotT 29) (oPick (slotG 21) (slotG 28) (kV (.bool false)))
(cOp (slotT 30) (oPick (slotG 17) (kV (.bool true)) (slotG 29))
(cCond (slotG 30)
(cOp (slotT 2) (oMove (kV (.bool false)))
cRet)
cNorm))))))))))))))))))))))
(cOp (slotT 31) (oAdd .i64 (topOf .i64) (slotG 7) (kV (.int .i64 1)))
(cOp (slotT 7) (oMove (slotG 31))
cNorm)))
(cExit 0)))
noncomputable def rE : C := (cOp (slotT 2) (oMove (kV (.bool true)))
cRet)
noncomputable def rT : C := (cCond (slotG 30)
(cOp (slotT 2) (oMove (kV (.bool false)))
cRet)
cNorm)
noncomputable def rG (K : C) : C := (cOp (slotT 13) (oCmp iLt .i64 (slotG 4) (kV (.int .i64 0)))
(cG (slotG 13) false (slotT 15) (oMove (slotG 4))
(cG (slotG 13) false (slotT 16) (oCmp iGt .i64 (slotG 15) (kV (.int .i64 1099511627776)))
(cOp (slotT 17) (oPick (slotG 13) (kV (.bool true)) (slotG 16))
(cG (slotG 17) false (slotT 19) (oMove (slotG 3))
(cG (slotG 17) false (slotT 20) (oCmp iGt .i64 (slotG 19) (kV (.int .i64 0)))
(cG (slotG 17) false (slotT 21) (oMove (slotG 20))
(cG (slotG 21) true (slotT 22) (oMove (slotG 4))
(cG (slotG 21) true (slotT 23) (oMove (slotG 0))
(cG (slotG 21) true (slotT 24) (oMove (slotG 3))
(cG (slotG 21) true (slotT 25) (oAri Int.sub .i64 (slotG 24) (kV (.int .i64 1)))
(cG (slotG 21) true (slotT 26) (oIdx 1 (slotG 23) (slotG 25))
(cG (slotG 21) true (slotT 27) (oLoad1 (slotG 26))
(cG (slotG 21) true (slotT 28) (oCmp iLe .i64 (slotG 22) (slotG 27))
(cG (slotG 17) false (slotT 29) (oPick (slotG 21) (slotG 28) (kV (.bool false)))
(cOp (slotT 30) (oPick (slotG 17) (kV (.bool true)) (slotG 29))
K))))))))))))))))
theorem d30_is : d30 = cOp (slotT 2) (oMove (kV (.bool false))) (cOp (slotT 5) (oMove (slotG 0)) (cOp (slotT 6) (oLenS (slotG 5)) (cOp (slotT 7) (oMove (kV (.int .i64 0))) (cSeq (cBlock 0 (cLoop rB)) rE)))) := rfl
theorem rB_is : rB = cOp (slotT 8) (oCmp iLt .i64 (slotG 7) (slotG 6)) (cCond (slotG 8) (cSeq (cBlock 1 (cOp (slotT 10) (oIdx 1 (slotG 5) (slotG 7)) (cOp (slotT 11) (oLoad1 (slotG 10)) (cOp (slotT 3) (oMove (slotG 7)) (cOp (slotT 4) (oMove (slotG 11)) (rG rT)))))) (cOp (slotT 31) (oAdd .i64 (topOf .i64) (slotG 7) (kV (.int .i64 1))) (cOp (slotT 7) (oMove (slotG 31)) cNorm))) (cExit 0)) := rfl
theorem rG_is {K : C} {F : CallF} {h : Hp} {e : Env} {u : Value} {z q : Int} {i : Nat} {b1 b2 b3 b4 : Bool} (s0 : slotG 0 e = u) (s3 : slotG 3 e = .int .i64 (i : Int)) (s4 : slotG 4 e = .int .i64 z) (f1 : iLt z 0 = b1) (f2 : iGt z 1099511627776 = b2) (f3 : iGt (i : Int) 0 = b3)
    (g : b3 = true → ∃ j a, ariR Int.sub .i64 (.int .i64 (i : Int)) (.int .i64 1) h = .ok j h ∧ idxSR 1 u j h = .ok (.pointer (some a)) h ∧ loadR (.pointer (some a)) h = .ok (.int .i64 q) h ∧ iLe z q = b4) :
    ∃ e', rG K F e h = K F e' h ∧ slotG 30 e' = .bool ((b1 || b2) || (b3 && b4)) ∧ slotG 0 e' = slotG 0 e ∧ slotG 5 e' = slotG 5 e ∧ slotG 6 e' = slotG 6 e ∧ slotG 7 e' = slotG 7 e := by
  unfold rG
  cases b3 with
  | false =>
    cases b1 <;> cases b2 <;>
    · simp only [cOp_is, cDo_is, cCond_is, cSeq_is, cBlock_is, cNorm_is, cRet_is, cExit_is, opX_ok, doX_ok, condX_true, condX_false, seqX_norm, seqX_exit, seqX_ret, blockX_norm, blockX_ret, blockX_exit, oMove_is, kV_is, slot_set, Nat.reduceLT, Nat.reduceEqDiff, if_true, if_false, reduceIte, cG_is, guardX_tt, guardX_tf, guardX_ft, guardX_ff, guardX_none, skipC_is, oPick_is, pickR_true, pickR_false, oCmp_is, cmpR_is, s0, s3, s4, f1, f2, f3]
      exact ⟨_, rfl, by simp only [slot_set, Nat.reduceLT, Nat.reduceEqDiff, if_true, if_false, reduceIte]; rfl, by simp only [slot_set, Nat.reduceLT, Nat.reduceEqDiff, if_true, if_false, reduceIte, s0], by simp only [slot_set, Nat.reduceLT, Nat.reduceEqDiff, if_true, if_false, reduceIte], by simp only [slot_set, Nat.reduceLT, Nat.reduceEqDiff, if_true, if_false, reduceIte], by simp only [slot_set, Nat.reduceLT, Nat.reduceEqDiff, if_true, if_false, reduceIte]⟩
  | true =>
    obtain ⟨j, a, g1, g2, g3, g4⟩ := g rfl
    cases b1 <;> cases b2 <;> cases b4 <;>
    · simp only [cOp_is, cDo_is, cCond_is, cSeq_is, cBlock_is, cNorm_is, cRet_is, cExit_is, opX_ok, doX_ok, condX_true, condX_false, seqX_norm, seqX_exit, seqX_ret, blockX_norm, blockX_ret, blockX_exit, oMove_is, kV_is, slot_set, Nat.reduceLT, Nat.reduceEqDiff, if_true, if_false, reduceIte, cG_is, guardX_tt, guardX_tf, guardX_ft, guardX_ff, guardX_none, skipC_is, oPick_is, pickR_true, pickR_false, oCmp_is, cmpR_is, s0, s3, s4, f1, f2, f3, oAri_is, g1, oIdx_is, g2, oLoad1_is, g3, g4]
      exact ⟨_, rfl, by simp only [slot_set, Nat.reduceLT, Nat.reduceEqDiff, if_true, if_false, reduceIte]; rfl, by simp only [slot_set, Nat.reduceLT, Nat.reduceEqDiff, if_true, if_false, reduceIte, s0], by simp only [slot_set, Nat.reduceLT, Nat.reduceEqDiff, if_true, if_false, reduceIte], by simp only [slot_set, Nat.reduceLT, Nat.reduceEqDiff, if_true, if_false, reduceIte], by simp only [slot_set, Nat.reduceLT, Nat.reduceEqDiff, if_true, if_false, reduceIte]⟩
theorem ints_len {k : IntKind} {Z : List Int} : (ints k Z).length = Z.length := List.length_map ..
theorem ints_at {k : IntKind} {Z : List Int} {i : Nat} (hi : i < Z.length) : (ints k Z).getD i noRes = .int k (Z.getD i 0) := by
  unfold ints
  rw [List.getD_eq_getElem?_getD, List.getElem?_map, List.getD_eq_getElem?_getD, List.getElem?_eq_getElem hi]; rfl
theorem Hp.Vals.int {h : Hp} {k : IntKind} {u : Value} {Z : List Int} (V : h.Vals u (ints k Z)) {i : Nat} (hi : i < Z.length) : ∃ a, idxSR 1 u (.int .i64 (i : Int)) h = .ok (.pointer (some a)) h ∧ loadR (.pointer (some a)) h = .ok (.int k (Z.getD i 0)) h := by
  obtain ⟨a, g1, g2⟩ := V.at (i := i) (by rw [ints_len]; exact hi)
  rw [ints_at hi] at g2
  exact ⟨a, g1, g2⟩
theorem Hp.Vals.ilen {h : Hp} {k : IntKind} {u : Value} {Z : List Int} (V : h.Vals u (ints k Z)) : lenSR u h = .ok (.int .i64 (Z.length : Int)) h := by
  have := V.len; rwa [ints_len] at this
def prevZ (zs : List Int) : Nat → Int
  | 0 => -1
  | i + 1 => zs.getD i 0
theorem rising_loop {F : CallF} {h : Hp} {u : Value} {zs : List Int} (V : h.Vals u (ints .i64 zs)) (hl : zs.length ≤ 1000000) {e : Env} (hl2 : zs.length < 999999) (s0 : slotG 0 e = u) (s5 : slotG 5 e = u) (s6 : slotG 6 e = .int .i64 (zs.length : Int)) (s7 : slotG 7 e = .int .i64 0) :
    (∃ e', cLoop rB F e h = .exit 0 e' h ∧ risingL (-1) zs = true) ∨ (∃ e', cLoop rB F e h = .ret e' h ∧ slotG 2 e' = .bool false ∧ risingL (-1) zs = false) := by
  refine loop_run (I := fun i e' h' => h' = h ∧ slotG 0 e' = u ∧ slotG 5 e' = u ∧ slotG 6 e' = .int .i64 (zs.length : Int) ∧ slotG 7 e' = .int .i64 (i : Int) ∧ i ≤ zs.length ∧ risingL (-1) zs = risingL (prevZ zs i) (zs.drop i))
    (Q := fun x => (∃ e', x = .exit 0 e' h ∧ risingL (-1) zs = true) ∨ (∃ e', x = .ret e' h ∧ slotG 2 e' = .bool false ∧ risingL (-1) zs = false)) zs.length (by omega) (fun i e' h' ⟨hh, t0, t5, t6, t7, hi, hr⟩ => ?_)
    ⟨rfl, s0, s5, s6, s7, Nat.zero_le _, rfl⟩
  subst hh
  by_cases hlt : i < zs.length
  · obtain ⟨a, g1, g2⟩ := V.int hlt
    have hd : zs.drop i = zs.getD i 0 :: zs.drop (i + 1) := by
      rw [List.drop_eq_getElem_cons hlt, List.getD_eq_getElem?_getD, List.getElem?_eq_getElem hlt]; rfl
    rw [hd] at hr
    have hnext : prevZ zs (i + 1) = zs.getD i 0 := rfl
    generalize hz : zs.getD i 0 = z at g2 hr hnext
    have c1 : iLt (i : Int) (zs.length : Int) = true := by rw [iLt_is]; simp; omega
    have pre : ∃ b e2, rB F e' h' = seqX (blockX 1 (rT F e2 h')) (cOp (slotT 31) (oAdd .i64 (topOf .i64) (slotG 7) (kV (.int .i64 1))) (cOp (slotT 7) (oMove (slotG 31)) cNorm)) F ∧ slotG 30 e2 = .bool b ∧ (b = true ↔ ¬ (0 ≤ z ∧ z ≤ 1099511627776 ∧ prevZ zs i < z)) ∧ slotG 0 e2 = u ∧ slotG 5 e2 = u ∧ slotG 6 e2 = .int .i64 (zs.length : Int) ∧ slotG 7 e2 = .int .i64 (i : Int) := by
      have key : ∃ (q : Int) (b4 : Bool), (iGt (i : Int) 0 = true → ∃ j a, ariR Int.sub .i64 (.int .i64 (i : Int)) (.int .i64 1) h' = .ok j h' ∧ idxSR 1 u j h' = .ok (.pointer (some a)) h' ∧ loadR (.pointer (some a)) h' = .ok (.int .i64 q) h' ∧ iLe z q = b4) ∧
          (((iLt z 0 || iGt z 1099511627776) || (iGt (i : Int) 0 && b4)) = true ↔ ¬ (0 ≤ z ∧ z ≤ 1099511627776 ∧ prevZ zs i < z)) := by
        cases i with
        | zero =>
          refine ⟨0, false, fun h0 => ?_, ?_⟩
          · rw [iGt_is] at h0; simp at h0
          · rw [iLt_is, iGt_is, iGt_is]
            show _ ↔ ¬ (0 ≤ z ∧ z ≤ 1099511627776 ∧ (-1 : Int) < z)
            simp
            omega
        | succ j =>
          obtain ⟨a', k1, k2⟩ := V.int (i := j) (by omega)
          refine ⟨zs.getD j 0, iLe z (zs.getD j 0), fun _ => ⟨.int .i64 (j : Int), a', ?_, k1, k2, rfl⟩, ?_⟩
          · have : Int.sub ((j + 1 : Nat) : Int) 1 = (j : Int) := by show ((j + 1 : Nat) : Int) - 1 = j; omega
            rw [ariR_is, this, wrap_nat (by omega)]
          · rw [iLt_is, iGt_is, iGt_is, iLe_is]
            show _ ↔ ¬ (0 ≤ z ∧ z ≤ 1099511627776 ∧ zs.getD j 0 < z)
            simp only [Bool.or_eq_true, Bool.and_eq_true, decide_eq_true_eq]
            omega
      obtain ⟨q, b4, kg, kb⟩ := key
      obtain ⟨e2, q1, q2, q3, q4, q5, q6⟩ := rG_is (K := rT) (F := F) (h := h') (e := Env.set 4 (.int .i64 z) (Env.set 3 (.int .i64 (i : Int)) (Env.set 11 (.int .i64 z) (Env.set 10 (.pointer (some a)) (Env.set 8 (.bool true) e'))))) (u := u) (z := z) (q := q) (i := i) (b4 := b4)
        (by simp only [slot_set, Nat.reduceLT, Nat.reduceEqDiff, if_true, if_false, reduceIte]; exact t0) (by simp only [slot_set, Nat.reduceLT, Nat.reduceEqDiff, if_true, if_false, reduceIte]) (by simp only [slot_set, Nat.reduceLT, Nat.reduceEqDiff, if_true, if_false, reduceIte]) rfl rfl rfl kg
      refine ⟨_, e2, ?_, q2, kb, ?_, ?_, ?_, ?_⟩
      · rw [rB_is]
        simp only [cOp_is, cCond_is, cSeq_is, cBlock_is, opX_ok, condX_true, oMove_is, kV_is, slot_set, Nat.reduceLT, Nat.reduceEqDiff, if_true, if_false, reduceIte, t7, t6, oCmp_is, cmpR_is, c1, oIdx_is, t5, g1, oLoad1_is, g2, q1]
      · rw [q3]; simp only [slot_set, Nat.reduceLT, Nat.reduceEqDiff, if_true, if_false, reduceIte]; exact t0
      · rw [q4]; simp only [slot_set, Nat.reduceLT, Nat.reduceEqDiff, if_true, if_false, reduceIte]; exact t5
      · rw [q5]; simp only [slot_set, Nat.reduceLT, Nat.reduceEqDiff, if_true, if_false, reduceIte]; exact t6
      · rw [q6]; simp only [slot_set, Nat.reduceLT, Nat.reduceEqDiff, if_true, if_false, reduceIte]; exact t7
    obtain ⟨b, e2, p1, p30, pb, p0, p5, p6, p7⟩ := pre
    have hr : risingL (-1) zs = (decide (0 ≤ z ∧ z ≤ 1099511627776 ∧ prevZ zs i < z) && risingL z (zs.drop (i + 1))) := hr
    cases b with
    | true =>
      right
      have hno : ¬ (0 ≤ z ∧ z ≤ 1099511627776 ∧ prevZ zs i < z) := pb.1 rfl
      have hrun : ∃ e3, rT F e2 h' = .ret e3 h' ∧ slotG 2 e3 = .bool false := by
        unfold rT
        simp only [cOp_is, cDo_is, cCond_is, cSeq_is, cBlock_is, cNorm_is, cRet_is, cExit_is, opX_ok, doX_ok, condX_true, condX_false, seqX_norm, seqX_exit, seqX_ret, blockX_norm, blockX_ret, blockX_exit, oMove_is, kV_is, slot_set, Nat.reduceLT, Nat.reduceEqDiff, if_true, if_false, reduceIte, p30]
        exact ⟨_, rfl, by simp only [slot_set, Nat.reduceLT, Nat.reduceEqDiff, if_true, if_false, reduceIte]⟩
      obtain ⟨e3, r1, r2⟩ := hrun
      rw [p1, r1, blockX_ret, seqX_ret]
      refine ⟨rfl, .inr ⟨e3, rfl, r2, ?_⟩⟩
      rw [hr, decide_eq_false hno]; rfl
    | false =>
      left
      have hok : 0 ≤ z ∧ z ≤ 1099511627776 ∧ prevZ zs i < z := by
        by_cases hx : 0 ≤ z ∧ z ≤ 1099511627776 ∧ prevZ zs i < z
        · exact hx
        · have := pb.2 hx; cases this
      have a3 : addR .i64 (.int .i64 (i : Int)) (.int .i64 1) h' = .ok (.int .i64 ((i + 1 : Nat) : Int)) h' := by
        have : (i : Int) + 1 = ((i + 1 : Nat) : Int) := by omega
        rw [addR_is, this, wrap_nat (by omega)]
      have hrun : ∃ e4, rB F e' h' = .norm e4 h' ∧ slotG 0 e4 = u ∧ slotG 5 e4 = u ∧ slotG 6 e4 = .int .i64 (zs.length : Int) ∧ slotG 7 e4 = .int .i64 ((i + 1 : Nat) : Int) := by
        rw [p1]
        unfold rT
        simp only [cOp_is, cDo_is, cCond_is, cSeq_is, cBlock_is, cNorm_is, cRet_is, cExit_is, opX_ok, doX_ok, condX_true, condX_false, seqX_norm, seqX_exit, seqX_ret, blockX_norm, blockX_ret, blockX_exit, oMove_is, kV_is, slot_set, Nat.reduceLT, Nat.reduceEqDiff, if_true, if_false, reduceIte, p30, oAdd_is, p7, a3]
        exact ⟨_, rfl, by simp only [slot_set, Nat.reduceLT, Nat.reduceEqDiff, if_true, if_false, reduceIte]; exact p0, by simp only [slot_set, Nat.reduceLT, Nat.reduceEqDiff, if_true, if_false, reduceIte]; exact p5, by simp only [slot_set, Nat.reduceLT, Nat.reduceEqDiff, if_true, if_false, reduceIte]; exact p6, by simp only [slot_set, Nat.reduceLT, Nat.reduceEqDiff, if_true, if_false, reduceIte]⟩
      obtain ⟨e4, k1, k2, k3, k4, k5⟩ := hrun
      refine ⟨hlt, e4, h', k1, rfl, k2, k3, k4, k5, hlt, ?_⟩
      rw [hr, decide_eq_true hok, hnext]; rfl
  · right
    have c1 : iLt (i : Int) (zs.length : Int) = false := by rw [iLt_is]; simp; omega
    have hrun : ∃ e2, rB F e' h' = .exit 0 e2 h' := by
      rw [rB_is]
      simp only [cOp_is, cDo_is, cCond_is, cSeq_is, cBlock_is, cNorm_is, cRet_is, cExit_is, opX_ok, doX_ok, condX_true, condX_false, seqX_norm, seqX_exit, seqX_ret, blockX_norm, blockX_ret, blockX_exit, oMove_is, kV_is, slot_set, Nat.reduceLT, Nat.reduceEqDiff, if_true, if_false, reduceIte, t6, oCmp_is, cmpR_is, t7, c1]
      exact ⟨_, rfl⟩
    obtain ⟨e2, r1⟩ := hrun
    rw [r1]
    refine ⟨rfl, .inl ⟨e2, rfl, ?_⟩⟩
    rw [hr, List.drop_of_length_le (by omega)]; rfl
theorem rising_is {n : Nat} {h : Hp} {u : Value} {zs : List Int} (V : h.Vals u (ints .i64 zs)) (hl : zs.length < 900000) : call bodies (n + 1) 30 [u] h = .ok (.bool (risingL (-1) zs)) h := by
  have H := rising_loop (F := call bodies n) (e := Env.set 7 (.int .i64 0) (Env.set 6 (.int .i64 (zs.length : Int)) (Env.set 5 u (Env.set 2 (.bool false) (Env.set 0 u e0))))) V (by omega) (by omega) (by simp only [slot_set, Nat.reduceLT, Nat.reduceEqDiff, if_true, if_false, reduceIte]) (by simp only [slot_set, Nat.reduceLT, Nat.reduceEqDiff, if_true, if_false, reduceIte]) (by simp only [slot_set, Nat.reduceLT, Nat.reduceEqDiff, if_true, if_false, reduceIte]) (by simp only [slot_set, Nat.reduceLT, Nat.reduceEqDiff, if_true, if_false, reduceIte])
  rw [call30 rfl, d30_is]
  rcases H with ⟨e2, q1, q2⟩ | ⟨e2, q1, q2, q3⟩
  · simp only [setArgs_cons, setArgs_nil, Nat.succ_eq_add_one, Nat.zero_add, Nat.reduceAdd, cOp_is, opX_ok, oMove_is, kV_is, slot_set, Nat.reduceLT, Nat.reduceEqDiff, if_true, if_false, reduceIte, oLenS_is, V.ilen, cSeq_is, cBlock_is]
    rw [q1]
    simp only [blockX_exit, seqX_norm]
    unfold rE
    simp only [cOp_is, cDo_is, cCond_is, cSeq_is, cBlock_is, cNorm_is, cRet_is, cExit_is, opX_ok, doX_ok, condX_true, condX_false, seqX_norm, seqX_exit, seqX_ret, blockX_norm, blockX_ret, blockX_exit, oMove_is, kV_is, slot_set, Nat.reduceLT, Nat.reduceEqDiff, if_true, if_false, reduceIte, leave_ret, finish_1, q2]
  · simp only [setArgs_cons, setArgs_nil, Nat.succ_eq_add_one, Nat.zero_add, Nat.reduceAdd, cOp_is, opX_ok, oMove_is, kV_is, slot_set, Nat.reduceLT, Nat.reduceEqDiff, if_true, if_false, reduceIte, oLenS_is, V.ilen, cSeq_is, cBlock_is]
    rw [q1]
    simp only [blockX_ret, seqX_ret, leave_ret, finish_1, q2, q3]

/-! ### Right -/
theorem node_is {n : Nat} {h : Hp} (f : Int) : call bodies (n + 1) 31 [.int .i64 f] h = .ok (.bool (decide (0 ≤ f ∧ f < 256))) h := by
  rw [call31 rfl]
  unfold d31
  by_cases h1 : 0 ≤ f
  · have c1 : iGe f 0 = true := by rw [iGe_is]; simp; omega
    by_cases h2 : f < 256
    · have c2 : iLt f 256 = true := by rw [iLt_is]; simp; omega
      rw [decide_eq_true ⟨h1, h2⟩]
      simp only [setArgs_cons, setArgs_nil, Nat.succ_eq_add_one, Nat.zero_add, Nat.reduceAdd, cOp_is, cDo_is, cCond_is, cSeq_is, cBlock_is, cNorm_is, cRet_is, cExit_is, opX_ok, doX_ok, condX_true, condX_false, seqX_norm, seqX_exit, seqX_ret, blockX_norm, blockX_ret, blockX_exit, oMove_is, kV_is, slot_set, Nat.reduceLT, Nat.reduceEqDiff, if_true, if_false, reduceIte, cG_is, guardX_tt, guardX_tf, guardX_ft, guardX_ff, guardX_none, skipC_is, oPick_is, pickR_true, pickR_false, oCmp_is, cmpR_is, c1, c2, leave_ret, finish_1]
    · have c2 : iLt f 256 = false := by rw [iLt_is]; simp; omega
      rw [decide_eq_false (fun x => h2 x.2)]
      simp only [setArgs_cons, setArgs_nil, Nat.succ_eq_add_one, Nat.zero_add, Nat.reduceAdd, cOp_is, cDo_is, cCond_is, cSeq_is, cBlock_is, cNorm_is, cRet_is, cExit_is, opX_ok, doX_ok, condX_true, condX_false, seqX_norm, seqX_exit, seqX_ret, blockX_norm, blockX_ret, blockX_exit, oMove_is, kV_is, slot_set, Nat.reduceLT, Nat.reduceEqDiff, if_true, if_false, reduceIte, cG_is, guardX_tt, guardX_tf, guardX_ft, guardX_ff, guardX_none, skipC_is, oPick_is, pickR_true, pickR_false, oCmp_is, cmpR_is, c1, c2, leave_ret, finish_1]
  · have c1 : iGe f 0 = false := by rw [iGe_is]; simp; omega
    rw [decide_eq_false (fun x => h1 x.1)]
    simp only [setArgs_cons, setArgs_nil, Nat.succ_eq_add_one, Nat.zero_add, Nat.reduceAdd, cOp_is, cDo_is, cCond_is, cSeq_is, cBlock_is, cNorm_is, cRet_is, cExit_is, opX_ok, doX_ok, condX_true, condX_false, seqX_norm, seqX_exit, seqX_ret, blockX_norm, blockX_ret, blockX_exit, oMove_is, kV_is, slot_set, Nat.reduceLT, Nat.reduceEqDiff, if_true, if_false, reduceIte, cG_is, guardX_tt, guardX_tf, guardX_ft, guardX_ff, guardX_none, skipC_is, oPick_is, pickR_true, pickR_false, oCmp_is, cmpR_is, c1, leave_ret, finish_1]
/-- a move -/
def mvV (f t : Int) (u : Value) : Value := .agg ⟨[.int .i64 f, .int .i64 t, u]⟩
theorem right_is {n : Nat} {h : Hp} (W : h.Wf) {f t : Int} {u : Value} {zs : List Int} (V : h.Vals u (ints .i64 zs)) (hl : zs.length < 900000) : call bodies (n + 2) 9 [mvV f t u] h = .ok (.bool (rightB f t zs)) (h.pushRow 0 [.int .i64 f, .int .i64 t, u]) := by
  have R := Hp.Row.new W 0 [.int .i64 f, .int .i64 t, u]
  have x1 := (Hp.Ext.refl W).pushRow 0 [.int .i64 f, .int .i64 t, u]
  have V1 := V.ext W x1
  have hbx : ∀ e : Env, slotG 0 e = mvV f t u → oBox (slotG 0) (call bodies (n + 1)) e h = .ok (.pointer (some ⟨h.next, 0, none⟩)) (h.pushRow 0 [.int .i64 f, .int .i64 t, u]) := fun e he => by rw [oBox_is, he, boxR_is W]; rfl
  generalize h.pushRow 0 [.int .i64 f, .int .i64 t, u] = h1 at R x1 V1 hbx
  have l0 : load1 ⟨h.next, 0, none⟩ h1 = .ok (.int .i64 f) h1 := R.load1 (off := 0) (by simp)
  have l1 : load1 ⟨h.next, 1, none⟩ h1 = .ok (.int .i64 t) h1 := R.load1 (off := 1) (by simp)
  have l2 : load1 ⟨h.next, 2, none⟩ h1 = .ok u h1 := R.load1 (off := 2) (by simp)
  have k1 := node_is (n := n) (h := h1) f
  have k2 := node_is (n := n) (h := h1) t
  have k3 := rising_is (n := n) V1 hl
  rw [call9 rfl]
  unfold d9
  have c3 : iNe f t = decide (f ≠ t) := by rw [iNe_is, Bool.eq_iff_iff, Bool.not_eq_true', beq_eq_false_iff_ne, decide_eq_true_eq]
  have c4 : iLe (zs.length : Int) 10000 = decide (zs.length ≤ 10000) := by rw [iLe_is]; congr 1; simp; omega
  have hb : rightB f t zs = (decide (0 ≤ f ∧ f < 256) && (decide (0 ≤ t ∧ t < 256) && (decide (f ≠ t) && (decide (zs.length ≤ 10000) && risingL (-1) zs)))) := by
    unfold rightB
    rw [Bool.eq_iff_iff]
    simp only [Bool.and_eq_true, decide_eq_true_eq]
    constructor
    · rintro ⟨⟨a, b, c, d, e, g⟩, k⟩; exact ⟨⟨a, b⟩, ⟨c, d⟩, e, g, k⟩
    · rintro ⟨⟨a, b⟩, ⟨c, d⟩, e, g, k⟩; exact ⟨⟨a, b, c, d, e, g⟩, k⟩
  rw [hb]
  generalize decide (0 ≤ f ∧ f < 256) = b1 at k1 ⊢
  generalize decide (0 ≤ t ∧ t < 256) = b2 at k2 ⊢
  generalize decide (f ≠ t) = b3 at c3 ⊢
  generalize decide (zs.length ≤ 10000) = b4 at c4 ⊢
  generalize risingL (-1) zs = b5 at k3 ⊢
  cases b1 <;> cases b2 <;> cases b3 <;> cases b4 <;>
  · simp only [setArgs_cons, setArgs_nil, Nat.succ_eq_add_one, Nat.zero_add, Nat.reduceAdd, cOp_is, cDo_is, cCond_is, cSeq_is, cBlock_is, cNorm_is, cRet_is, cExit_is, opX_ok, doX_ok, condX_true, condX_false, seqX_norm, seqX_exit, seqX_ret, blockX_norm, blockX_ret, blockX_exit, oMove_is, kV_is, slot_set, Nat.reduceLT, Nat.reduceEqDiff, if_true, if_false, reduceIte, cG_is, guardX_tt, guardX_tf, guardX_ft, guardX_ff, guardX_none, skipC_is, oPick_is, pickR_true, pickR_false, hbx, oFieldAddr_is', fieldAR_is, oLoad1_is, loadR_is, l0, l1, l2, oApply_is, applyR_is, List.nil_append, List.append_nil, oCall_is, vals_cons, vals_nil, k1, k2, oCmp_is, cmpR_is, c3, oLenS_is, V1.ilen, c4, k3, leave_ret, finish_1]
    rfl
theorem right_ext {h : Hp} (W : h.Wf) {f t : Int} {u : Value} : h.Ext (h.pushRow 0 [.int .i64 f, .int .i64 t, u]) := (Hp.Ext.refl W).pushRow _ _

/-! ### what is the same -/
theorem iEq_self (n : Int) : iEq n n = true := by rw [iEq_is]; simp
noncomputable def siB : C := (cOp (slotT 13) (oLenS (slotG 0))
(cOp (slotT 14) (oCmp iLt .i64 (slotG 5) (slotG 13))
(cCond (slotG 14)
(cSeq (cBlock 1 (cMark (cOp (slotT 19) (oIdx 1 (slotG 0) (slotG 5))
(cOp (slotT 20) (oLoad1 (slotG 19))
(cOp (slotT 23) (oIdx 1 (slotG 1) (slotG 5))
(cOp (slotT 24) (oLoad1 (slotG 23))
(cOp (slotT 25) (oCmp iNe .i64 (slotG 20) (slotG 24))
(cCond (slotG 25)
(cOp (slotT 4) (oMove (kV (.bool false)))
cRet)
cNorm))))))))
(cOp (slotT 16) (oAdd .i64 (topOf .i64) (slotG 5) (kV (.int .i64 1)))
(cOp (slotT 5) (oMove (slotG 16))
cNorm)))
(cExit 0))))
noncomputable def siE : C := (cOp (slotT 4) (oMove (kV (.bool true)))
cRet)
theorem marked2 {h : Hp} : h.marked.marked = h.marked := rfl
/-- of lists that are the same -/
theorem si_loop {F : CallF} {h : Hp} {u v : Value} {zs : List Int} (V : h.Vals u (ints .i64 zs)) (U : h.Vals v (ints .i64 zs)) (hl : zs.length < 900000) {e : Env} (s0 : slotG 0 e = u) (s1 : slotG 1 e = v) (s5 : slotG 5 e = .int .i64 0) :
    ∃ e' h', cLoop siB F e h = .exit 0 e' h' ∧ (h' = h ∨ h' = h.marked) := by
  refine loop_run (I := fun i e' h' => (h' = h ∨ h' = h.marked) ∧ slotG 0 e' = u ∧ slotG 1 e' = v ∧ slotG 5 e' = .int .i64 (i : Int) ∧ i ≤ zs.length)
    (Q := fun x => ∃ e' h', x = .exit 0 e' h' ∧ (h' = h ∨ h' = h.marked)) zs.length (by omega) (fun i e' h' ⟨hh, t0, t1, t5, hi⟩ => ?_) ⟨.inl rfl, s0, s1, s5, Nat.zero_le _⟩
  have hm : h'.marked = h.marked := by rcases hh with rfl | rfl <;> rfl
  have hbl : h'.bl = h.bl := by rcases hh with rfl | rfl <;> rfl
  have V1 := V.same hbl
  by_cases hlt : i < zs.length
  · left
    have V2 : h.marked.Vals u (ints .i64 zs) := V.same rfl
    have U2 : h.marked.Vals v (ints .i64 zs) := U.same rfl
    obtain ⟨a, g1, g2⟩ := V2.int hlt
    obtain ⟨b, g3, g4⟩ := U2.int hlt
    have c1 : iLt (i : Int) (zs.length : Int) = true := by rw [iLt_is]; simp; omega
    have c2 : iNe (zs.getD i 0) (zs.getD i 0) = false := by rw [iNe_is]; simp
    have a3 : addR .i64 (.int .i64 (i : Int)) (.int .i64 1) h.marked = .ok (.int .i64 ((i + 1 : Nat) : Int)) h.marked := by
      have : (i : Int) + 1 = ((i + 1 : Nat) : Int) := by omega
      rw [addR_is, this, wrap_nat (by omega)]
    have hrun : ∃ e2, siB F e' h' = .norm e2 h.marked ∧ slotG 0 e2 = u ∧ slotG 1 e2 = v ∧ slotG 5 e2 = .int .i64 ((i + 1 : Nat) : Int) := by
      unfold siB
      simp only [cOp_is, cDo_is, cCond_is, cSeq_is, cBlock_is, cNorm_is, cRet_is, cExit_is, opX_ok, doX_ok, condX_true, condX_false, seqX_norm, seqX_exit, seqX_ret, blockX_norm, blockX_ret, blockX_exit, oMove_is, kV_is, slot_set, Nat.reduceLT, Nat.reduceEqDiff, if_true, if_false, reduceIte, oLenS_is, t0, V1.ilen, oCmp_is, cmpR_is, t5, c1, marked_is, hm, oIdx_is, g1, oLoad1_is, g2, t1, g3, g4, c2, oAdd_is, a3]
      exact ⟨_, rfl, by simp only [slot_set, Nat.reduceLT, Nat.reduceEqDiff, if_true, if_false, reduceIte]; exact t0, by simp only [slot_set, Nat.reduceLT, Nat.reduceEqDiff, if_true, if_false, reduceIte]; exact t1, by simp only [slot_set, Nat.reduceLT, Nat.reduceEqDiff, if_true, if_false, reduceIte]⟩
    obtain ⟨e2, r1, r2, r3, r4⟩ := hrun
    exact ⟨hlt, e2, h.marked, r1, .inr rfl, r2, r3, r4, hlt⟩
  · right
    have c1 : iLt (i : Int) (zs.length : Int) = false := by rw [iLt_is]; simp; omega
    have hrun : ∃ e2, siB F e' h' = .exit 0 e2 h' := by
      unfold siB
      simp only [cOp_is, cDo_is, cCond_is, cSeq_is, cBlock_is, cNorm_is, cRet_is, cExit_is, opX_ok, doX_ok, condX_true, condX_false, seqX_norm, seqX_exit, seqX_ret, blockX_norm, blockX_ret, blockX_exit, oMove_is, kV_is, slot_set, Nat.reduceLT, Nat.reduceEqDiff, if_true, if_false, reduceIte, oLenS_is, t0, V1.ilen, oCmp_is, cmpR_is, t5, c1]
      exact ⟨_, rfl⟩
    obtain ⟨e2, r1⟩ := hrun
    rw [r1]
    exact ⟨rfl, e2, h', rfl, hh⟩
noncomputable def siS : C := (cSeq (cBlock 0 (cLoop (cOp (slotT 13) (oLenS (slotG 0))
(cOp (slotT 14) (oCmp iLt .i64 (slotG 5) (slotG 13))
(cCond (slotG 14)
(cSeq (cBlock 1 (cMark (cOp (slotT 19) (oIdx 1 (slotG 0) (slotG 5))
(cOp (slotT 20) (oLoad1 (slotG 19))
(cOp (slotT 23) (oIdx 1 (slotG 1) (slotG 5))
(cOp (slotT 24) (oLoad1 (slotG 23))
(cOp (slotT 25) (oCmp iNe .i64 (slotG 20) (slotG 24))
(cCond (slotG 25)
(cOp (slotT 4) (oMove (kV (.bool false)))
cRet)
cNorm))))))))
(cOp (slotT 16) (oAdd .i64 (topOf .i64) (slotG 5) (kV (.int .i64 1)))
(cOp (slotT 5) (oMove (slotG 16))
cNorm)))
(cExit 0))))))
(cOp (slotT 4) (oMove (kV (.bool true)))
cRet))
theorem siS_is : siS = cSeq (cBlock 0 (cLoop siB)) siE := rfl
noncomputable def d17h : C := (cOp (slotT 4) (oMove (kV (.bool false)))
(cOp (slotT 7) (oLenS (slotG 0))
(cOp (slotT 9) (oLenS (slotG 1))
(cOp (slotT 10) (oCmp iNe .i64 (slotG 7) (slotG 9))
(cCond (slotG 10)
(cOp (slotT 4) (oMove (kV (.bool false)))
cRet)
(cOp (slotT 5) (oMove (kV (.int .i64 0)))
siS))))))
theorem d17_is : d17 = d17h := rfl
theorem si_is {n : Nat} {h : Hp} {u v : Value} {zs : List Int} (V : h.Vals u (ints .i64 zs)) (U : h.Vals v (ints .i64 zs)) (hl : zs.length < 900000) : ∃ h', call bodies (n + 1) 17 [u, v] h = .ok (.bool true) h' ∧ (h' = h ∨ h' = h.marked) := by
  have c1 : iNe (zs.length : Int) (zs.length : Int) = false := by rw [iNe_is]; simp
  have pre : ∃ e1, d17h (call bodies n) (setArgs e0 0 [u, v]) h = siS (call bodies n) e1 h ∧ slotG 0 e1 = u ∧ slotG 1 e1 = v ∧ slotG 5 e1 = .int .i64 0 := by
    unfold d17h
    simp only [setArgs_cons, setArgs_nil, Nat.succ_eq_add_one, Nat.zero_add, Nat.reduceAdd, cOp_is, cCond_is, opX_ok, condX_false, oMove_is, kV_is, slot_set, Nat.reduceLT, Nat.reduceEqDiff, if_true, if_false, reduceIte, oLenS_is, V.ilen, U.ilen, oCmp_is, cmpR_is, c1]
    exact ⟨_, rfl, by simp only [slot_set, Nat.reduceLT, Nat.reduceEqDiff, if_true, if_false, reduceIte], by simp only [slot_set, Nat.reduceLT, Nat.reduceEqDiff, if_true, if_false, reduceIte], by simp only [slot_set, Nat.reduceLT, Nat.reduceEqDiff, if_true, if_false, reduceIte]⟩
  obtain ⟨e1, p1, p2, p3, p4⟩ := pre
  obtain ⟨e2, h', q1, q2⟩ := si_loop (F := call bodies n) V U hl p2 p3 p4
  refine ⟨h', ?_, q2⟩
  rw [call17 rfl, d17_is, p1, siS_is]
  simp only [cSeq_is, cBlock_is, q1, blockX_exit, seqX_norm]
  unfold siE
  simp only [cOp_is, cDo_is, cCond_is, cSeq_is, cBlock_is, cNorm_is, cRet_is, cExit_is, opX_ok, doX_ok, condX_true, condX_false, seqX_norm, seqX_exit, seqX_ret, blockX_norm, blockX_ret, blockX_exit, oMove_is, kV_is, slot_set, Nat.reduceLT, Nat.reduceEqDiff, if_true, if_false, reduceIte, leave_ret, finish_1]
theorem sm_is {n : Nat} {h : Hp} (W : h.Wf) {f t : Int} {u v : Value} {zs : List Int} (V : h.Vals u (ints .i64 zs)) (U : h.Vals v (ints .i64 zs)) (hl : zs.length < 900000) : ∃ h', call bodies (n + 2) 22 [mvV f t u, mvV f t v] h = .ok (.bool true) h' ∧ h.Ext h' := by
  have R := Hp.Row.new W 0 [.int .i64 f, .int .i64 t, u]
  have x1 := (Hp.Ext.refl W).pushRow 0 [.int .i64 f, .int .i64 t, u]
  have hn1 : (h.pushRow 0 [.int .i64 f, .int .i64 t, u]).next = h.next + 1 := rfl
  have hbx : ∀ e : Env, slotG 0 e = mvV f t u → oBox (slotG 0) (call bodies (n + 1)) e h = .ok (.pointer (some ⟨h.next, 0, none⟩)) (h.pushRow 0 [.int .i64 f, .int .i64 t, u]) := fun e he => by rw [oBox_is, he, boxR_is W]; rfl
  generalize h.pushRow 0 [.int .i64 f, .int .i64 t, u] = h1 at R x1 hbx hn1
  have W1 := x1.wf
  have S := Hp.Row.new W1 0 [.int .i64 f, .int .i64 t, v]
  have y2 := (Hp.Ext.refl W1).pushRow 0 [.int .i64 f, .int .i64 t, v]
  have x2 := x1.trans y2
  have R2 := R.ext W1 y2
  have hby : ∀ e : Env, slotG 1 e = mvV f t v → oBox (slotG 1) (call bodies (n + 1)) e h1 = .ok (.pointer (some ⟨h1.next, 0, none⟩)) (h1.pushRow 0 [.int .i64 f, .int .i64 t, v]) := fun e he => by rw [oBox_is, he, boxR_is W1]; rfl
  generalize h1.pushRow 0 [.int .i64 f, .int .i64 t, v] = h2 at S y2 x2 R2 hby
  have l0 : load1 ⟨h.next, 0, none⟩ h2 = .ok (.int .i64 f) h2 := R2.load1 (off := 0) (by simp)
  have l1 : load1 ⟨h.next, 1, none⟩ h2 = .ok (.int .i64 t) h2 := R2.load1 (off := 1) (by simp)
  have l2 : load1 ⟨h.next, 2, none⟩ h2 = .ok u h2 := R2.load1 (off := 2) (by simp)
  have m0 : load1 ⟨h1.next, 0, none⟩ h2 = .ok (.int .i64 f) h2 := S.load1 (off := 0) (by simp)
  have m1 : load1 ⟨h1.next, 1, none⟩ h2 = .ok (.int .i64 t) h2 := S.load1 (off := 1) (by simp)
  have m2 : load1 ⟨h1.next, 2, none⟩ h2 = .ok v h2 := S.load1 (off := 2) (by simp)
  obtain ⟨h3, k1, k2⟩ := si_is (n := n) (V.ext W x2) (U.ext W x2) hl
  refine ⟨h3, ?_, ?_⟩
  · rw [call22 rfl]
    unfold d22
    simp only [setArgs_cons, setArgs_nil, Nat.succ_eq_add_one, Nat.zero_add, Nat.reduceAdd, cOp_is, cDo_is, cCond_is, cSeq_is, cBlock_is, cNorm_is, cRet_is, cExit_is, opX_ok, doX_ok, condX_true, condX_false, seqX_norm, seqX_exit, seqX_ret, blockX_norm, blockX_ret, blockX_exit, oMove_is, kV_is, slot_set, Nat.reduceLT, Nat.reduceEqDiff, if_true, if_false, reduceIte, cG_is, guardX_tt, guardX_tf, guardX_ft, guardX_ff, guardX_none, skipC_is, oPick_is, pickR_true, pickR_false, hbx, hby, oFieldAddr_is', fieldAR_is, oLoad1_is, loadR_is, l0, l1, l2, m0, m1, m2, oCmp_is, cmpR_is, iEq_self, oCall_is, vals_cons, vals_nil, k1, leave_ret, finish_1]
  · rcases k2 with rfl | rfl
    · exact x2
    · exact x2.marked
theorem bEq_self : ∀ l : List UInt8, bEq l l = true
  | [] => rfl
  | a :: l => by
    show (bif Nat.beq a.toNat a.toNat then bEq l l else false) = true
    rw [Nat.beq_refl, bEq_self l]; rfl
theorem sb_is {n : Nat} {h : Hp} {u v : Value} {l : List Nat} (V : h.Vals u (l.map bv)) (U : h.Vals v (l.map bv)) : call bodies (n + 1) 26 [u, v] h = .ok (.bool true) h := by
  rw [call26 rfl]
  unfold d26
  simp only [setArgs_cons, setArgs_nil, Nat.succ_eq_add_one, Nat.zero_add, Nat.reduceAdd, cOp_is, cDo_is, cCond_is, cSeq_is, cBlock_is, cNorm_is, cRet_is, cExit_is, opX_ok, doX_ok, condX_true, condX_false, seqX_norm, seqX_exit, seqX_ret, blockX_norm, blockX_ret, blockX_exit, oMove_is, kV_is, slot_set, Nat.reduceLT, Nat.reduceEqDiff, if_true, if_false, reduceIte, oToStr_is, V.bytes.str, U.bytes.str, oStr_is, eqSR_is, bEq_self, leave_ret, finish_1]
theorem cb_is {n : Nat} {h0 h : Hp} {k : Nat} (x0 : h0.Ext h) (hk : h0.next ≤ k) (hk2 : k ≤ h.next) {u : Value} {l : List Nat} (V : h.Vals u (l.map bv)) (hl : 0 < l.length) (hl2 : l.length ≤ 1000000) : ∃ h' v, call bodies (n + 1) 28 [u] h = .ok v h' ∧ h0.Ext h' ∧ h'.Own k 5 v (l.map bv) ∧ h'.next = h.next + 1 ∧ ∀ b el L, h.Row b el L → h'.Row b el L := by
  have ha : allOne (l.map bv) = true := allOne_bv l
  obtain ⟨h', v, a, b, c, d, f⟩ := own_append (eb := 1) (en := 5) x0 hk hk2 (.inl ⟨rfl, rfl⟩) V (by rw [List.length_map]; exact hl) ha (by rw [List.length_map]; simp; omega)
  refine ⟨h', v, ?_, b, c, d, fun b el L r => (f b el L blkV_nil r).1⟩
  rw [call28 rfl]
  unfold d28
  simp only [setArgs_cons, setArgs_nil, Nat.succ_eq_add_one, Nat.zero_add, Nat.reduceAdd, cOp_is, cDo_is, cCond_is, cSeq_is, cBlock_is, cNorm_is, cRet_is, cExit_is, opX_ok, doX_ok, condX_true, condX_false, seqX_norm, seqX_exit, seqX_ret, blockX_norm, blockX_ret, blockX_exit, oMove_is, kV_is, slot_set, Nat.reduceLT, Nat.reduceEqDiff, if_true, if_false, reduceIte, oAppend_is, a, leave_ret, finish_1]
end Go.Proofs.Ytkafejncffinmaa
set_option linter.unusedVariables false
set_option linter.unusedSimpArgs false
namespace Go.Proofs.Ytkafejncffinmaa
open Go
set_option maxRecDepth 100000
noncomputable def bB : C := (cOp (slotT 28) (oCmp iLt .i64 (slotG 27) (slotG 26))
(cCond (slotG 28)
(cSeq (cBlock 1 (cOp (slotT 29) (oIdx 1 (slotG 25) (slotG 27))
(cOp (slotT 30) (oLoad1 (slotG 29))
(cOp (slotT 7) (oMove (slotG 30))
(cOp (slotT 34) (oAri Int.sub .i64 (slotG 7) (slotG 5))
(cOp (slotT 35) (oConv .u64 (slotG 34))
(cOp (slotT 36) (oCall 36 [(slotG 4), (slotG 35)])
(cOp (slotT 4) (oMove (slotG 36))
(cOp (slotT 5) (oMove (slotG 7))
cNorm)))))))))
(cOp (slotT 38) (oAdd .i64 (topOf .i64) (slotG 27) (kV (.int .i64 1)))
(cOp (slotT 27) (oMove (slotG 38))
cNorm)))
(cExit 0)))
noncomputable def bE : C := (cOp (slotT 2) (oMove (slotG 4))
(cOp (slotT 3) (oMove (kV (.int .i64 0)))
cRet))
noncomputable def bM : C := (cMark (cOp (slotT 11) (oFieldAddr 0 (slotG 1))
(cOp (slotT 12) (oLoad1 (slotG 11))
(cOp (slotT 13) (oConv .u64 (slotG 12))
(cOp (slotT 14) (oQuiet .weak (oCall 36 [(kV (.slice none 0 0)), (slotG 13)]))
(cOp (slotT 15) (oFieldAddr 1 (slotG 1))
(cOld (slotG 15) (cChk (slotG 15) []
(cOp (slotT 16) (oLoad1 (slotG 15))
(cOp (slotT 17) (oConv .u64 (slotG 16))
(cOp (slotT 18) (oQuiet .weak (oCall 36 [(slotG 14), (slotG 17)]))
(cOp (slotT 19) (oFieldAddr 2 (slotG 1))
(cOld (slotG 19) (cChk (slotG 19) []
(cOp (slotT 20) (oLoad1 (slotG 19))
(cOp (slotT 21) (oLenS (slotG 20))
(cOp (slotT 22) (oConv .u64 (slotG 21))
(cOp (slotT 23) (oQuiet .free (oCall 36 [(slotG 18), (slotG 22)]))
(cOp (slotT 4) (oMove (slotG 23))
(cOp (slotT 5) (oMove (kV (.int .i64 0)))
(cOp (slotT 24) (oFieldAddr 2 (slotG 1))
(cOp (slotT 25) (oLoad1 (slotG 24))
(cOp (slotT 26) (oLenS (slotG 25))
(cOp (slotT 27) (oMove (kV (.int .i64 0)))
(cSeq (cBlock 0 (cLoop (cOp (slotT 28) (oCmp iLt .i64 (slotG 27) (slotG 26))
(cCond (slotG 28)
(cSeq (cBlock 1 (cOp (slotT 29) (oIdx 1 (slotG 25) (slotG 27))
(cOp (slotT 30) (oLoad1 (slotG 29))
(cOp (slotT 7) (oMove (slotG 30))
(cOp (slotT 34) (oAri Int.sub .i64 (slotG 7) (slotG 5))
(cOp (slotT 35) (oConv .u64 (slotG 34))
(cOp (slotT 36) (oCall 36 [(slotG 4), (slotG 35)])
(cOp (slotT 4) (oMove (slotG 36))
(cOp (slotT 5) (oMove (slotG 7))
cNorm)))))))))
(cOp (slotT 38) (oAdd .i64 (topOf .i64) (slotG 27) (kV (.int .i64 1)))
(cOp (slotT 27) (oMove (slotG 38))
cNorm)))
(cExit 0)))))
(cOp (slotT 2) (oMove (slotG 4))
(cOp (slotT 3) (oMove (kV (.int .i64 0)))
cRet)))))))))))))))))))))))))))
theorem Hp.Ext.requiet {h0 m g : Hp} (x : h0.Ext g) : h0.Ext (m.back g).quiet := ⟨x.next, x.get, by show _ ≤ g.next; have := x.next; omega, ⟨x.wf.big, x.wf.has, x.wf.fresh⟩⟩
theorem getD_drop {zs : List Int} {i : Nat} (hlt : i < zs.length) : zs.drop i = zs.getD i 0 :: zs.drop (i + 1) := by
  rw [List.drop_eq_getElem_cons hlt, List.getD_eq_getElem?_getD, List.getElem?_eq_getElem hlt]; rfl
theorem bytes_loop {n : Nat} {h m : Hp} (W : h.Wf) {u : Value} {zs : List Int} (V : h.Vals u (ints .i64 zs)) (hl : zs.length ≤ 10000) (hr : risingL (-1) zs = true) {k : Nat} (hk : h.next ≤ k) (hk2 : k ≤ m.next) (x : h.Ext m) {w : Value} {xs : List Nat} (o : m.Own k 5 w (xs.map bv)) (hx : xs.length ≤ 30)
    {e : Env} (s4 : slotG 4 e = w) (s5 : slotG 5 e = .int .i64 0) (s25 : slotG 25 e = u) (s26 : slotG 26 e = .int .i64 (zs.length : Int)) (s27 : slotG 27 e = .int .i64 0) :
    ∃ e' h' w', cLoop bB (call bodies (n + 1)) e m = .exit 0 e' h' ∧ slotG 4 e' = w' ∧ h.Ext h' ∧ k ≤ h'.next ∧ h'.Own k 5 w' ((xs ++ deltas 0 zs).map bv) := by
  refine loop_run (I := fun i e' h' => ∃ w' ys last p, h.Ext h' ∧ k ≤ h'.next ∧ h'.Own k 5 w' (ys.map bv) ∧ ys.length ≤ 30 + 10 * i ∧ i ≤ zs.length ∧ ys ++ deltas last (zs.drop i) = xs ++ deltas 0 zs ∧ risingL p (zs.drop i) = true ∧ (p = last ∨ p = -1 ∧ last = 0) ∧ 0 ≤ last ∧ slotG 4 e' = w' ∧ slotG 5 e' = .int .i64 last ∧ slotG 25 e' = u ∧ slotG 26 e' = .int .i64 (zs.length : Int) ∧ slotG 27 e' = .int .i64 (i : Int))
    (Q := fun y => ∃ e' h' w', y = .exit 0 e' h' ∧ slotG 4 e' = w' ∧ h.Ext h' ∧ k ≤ h'.next ∧ h'.Own k 5 w' ((xs ++ deltas 0 zs).map bv)) zs.length (by omega) (fun i e' h' ⟨w', ys, last, p, x', hn, o', hy, hi, hd, hr', hp, h0, t4, t5, t25, t26, t27⟩ => ?_)
    ⟨w, xs, 0, -1, x, hk2, o, by omega, Nat.zero_le _, rfl, hr, .inr ⟨rfl, rfl⟩, by omega, s4, s5, s25, s26, s27⟩
  by_cases hlt : i < zs.length
  · left
    obtain ⟨a, g1, g2⟩ := (V.ext W x').int hlt
    rw [getD_drop hlt] at hd hr'
    generalize zs.getD i 0 = z at g2 hd hr'
    have hr2 : (decide (0 ≤ z ∧ z ≤ 1099511627776 ∧ p < z) && risingL z (zs.drop (i + 1))) = true := hr'
    rw [Bool.and_eq_true, decide_eq_true_eq] at hr2
    obtain ⟨⟨z0, z1, z2⟩, hr3⟩ := hr2
    obtain ⟨d, hdn⟩ := Int.eq_ofNat_of_zero_le (a := z - last) (by omega)
    have c1 : iLt (i : Int) (zs.length : Int) = true := by rw [iLt_is]; simp; omega
    have a2 : ariR Int.sub .i64 (.int .i64 z) (.int .i64 last) h' = .ok (.int .i64 (d : Int)) h' := by
      have : Int.sub z last = (d : Int) := hdn
      rw [ariR_is, this, wrap_nat (by omega)]
    have a3 : convR .u64 (.int .i64 (d : Int)) h' = .ok (.int .u64 (d : Int)) h' := by rw [convR_is, wrap_u64 (by omega)]
    obtain ⟨h2, w2, b1, b2, b3, b4, _⟩ := uint_is (n := n) x' hk hn o' (by omega) (N := d) (by omega)
    have a4 : addR .i64 (.int .i64 (i : Int)) (.int .i64 1) h2 = .ok (.int .i64 ((i + 1 : Nat) : Int)) h2 := by
      have : (i : Int) + 1 = ((i + 1 : Nat) : Int) := by omega
      rw [addR_is, this, wrap_nat (by omega)]
    have hrun : ∃ e2, bB (call bodies (n + 1)) e' h' = .norm e2 h2 ∧ slotG 4 e2 = w2 ∧ slotG 5 e2 = .int .i64 z ∧ slotG 25 e2 = u ∧ slotG 26 e2 = .int .i64 (zs.length : Int) ∧ slotG 27 e2 = .int .i64 ((i + 1 : Nat) : Int) := by
      unfold bB
      simp only [cOp_is, cDo_is, cCond_is, cSeq_is, cBlock_is, cNorm_is, cRet_is, cExit_is, opX_ok, doX_ok, condX_true, condX_false, seqX_norm, seqX_exit, seqX_ret, blockX_norm, blockX_ret, blockX_exit, oMove_is, kV_is, slot_set, Nat.reduceLT, Nat.reduceEqDiff, if_true, if_false, reduceIte, oCmp_is, cmpR_is, t27, t26, c1, oIdx_is, t25, g1, oLoad1_is, g2, oAri_is, t5, a2, oConv_is, a3, oCall_is, vals_cons, vals_nil, t4, b1, oAdd_is, a4]
      exact ⟨_, rfl, by simp only [slot_set, Nat.reduceLT, Nat.reduceEqDiff, if_true, if_false, reduceIte], by simp only [slot_set, Nat.reduceLT, Nat.reduceEqDiff, if_true, if_false, reduceIte], by simp only [slot_set, Nat.reduceLT, Nat.reduceEqDiff, if_true, if_false, reduceIte]; exact t25, by simp only [slot_set, Nat.reduceLT, Nat.reduceEqDiff, if_true, if_false, reduceIte]; exact t26, by simp only [slot_set, Nat.reduceLT, Nat.reduceEqDiff, if_true, if_false, reduceIte]⟩
    obtain ⟨e2, r1, r2, r3, r4, r5, r6⟩ := hrun
    have hten := uintL_ten (n := d) (by omega)
    refine ⟨hlt, e2, h2, r1, w2, ys ++ uintL d, z, z, b2, by omega, b3, by rw [List.length_append]; omega, hlt, ?_, hr3, .inl rfl, z0, r2, r3, r4, r5, r6⟩
    rw [← hd]
    show ys ++ uintL d ++ deltas z (zs.drop (i + 1)) = ys ++ (uintL (z - last).toNat ++ deltas z (zs.drop (i + 1)))
    rw [hdn, List.append_assoc]; rfl
  · right
    have c1 : iLt (i : Int) (zs.length : Int) = false := by rw [iLt_is]; simp; omega
    have hrun : ∃ e2, bB (call bodies (n + 1)) e' h' = .exit 0 e2 h' ∧ slotG 4 e2 = w' := by
      unfold bB
      simp only [cOp_is, cDo_is, cCond_is, cSeq_is, cBlock_is, cNorm_is, cRet_is, cExit_is, opX_ok, doX_ok, condX_true, condX_false, seqX_norm, seqX_exit, seqX_ret, blockX_norm, blockX_ret, blockX_exit, oMove_is, kV_is, slot_set, Nat.reduceLT, Nat.reduceEqDiff, if_true, if_false, reduceIte, oCmp_is, cmpR_is, t27, t26, c1]
      exact ⟨_, rfl, by simp only [slot_set, Nat.reduceLT, Nat.reduceEqDiff, if_true, if_false, reduceIte]; exact t4⟩
    obtain ⟨e2, r1, r2⟩ := hrun
    rw [r1]
    rw [List.drop_of_length_le (by omega)] at hd
    have hd : ys ++ [] = xs ++ deltas 0 zs := hd
    rw [List.append_nil] at hd
    rw [hd] at o'
    exact ⟨rfl, e2, h', w', rfl, r2, x', hn, o'⟩
theorem bytes_no {n : Nat} {h : Hp} (W : h.Wf) {f t : Int} {u : Value} {zs : List Int} (V : h.Vals u (ints .i64 zs)) (hl : zs.length < 900000) (hr : rightB f t zs = false) : ∃ h', call bodies (n + 3) 15 [mvV f t u] h = .ok (.tuple ⟨[.slice none 0 0, .int .i64 167]⟩) h' ∧ h.Ext h' := by
  have R := Hp.Row.new W 0 [.int .i64 f, .int .i64 t, u]
  have x1 := (Hp.Ext.refl W).pushRow 0 [.int .i64 f, .int .i64 t, u]
  have hbx : ∀ e : Env, slotG 0 e = mvV f t u → oBox (slotG 0) (call bodies (n + 2)) e h = .ok (.pointer (some ⟨h.next, 0, none⟩)) (h.pushRow 0 [.int .i64 f, .int .i64 t, u]) := fun e he => by rw [oBox_is, he, boxR_is W]; rfl
  have V1 := V.ext W x1
  generalize h.pushRow 0 [.int .i64 f, .int .i64 t, u] = h1 at R x1 V1 hbx
  have l1 : loadN 3 ⟨h.next, 0, none⟩ h1 = .ok (mvV f t u) h1 := R.loadN (by simp)
  have k1 := right_is (n := n) x1.wf V1 hl (f := f) (t := t)
  rw [hr] at k1
  refine ⟨h1.pushRow 0 [.int .i64 f, .int .i64 t, u], ?_, x1.trans (right_ext x1.wf)⟩
  rw [call15 rfl]
  unfold d15
  simp only [setArgs_cons, setArgs_nil, Nat.succ_eq_add_one, Nat.zero_add, Nat.reduceAdd, cOp_is, cCond_is, opX_ok, condX_true, oMove_is, kV_is, slot_set, Nat.reduceLT, Nat.reduceEqDiff, if_true, if_false, reduceIte, hbx, oLoadN_is, loadsR_is, l1, oCall_is, vals_cons, vals_nil, k1, oNot_is, notR_is, Bool.not_false, cRet_is, leave_ret, finish_2]
noncomputable def bS : C := (cSeq (cBlock 0 (cLoop (cOp (slotT 28) (oCmp iLt .i64 (slotG 27) (slotG 26))
(cCond (slotG 28)
(cSeq (cBlock 1 (cOp (slotT 29) (oIdx 1 (slotG 25) (slotG 27))
(cOp (slotT 30) (oLoad1 (slotG 29))
(cOp (slotT 7) (oMove (slotG 30))
(cOp (slotT 34) (oAri Int.sub .i64 (slotG 7) (slotG 5))
(cOp (slotT 35) (oConv .u64 (slotG 34))
(cOp (slotT 36) (oCall 36 [(slotG 4), (slotG 35)])
(cOp (slotT 4) (oMove (slotG 36))
(cOp (slotT 5) (oMove (slotG 7))
cNorm)))))))))
(cOp (slotT 38) (oAdd .i64 (topOf .i64) (slotG 27) (kV (.int .i64 1)))
(cOp (slotT 27) (oMove (slotG 38))
cNorm)))
(cExit 0)))))
(cOp (slotT 2) (oMove (slotG 4))
(cOp (slotT 3) (oMove (kV (.int .i64 0)))
cRet)))
theorem bS_is : bS = cSeq (cBlock 0 (cLoop bB)) bE := rfl
noncomputable def d15h : C := (cOp (slotT 1) (oBox (slotG 0))
(cOp (slotT 2) (oMove (kV (.slice none 0 0)))
(cOp (slotT 3) (oMove (kV (.int .i64 0)))
(cOp (slotT 8) (oLoadN 3 (slotG 1))
(cOp (slotT 9) (oCall 9 [(slotG 8)])
(cOp (slotT 10) (oNot (slotG 9))
(cCond (slotG 10)
(cOp (slotT 2) (oMove (kV (.slice none 0 0)))
(cOp (slotT 3) (oMove (kV (.int .i64 167)))
cRet))
(cMark (cOp (slotT 11) (oFieldAddr 0 (slotG 1))
(cOp (slotT 12) (oLoad1 (slotG 11))
(cOp (slotT 13) (oConv .u64 (slotG 12))
(cOp (slotT 14) (oQuiet .weak (oCall 36 [(kV (.slice none 0 0)), (slotG 13)]))
(cOp (slotT 15) (oFieldAddr 1 (slotG 1))
(cOld (slotG 15) (cChk (slotG 15) []
(cOp (slotT 16) (oLoad1 (slotG 15))
(cOp (slotT 17) (oConv .u64 (slotG 16))
(cOp (slotT 18) (oQuiet .weak (oCall 36 [(slotG 14), (slotG 17)]))
(cOp (slotT 19) (oFieldAddr 2 (slotG 1))
(cOld (slotG 19) (cChk (slotG 19) []
(cOp (slotT 20) (oLoad1 (slotG 19))
(cOp (slotT 21) (oLenS (slotG 20))
(cOp (slotT 22) (oConv .u64 (slotG 21))
(cOp (slotT 23) (oQuiet .free (oCall 36 [(slotG 18), (slotG 22)]))
(cOp (slotT 4) (oMove (slotG 23))
(cOp (slotT 5) (oMove (kV (.int .i64 0)))
(cOp (slotT 24) (oFieldAddr 2 (slotG 1))
(cOp (slotT 25) (oLoad1 (slotG 24))
(cOp (slotT 26) (oLenS (slotG 25))
(cOp (slotT 27) (oMove (kV (.int .i64 0)))
bS)))))))))))))))))))))))))))))))
theorem d15_is : d15 = d15h := rfl
theorem bytes_ok {n : Nat} {h : Hp} (W : h.Wf) {f t : Int} {u : Value} {zs : List Int} (V : h.Vals u (ints .i64 zs)) (hr : rightB f t zs = true) : ∃ h' v k, call bodies (n + 3) 15 [mvV f t u] h = .ok (.tuple ⟨[v, .int .i64 0]⟩) h' ∧ h.Ext h' ∧ h.next ≤ k ∧ k ≤ h'.next ∧ h'.Own k 5 v ((bytesL f t zs).map bv) := by
  obtain ⟨f0, f1, t0, t1, _, hl, hrise⟩ := right_parts hr
  obtain ⟨a, rfl⟩ := Int.eq_ofNat_of_zero_le f0
  obtain ⟨b, rfl⟩ := Int.eq_ofNat_of_zero_le t0
  have R := Hp.Row.new W 0 [.int .i64 (a : Int), .int .i64 (b : Int), u]
  have x1 := (Hp.Ext.refl W).pushRow 0 [.int .i64 (a : Int), .int .i64 (b : Int), u]
  have hbx : ∀ e : Env, slotG 0 e = mvV a b u → oBox (slotG 0) (call bodies (n + 2)) e h = .ok (.pointer (some ⟨h.next, 0, none⟩)) (h.pushRow 0 [.int .i64 (a : Int), .int .i64 (b : Int), u]) := fun e he => by rw [oBox_is, he, boxR_is W]; rfl
  have V1 := V.ext W x1
  generalize h.pushRow 0 [.int .i64 (a : Int), .int .i64 (b : Int), u] = h1 at R x1 V1 hbx
  have l1 : loadN 3 ⟨h.next, 0, none⟩ h1 = .ok (mvV a b u) h1 := R.loadN (by simp)
  have k1 := right_is (n := n) x1.wf V1 (by omega) (f := (a : Int)) (t := (b : Int))
  rw [hr] at k1
  have x2 := x1.trans (right_ext x1.wf (f := (a : Int)) (t := (b : Int)) (u := u))
  have R2 := R.ext x1.wf (right_ext x1.wf (f := (a : Int)) (t := (b : Int)) (u := u))
  generalize h1.pushRow 0 [.int .i64 (a : Int), .int .i64 (b : Int), u] = h2 at k1 x2 R2
  have hlt2 : h.next < h2.next := R2.lt x2.wf
  -- the region: three numbers, one behind the other
  have Wq := x2.wf.marked.quiet
  have hold : h.next < h2.marked.mark := hlt2
  have Rq : h2.marked.quiet.Row h.next 0 [.int .i64 (a : Int), .int .i64 (b : Int), u] := R2.same rfl
  have xq : h.Ext h2.marked.quiet := x2.marked.quiet
  have yq := Hp.Ext.refl Wq
  have la : load1 ⟨h.next, 0, none⟩ h2.marked = .ok (.int .i64 (a : Int)) h2.marked := (R2.same (h' := h2.marked) rfl).load1 (off := 0) (by simp)
  have cva : convR .u64 (.int .i64 (a : Int)) h2.marked = .ok (.int .u64 (a : Int)) h2.marked := by rw [convR_is, wrap_u64 (by omega)]
  obtain ⟨g1, v1, u1, y1, o1, n1, _⟩ := uint_is (n := n + 1) yq (Nat.le_refl _) (Nat.le_refl _) (k := h2.marked.quiet.next) (v := .slice none 0 0) (l := []) (.inl ⟨rfl, rfl⟩) (by simp) (N := a) (by omega)
  have low1 : h2.marked.mark ≤ g1.low := by have := y1.low; show h2.next ≤ _; have e1 : h2.marked.quiet.low = h2.next := rfl; have e2 : h2.marked.quiet.next = h2.next := rfl; omega
  have q1 : ∀ e, slotG 13 e = .int .u64 (a : Int) → oQuiet .weak (oCall 36 [(kV (.slice none 0 0)), slotG 13]) (call bodies (n + 2)) e h2.marked = .ok v1 (h2.marked.back g1) := fun e he => quiet_low (by simp only [oCall_is, vals_cons, vals_nil, kV_is, he]; exact u1) low1 (by intro h; cases h)
  have xm1 : h.Ext (h2.marked.back g1) := x2.marked.trans y1.back
  have o1 : (h2.marked.back g1).quiet.Own h2.marked.quiet.next 5 v1 ((uintL a).map bv) := o1.same rfl
  have Rm1 : (h2.marked.back g1).Row h.next 0 [.int .i64 (a : Int), .int .i64 (b : Int), u] := (Rq.ext Wq y1).same rfl
  have z1 : h2.marked.quiet.Ext (h2.marked.back g1).quiet := y1.requiet
  have mk1 : (h2.marked.back g1).mark = h2.next := rfl
  have nx1 : h2.marked.quiet.next ≤ (h2.marked.back g1).quiet.next := n1
  generalize h2.marked.back g1 = m1 at q1 xm1 o1 Rm1 z1 mk1 nx1
  have lb : load1 ⟨h.next, 1, none⟩ m1 = .ok (.int .i64 (b : Int)) m1 := Rm1.load1 (off := 1) (by simp)
  have cvb : convR .u64 (.int .i64 (b : Int)) m1 = .ok (.int .u64 (b : Int)) m1 := by rw [convR_is, wrap_u64 (by omega)]
  have ten1 := uintL_ten (n := a) (by omega)
  have ten2 := uintL_ten (n := b) (by omega)
  have ten3 := uintL_ten (n := zs.length) (by omega)
  obtain ⟨g2, v2, u2, y2, o2, n2, _⟩ := uint_is (n := n + 1) z1 (Nat.le_refl _) nx1 o1 (by omega) (N := b) (by omega)
  have low2 : m1.mark ≤ g2.low := by have := y2.low; rw [mk1]; have e1 : h2.marked.quiet.low = h2.next := rfl; have e2 : h2.marked.quiet.next = h2.next := rfl; omega
  have q2 : ∀ e, slotG 14 e = v1 → slotG 17 e = .int .u64 (b : Int) → oQuiet .weak (oCall 36 [slotG 14, slotG 17]) (call bodies (n + 2)) e m1 = .ok v2 (m1.back g2) := fun e he1 he2 => quiet_low (by simp only [oCall_is, vals_cons, vals_nil, he1, he2]; exact u2) low2 (by intro h; cases h)
  have xm2 : h.Ext (m1.back g2) := xm1.back2 (xq.trans y2)
  have o2 : (m1.back g2).quiet.Own h2.marked.quiet.next 5 v2 ((uintL a ++ uintL b).map bv) := o2.same rfl
  have Rm2 : (m1.back g2).Row h.next 0 [.int .i64 (a : Int), .int .i64 (b : Int), u] := (Rq.ext Wq y2).same rfl
  have z2 : h2.marked.quiet.Ext (m1.back g2).quiet := y2.requiet
  have mk2 : (m1.back g2).mark = h2.next := mk1
  have nx2 : h2.marked.quiet.next ≤ (m1.back g2).quiet.next := Nat.le_trans nx1 n2
  generalize m1.back g2 = m2 at q2 xm2 o2 Rm2 z2 mk2 nx2
  have lc : load1 ⟨h.next, 2, none⟩ m2 = .ok u m2 := Rm2.load1 (off := 2) (by simp)
  have V2 := V.ext W xm2
  have cvc : convR .u64 (.int .i64 (zs.length : Int)) m2 = .ok (.int .u64 (zs.length : Int)) m2 := by rw [convR_is, wrap_u64 (by omega)]
  obtain ⟨g3, v3, u3, y3, o3, n3, _⟩ := uint_is (n := n + 1) z2 (Nat.le_refl _) nx2 o2 (by rw [List.length_append]; omega) (N := zs.length) (by omega)
  have low3 : m2.mark ≤ g3.low := by have := y3.low; rw [mk2]; have e1 : h2.marked.quiet.low = h2.next := rfl; have e2 : h2.marked.quiet.next = h2.next := rfl; omega
  have q3 : ∀ e, slotG 18 e = v2 → slotG 22 e = .int .u64 (zs.length : Int) → oQuiet .free (oCall 36 [slotG 18, slotG 22]) (call bodies (n + 2)) e m2 = .ok v3 (m2.back g3) := fun e he1 he2 => quiet_low (by simp only [oCall_is, vals_cons, vals_nil, he1, he2]; exact u3) low3 (by intro h; cases h)
  have xm3 : h.Ext (m2.back g3) := xm2.back2 (xq.trans y3)
  have o3 : (m2.back g3).Own h2.marked.quiet.next 5 v3 ((uintL a ++ uintL b ++ uintL zs.length).map bv) := o3.same rfl
  have Rm3 : (m2.back g3).Row h.next 0 [.int .i64 (a : Int), .int .i64 (b : Int), u] := (Rq.ext Wq y3).same rfl
  have nx3 : h2.marked.quiet.next ≤ (m2.back g3).next := Nat.le_trans nx2 n3
  generalize m2.back g3 = m3 at q3 xm3 o3 Rm3 nx3
  have ld : load1 ⟨h.next, 2, none⟩ m3 = .ok u m3 := Rm3.load1 (off := 2) (by simp)
  have V3 := V.ext W xm3
  have pre : ∃ e1, d15h (call bodies (n + 2)) (setArgs e0 0 [mvV a b u]) h = bS (call bodies (n + 2)) e1 m3 ∧ slotG 4 e1 = v3 ∧ slotG 5 e1 = .int .i64 0 ∧ slotG 25 e1 = u ∧ slotG 26 e1 = .int .i64 (zs.length : Int) ∧ slotG 27 e1 = .int .i64 0 := by
    unfold d15h
    simp only [setArgs_cons, setArgs_nil, Nat.succ_eq_add_one, Nat.zero_add, Nat.reduceAdd, cOp_is, cCond_is, opX_ok, condX_false, oMove_is, kV_is, slot_set, Nat.reduceLT, Nat.reduceEqDiff, if_true, if_false, reduceIte, hbx, oLoadN_is, loadsR_is, l1, oCall_is, vals_cons, vals_nil, k1, oNot_is, notR_is, Bool.not_true, marked_is, oFieldAddr_is', fieldAR_is, oLoad1_is, loadR_is, la, oConv_is, cva, q1, cOld_is, oldX_ptr (show h.next < m1.mark by omega), oldX_ptr (show h.next < m2.mark by omega), cChk_nil, lb, cvb, q2, lc, oLenS_is, V2.ilen, cvc, q3, ld, V3.ilen]
    exact ⟨_, rfl, by simp only [slot_set, Nat.reduceLT, Nat.reduceEqDiff, if_true, if_false, reduceIte], by simp only [slot_set, Nat.reduceLT, Nat.reduceEqDiff, if_true, if_false, reduceIte], by simp only [slot_set, Nat.reduceLT, Nat.reduceEqDiff, if_true, if_false, reduceIte], by simp only [slot_set, Nat.reduceLT, Nat.reduceEqDiff, if_true, if_false, reduceIte], by simp only [slot_set, Nat.reduceLT, Nat.reduceEqDiff, if_true, if_false, reduceIte]⟩
  obtain ⟨e1, p1, p4, p5, p25, p26, p27⟩ := pre
  obtain ⟨e2, h4, v4, c1, c2, c3, c5, c4⟩ := bytes_loop (n := n + 1) W V hl hrise (k := h2.marked.quiet.next) (Nat.le_of_lt hlt2) nx3 xm3 o3 (by simp only [List.length_append]; omega) p4 p5 p25 p26 p27
  refine ⟨h4, v4, h2.marked.quiet.next, ?_, c3, Nat.le_of_lt hlt2, c5, ?_⟩
  · rw [call15 rfl, d15_is, p1, bS_is]
    simp only [cSeq_is, cBlock_is, c1, blockX_exit, seqX_norm]
    unfold bE
    simp only [cOp_is, cDo_is, cCond_is, cSeq_is, cBlock_is, cNorm_is, cRet_is, cExit_is, opX_ok, doX_ok, condX_true, condX_false, seqX_norm, seqX_exit, seqX_ret, blockX_norm, blockX_ret, blockX_exit, oMove_is, kV_is, slot_set, Nat.reduceLT, Nat.reduceEqDiff, if_true, if_false, reduceIte, c2, leave_ret, finish_2]
  · have e3 : bytesL (a : Int) (b : Int) zs = uintL a ++ uintL b ++ uintL zs.length ++ deltas 0 zs := by
      unfold bytesL
      simp only [Int.toNat_natCast, List.append_assoc]
    rw [e3]
    exact c4
end Go.Proofs.Ytkafejncffinmaa
