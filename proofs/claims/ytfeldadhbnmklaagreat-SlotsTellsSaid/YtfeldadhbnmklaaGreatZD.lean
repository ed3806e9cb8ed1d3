/-
  A region whose order is open: its laws, out of what 'drawC' has looked for and the machine's run.
  Values, blocks and heaps that are the same but for the numbers of some blocks; what holds of the one holds of the other.
  A walk through a map that searches: each round by itself, from the same memory; whatever the order, what it comes to is the same.
  Code: what the machine makes of it is what the model does.
  Functions: what the machine's call says is what the model's call does.
  A closed run: what the kernel has reckoned holds of every memory and every tape.
  Which places of a tree are there; a next place can be set. Printed by program (genfull.py).
  Steps of the machine as equations, for runs whose values are open: what an operation gives, what code goes on with.
  The machine's heap, for runs whose values are open: new blocks, rows as lists, what is read of them and written into them.
  Loops, appends, bytes, for runs whose values are open.
-/
import Derived.Test.YtfeldadhbnmklaaGreatZC
import Derived.LoopN
import Derived.Scope
import Derived.Below
import Derived.ChangeSame
set_option linter.unusedSimpArgs false
set_option linter.unusedVariables false
namespace Go.Proofs.YtfeldadhbnmklaaGreat
noncomputable section
open Go
section
variable {P : Program} {ty : TTy} {N : Nat} {all : List Oper} {ρ : Nat → Rho} {H : Nat → Hp} {V : Nat → Value} {T : Nat → Nat → Prop} {run : Nat → Bool} {ahs : List Ahead} {bs : List Nat}
theorem IB (hah : ∀ j o, all[j]? = some o → ∃ xs, apart ty all bs j o all.zipIdx = some xs ∧ AhIs ty all bs j o xs (ahs.getD j .plain)) (tr : Tr P ty all ahs all ρ H V run T) {j : Nat} (hj : j < all.length) :
    (H (j + 1)).low ≤ (H j).low ∧ (H j).high ≤ (H (j + 1)).high ∧ (∀ c, T j c → (H (j + 1)).low ≤ c ∧ c ≤ (H (j + 1)).high) ∧ (H (j + 1)).mark = (H j).mark := by
  have ho : all[j]? = some all[j] := List.getElem?_eq_getElem hj
  obtain ⟨xs, _, ha⟩ := hah j _ ho
  rcases (tr.sf j _ ho).core with ⟨_, core⟩ | ⟨_, _, hh, hT⟩
  · exact core.tame ha.tame
  · rw [hh]; exact ⟨Nat.le_refl _, Nat.le_refl _, fun c hc => absurd hc (hT c), rfl⟩
theorem DF (hah : ∀ j o, all[j]? = some o → ∃ xs, apart ty all bs j o all.zipIdx = some xs ∧ AhIs ty all bs j o xs (ahs.getD j .plain)) (tr : Tr P ty all ahs all ρ H V run T) {i : Nat} :
    ∀ {k : Nat}, i ≤ k → k ≤ all.length → (H k).low ≤ (H i).low ∧ (H i).high ≤ (H k).high ∧ (H k).mark = (H i).mark := by
  intro k h hk
  induction k with
  | zero => have : i = 0 := Nat.le_zero.1 h; subst this; exact ⟨Nat.le_refl _, Nat.le_refl _, rfl⟩
  | succ k ih =>
    rcases Nat.lt_or_ge k i with h2 | h2
    · have : i = k + 1 := by omega
      subst this; exact ⟨Nat.le_refl _, Nat.le_refl _, rfl⟩
    · obtain ⟨a1, a2, a3⟩ := ih h2 (by omega)
      obtain ⟨b1, b2, _, b3⟩ := IB hah tr (j := k) (by omega)
      exact ⟨Nat.le_trans b1 a1, Nat.le_trans a2 b2, b3.trans a3⟩
theorem Ly (tr : Tr P ty all ahs all ρ H V run T) {t : Nat} {u : Value} {i k : Nat} (h : i ≤ k) (hk : k ≤ all.length) (hs : ∀ m o, i ≤ m → m < k → all[m]? = some o → o.dst ≠ some t) (hu : evR (ρ k) (.tmp t) = some u) : evR (ρ i) (.tmp t) = some u :=
  tr.backward h hk hs hu
theorem Vx (hbs : bs = Cu [] all) (he : F0 all = true) (hs : HH all bs = true)
    (hah : ∀ j o, all[j]? = some o → ∃ xs, apart ty all bs j o all.zipIdx = some xs ∧ AhIs ty all bs j o xs (ahs.getD j .plain)) (tr : Tr P ty all ahs all ρ H V run T) :
    Laws ty all ρ H T (fun i j => isB bs i j = true) := by
  have len : ∀ {i : Nat} {o : Oper}, all[i]? = some o → i < all.length := fun h => (List.getElem?_eq_some_iff.1 h).1
  have coreOf : ∀ j oj c, all[j]? = some oj → T j c → Core P ty oj (ahs.getD j .plain) (ρ j) (H j) (H (j + 1)) (V j) (T j) := by
    intro j oj c hj hc
    rcases (tr.sf j oj hj).core with ⟨_, core⟩ | ⟨_, _, _, hT⟩
    · exact core
    · exact absurd hc (hT c)
  have kinds : ∀ j oj c, all[j]? = some oj → T j c → (∃ x, kd ty oj.op = .w x) ∨ (kd ty oj.op = .q ∧ strongQ ty all bs j = false) := by
    intro j oj c hj hc
    have core := coreOf j oj c hj hc
    obtain ⟨xs, _, ha⟩ := hah j oj hj
    generalize ahs.getD j .plain = ah at ha core
    cases ha with
    | strong hk _ => exact absurd hc (core.strong rfl c)
    | weak hk h => exact .inr ⟨hk, h⟩
    | free hk h _ => exact .inr ⟨hk, h⟩
    | alloc hk => exact absurd hc (core.strong rfl c)
    | read hk => exact absurd hc ((core.tp (.inr ⟨_, hk⟩)).1 c)
    | write hk => exact .inl ⟨_, hk⟩
    | wfree hk _ => exact .inl ⟨_, hk⟩
    | plain hk => exact absurd hc ((core.tp (.inl hk)).1 c)
  have held : ∀ {i j oi oj}, all[i]? = some oi → all[j]? = some oj → i < j → ¬ isB bs i j = true → ∃ xs, AhIs ty all bs j oj xs (ahs.getD j .plain) ∧ Held ty all xs i j oi oj := by
    intro i j oi oj hi hj hij hB
    obtain ⟨xs, hx, ha⟩ := hah j oj hj
    exact ⟨xs, ha, Dc hx oi i (FC.2 hi) hij (by cases h : isB bs i j <;> first | rfl | exact absurd h hB)⟩
  refine { lt := fun i j h => aj hbs he j i h, slots := fun i j oi oj d hij hi hj hd hn => Te hs hij hi hj hd hn, kinds := fun j oj c hj hc => (kinds j oj c hj hc).imp id (·.1), fixed := ?_, reads := ?_, tlt := ?_, tout := ?_, low := ?_, high := ?_ }
  ·
    intro i j oi c hij hi hjn hc hki
    have hj : all[j]? = some all[j] := List.getElem?_eq_getElem hjn
    by_cases h1 : isB bs i j = true
    · exact .inl h1
    by_cases h2 : isB bs j i = true
    · exact .inr h2
    exfalso
    have hQQ : ∀ {i j : Nat} {oi : Oper}, all[i]? = some oi → i ≠ j → ¬ isB bs i j = true → ¬ isB bs j i = true → kd ty oi.op = .q → strongQ ty all bs j = true := fun hi hij h1 h2 hk => by
      unfold strongQ
      exact G5 hi hij h1 h2 (by rw [hk]; rfl)
    rcases kinds j _ c hj hc with ⟨xj, hkj⟩ | ⟨hkj, hns⟩
    · rcases Nat.lt_or_gt_of_ne hij with h | h
      · obtain ⟨xs, _, hh⟩ := held hi hj h h1
        rcases hki with ⟨x, hki⟩ | hki
        · exact hh.ww x xj hki hkj
        · exact hh.qw xj hki hkj
      · obtain ⟨xs, _, hh⟩ := held hj hi h h2
        rcases hki with ⟨x, hki⟩ | hki
        · exact hh.ww xj x hkj hki
        · exact hh.wq xj hkj hki
    · rcases hki with ⟨x, hki⟩ | hki
      · rcases Nat.lt_or_gt_of_ne hij with h | h
        · obtain ⟨xs, _, hh⟩ := held hi hj h h1
          exact hh.wq x hki hkj
        · obtain ⟨xs, _, hh⟩ := held hj hi h h2
          exact hh.qw x hkj hki
      · rw [hQQ hi hij h1 h2 hki] at hns; cases hns
  ·
    intro i j oi x c u hij hi hjn hc hki hu hb
    have hj : all[j]? = some all[j] := List.getElem?_eq_getElem hjn
    by_cases h1 : isB bs i j = true
    · exact .inl h1
    by_cases h2 : isB bs j i = true
    · exact .inr h2
    exfalso
    have core := coreOf j _ c hj hc
    have hin := len hi
    have si := (tr.sf i oi hi).side (by rw [hki]; intro h; cases h)
    rcases kinds j _ c hj hc with ⟨xj, hkj⟩ | ⟨hkj, hns⟩
    ·
      have hah_j : ∃ xs, ahs.getD j .plain = .wr xj xs ∧ apart ty all bs j all[j] all.zipIdx = some xs := by
        obtain ⟨xs, hx, ha⟩ := hah j _ hj
        generalize ahs.getD j .plain = ah at ha
        cases ha with
        | write hk => rw [hkj] at hk; cases hk; exact ⟨xs, rfl, hx⟩
        | wfree hk hl =>
          have := G5 (ty := ty) (ask := fun _ k => isR k) hi hij h1 h2 (by simp only [hki]; rfl)
          rw [hl] at this; cases this
        | strong hk _ => rw [hkj] at hk; cases hk
        | weak hk _ => rw [hkj] at hk; cases hk
        | free hk _ _ => rw [hkj] at hk; cases hk
        | alloc hk => rw [hkj] at hk; cases hk
        | read hk => rw [hkj] at hk; cases hk
        | plain hk => rw [hkj] at hk; cases hk
      obtain ⟨xsj, hej, hxj⟩ := hah_j
      obtain ⟨u', hu', hb'⟩ := core.wr xj xsj hej c hc
      have sj := (tr.sf j _ hj).side (by rw [hkj]; intro h; cases h)
      rcases Nat.lt_or_gt_of_ne hij with h | h
      ·
        have hh := Dc hxj oi i (FC.2 hi) h (by cases h : isB bs i j <;> first | rfl | exact absurd h h1)
        obtain ⟨hm, t, rfl, hw⟩ := hh.rw' x xj hki hkj
        obtain ⟨_, hkn⟩ := sj.known xj xsj (.inl hej)
        obtain ⟨u2, hu2⟩ := hkn _ hm
        have hback := Ly tr (Nat.le_of_lt h) (Nat.le_of_lt hjn) (fun m o a1 a2 a3 => hw m o a1 a2 a3) hu2
        rw [hu] at hback; cases hback
        exact sj.wrx xj xsj hej _ hm u' u c hu' hu2 hb' hb
      ·
        obtain ⟨xs, ha, hh⟩ := held hj hi h h2
        obtain ⟨hm, t, rfl, hw⟩ := hh.wr xj x hkj hki
        have hchk : ∃ old, ahs.getD i .plain = .chk old x xs := by
          generalize ahs.getD i .plain = ah at ha
          cases ha with
          | read hk =>
            rw [hki] at hk; cases hk
            rcases Iu (x := x) (old := loose ty all bs i fun i k => isQ k && !(strongQ ty all bs i)) (xs := xs) with ⟨_, _, h⟩ | h
            · subst h; cases hm
            · exact ⟨_, h⟩
          | strong hk _ => rw [hki] at hk; cases hk
          | weak hk _ => rw [hki] at hk; cases hk
          | free hk _ _ => rw [hki] at hk; cases hk
          | alloc hk => rw [hki] at hk; cases hk
          | write hk => rw [hki] at hk; cases hk
          | wfree hk _ => rw [hki] at hk; cases hk
          | plain hk => rw [hki] at hk; cases hk
        obtain ⟨old, hei⟩ := hchk
        obtain ⟨_, hkn⟩ := si.known x xs (.inr ⟨old, hei⟩)
        obtain ⟨u2, hu2⟩ := hkn _ hm
        have hback := Ly tr (Nat.le_of_lt h) (Nat.le_of_lt hin) (fun m o a1 a2 a3 => hw m o a1 a2 a3) hu2
        rw [hu'] at hback; cases hback
        exact si.chk old x xs hei _ hm u u' c hu hu2 hb hb'
    ·
      have hwk : ∀ c, T j c → (H j).mark ≤ c := by
        obtain ⟨xs, hx, ha⟩ := hah j _ hj
        generalize ahs.getD j .plain = ah at ha core
        cases ha with
        | weak hk _ => exact core.weak rfl
        | free hk _ hl =>
          have : looseQ ty all bs j = true := by
            unfold looseQ
            exact G5 (ty := ty) (ask := fun _ k => !isP k) hi hij h1 h2 (by simp only [hki]; rfl)
          rw [hl] at this; cases this
        | strong hk h => rw [hns] at h; cases h
        | alloc hk => rw [hkj] at hk; cases hk
        | read hk => rw [hkj] at hk; cases hk
        | write hk => rw [hkj] at hk; cases hk
        | wfree hk _ => rw [hkj] at hk; cases hk
        | plain hk => rw [hkj] at hk; cases hk
      have hold : ∃ xs, ahs.getD i .plain = .chk true x xs := by
        obtain ⟨xs, hx, ha⟩ := hah i oi hi
        generalize ahs.getD i .plain = ah at ha
        cases ha with
        | read hk =>
          rw [hki] at hk; cases hk
          have hl : (loose ty all bs i fun i k => isQ k && !(strongQ ty all bs i)) = true :=
            G5 hj (fun h => hij h.symm) h2 h1 (by rw [hkj, hns]; rfl)
          rw [hl]
          rcases Iu (x := x) (old := true) (xs := xs) with ⟨_, h, _⟩ | h
          · cases h
          · exact ⟨xs, h⟩
        | strong hk _ => rw [hki] at hk; cases hk
        | weak hk _ => rw [hki] at hk; cases hk
        | free hk _ _ => rw [hki] at hk; cases hk
        | alloc hk => rw [hki] at hk; cases hk
        | write hk => rw [hki] at hk; cases hk
        | wfree hk _ => rw [hki] at hk; cases hk
        | plain hk => rw [hki] at hk; cases hk
      obtain ⟨xs, hei⟩ := hold
      have h3 := si.old x xs hei u c hu hb
      have h4 := hwk c hc
      have m1 := (DF hah tr (Nat.zero_le i) (Nat.le_of_lt hin)).2.2
      have m2 := (DF hah tr (Nat.zero_le j) (Nat.le_of_lt hjn)).2.2
      omega
  · intro j c hjn hc
    exact (coreOf j _ c (List.getElem?_eq_getElem hjn) hc).tlt c hc
  · intro j c hjn hc
    obtain ⟨_, _, h3, _⟩ := IB hah tr hjn
    obtain ⟨h4, h5⟩ := h3 c hc
    obtain ⟨h6, h7, _⟩ := DF hah tr (i := j + 1) hjn (Nat.le_refl _)
    omega
  · exact (DF hah tr (Nat.zero_le _) (Nat.le_refl _)).1
  · exact (DF hah tr (Nat.zero_le _) (Nat.le_refl _)).2.1
theorem SB (h : O7 ty all = some ahs) : ∃ bs, bs = Cu [] all ∧ F0 all = true ∧ HH all bs = true ∧ ∀ j o, all[j]? = some o → ∃ xs, apart ty all bs j o all.zipIdx = some xs ∧ AhIs ty all bs j o xs (ahs.getD j .plain) := by
  unfold O7 at h
  rw [Oy] at h
  split at h
  · rename_i hc
    simp only [Bool.and_eq_true] at hc
    refine ⟨_, rfl, hc.1, hc.2.2, fun j o ho => ?_⟩
    have := Jx h j o ho
    rw [Nat.zero_add] at this
    exact Nj this
  · cases h
end
end
end Go.Proofs.YtfeldadhbnmklaaGreat
set_option linter.unusedVariables false
set_option linter.unusedSimpArgs false
namespace Go.Proofs.YtfeldadhbnmklaaGreat
noncomputable section
open Go
theorem Af {a b : Bool} (h : (bif a then b else false) = true) : a = true ∧ b = true := by cases a <;> first | exact ⟨rfl, h⟩ | cases h
theorem aF {a b : Addr} (h : eqA a b = true) : a = b := by
  unfold eqA at h
  obtain ⟨h1, h⟩ := Af h
  obtain ⟨h2, h⟩ := Af h
  cases a with | mk b1 o1 s1 => cases b with | mk b2 o2 s2 =>
  have e1 : b1 = b2 := AZ.1 h1
  have e2 : o1 = o2 := AZ.1 h2
  subst e1
  subst e2
  cases s1 with
  | some _ => cases h
  | none =>
    cases s2 with
    | some _ => cases h
    | none => rfl
theorem PA {a b : Option Addr} (h : aI a b = true) : a = b := by
  cases a with
  | none => cases b with
    | none => rfl
    | some _ => cases h
  | some a => cases b with
    | none => cases h
    | some b => rw [aF h]
theorem I1 {f : Value → Value → Bool} (hf : ∀ a b, f a b = true → a = b) : ∀ {x y : List Value}, eqL f x y = true → x = y
  | [], [], _ => rfl
  | [], _ :: _, h => by cases h
  | _ :: _, [], h => by cases h
  | a :: x, b :: y, h => by
    obtain ⟨h1, h2⟩ := Af h
    rw [hf a b h1, I1 hf h2]
theorem Ko {x y : Array Value} (h : x.toList = y.toList) : x = y := by
  cases x; cases y; simp only at h; rw [h]
theorem Ky : ∀ (n : Nat) (a b : Value), eqv n a b = true → a = b
  | 0, _, _, h => by cases h
  | n + 1, a, b, h => by
    have ih := fun x y => Ky n x y
    unfold eqv at h
    cases a <;> first | (cases h; done) | (cases b <;> first | (cases h; done) | skip)
    · simp only [beq_iff_eq] at h; rw [h]
    · obtain ⟨h1, h2⟩ := Af h
      rw [Cp] at h2
      rw [Dh h1, eq_of_beq h2]
    · rename_i x y
      have h : bEq x.data.toList y.data.toList = true := h
      rw [GP] at h
      cases x with | mk x => cases y with | mk y => cases x with | mk x => cases y with | mk y =>
      have h := eq_of_beq h
      have h : x = y := h
      rw [h]
    · rw [PA h]
    · obtain ⟨h1, h⟩ := Af h
      obtain ⟨h2, h⟩ := Af h
      rw [AZ.1 h1, AZ.1 h2, PA h]
    · rename_i x y
      cases x with
      | none => cases y with
        | none => rfl
        | some _ => cases h
      | some x => cases y with
        | none => cases h
        | some y => rw [AZ.1 h]
    · rename_i f x u g y v
      cases f with
      | func f =>
        cases g with
        | func g =>
          obtain ⟨h1, h⟩ := Af h
          obtain ⟨h2, h⟩ := Af h
          rw [AZ.1 h1, Ko (I1 ih h2), Ko (I1 ih h)]
        | _ => cases h
      | _ => cases h
    · rfl
    · obtain ⟨h1, h⟩ := Af h
      rw [AZ.1 h1, ih _ _ h]
    · rfl
    · rw [Ko (I1 ih h)]
    · rw [Ko (I1 ih h)]
theorem Ny : ∀ {s t : VT}, eqT s t = true → s = t
  | .mt, .mt, _ => rfl
  | .mt, .nd _ _ _, h => by cases h
  | .nd _ _ _, .mt, h => by cases h
  | .nd v l r, .nd u a b, h => by
    obtain ⟨h1, h⟩ := Af h
    obtain ⟨h2, h⟩ := Af h
    rw [Ky _ _ _ h1, Ny h2, Ny h]
theorem O8 : ∀ {x y : List Ent}, aH x y = true → x = y
  | [], [], _ => rfl
  | [], _ :: _, h => by cases h
  | _ :: _, [], h => by cases h
  | ⟨k, v, b⟩ :: x, ⟨k', v', b'⟩ :: y, h => by
    obtain ⟨h1, h⟩ := Af h
    obtain ⟨h2, h⟩ := Af h
    obtain ⟨h3, h⟩ := Af h
    have e1 := Ky _ _ _ h1
    have e2 := Ky _ _ _ h2
    have e3 := AZ.1 h3
    simp only at e1 e2 e3
    rw [e1, e2, e3, O8 h]
theorem Kv : ∀ {x y : List Nat}, VX x y = true → x = y
  | [], [], _ => rfl
  | [], _ :: _, h => by cases h
  | _ :: _, [], h => by cases h
  | a :: x, b :: y, h => by
    obtain ⟨h1, h⟩ := Af h
    rw [AZ.1 h1, Kv h]
theorem aG {a b : Blk} (h : eqB a b = true) : a = b := by
  unfold eqB at h
  cases a <;> cases b <;> first | (cases h; done) | skip
  · obtain ⟨h1, h⟩ := Af h
    obtain ⟨h2, h⟩ := Af h
    rw [AZ.1 h1, AZ.1 h2, Ny h]
  · obtain ⟨h1, h⟩ := Af h
    rw [AZ.1 h1, O8 h]
  · rename_i m s l t m' s' l' t'
    obtain ⟨h1, h⟩ := Af h
    obtain ⟨h2, h⟩ := Af h
    obtain ⟨h3, h⟩ := Af h
    rw [AZ.1 h1, AZ.1 h2, Kv h3]
    cases m with
    | none => cases m' with
      | none => rfl
      | some _ => cases h
    | some m => cases m' with
      | none => cases h
      | some m' => rw [AZ.1 h]
  · rfl
section
variable {q : Nat → Nat → Bool} {φ ψ : Phi}
theorem PY (hq : ∀ i j, q i j = true → ∀ p, φ i = some p → ψ j = some p) {a b : Addr} (h : al q a b = true) : (∀ a', RelA φ a a' → RelA ψ b a') ∧ (∀ c a' c', RelS φ a c a' c' → RelS ψ b c a' c') := by
  unfold al at h
  obtain ⟨h1, h⟩ := Af h
  obtain ⟨h2, h⟩ := Af h
  cases a with | mk b1 o1 s1 => cases b with | mk b2 o2 s2 =>
  have e2 : o1 = o2 := AZ.1 h2
  subst e2
  cases s1 with
  | some _ => cases h
  | none =>
    cases s2 with
    | some _ => cases h
    | none =>
      exact ⟨fun a' ⟨x1, x2, p, hp, r⟩ => ⟨rfl, x2, p, hq _ _ h1 p hp, r⟩, fun c a' c' ⟨x1, x2, p, hp, r⟩ => ⟨rfl, x2, p, hq _ _ h1 p hp, r⟩⟩
theorem Fj {f : Value → Value → Bool} (hf : ∀ a b, f a b = true → ∀ v', RelV φ a v' → RelV ψ b v') : ∀ {x y l : List Value}, eqL f x y = true → RelL φ x l → RelL ψ y l
  | [], [], _, _, .nil => .nil
  | [], _ :: _, _, h, _ => by cases h
  | _ :: _, [], _, h, _ => by cases h
  | a :: x, b :: y, _, h, .cons h1 h2 => by
    obtain ⟨h3, h4⟩ := Af h
    exact .cons (hf a b h3 _ h1) (Fj hf h4 h2)
theorem G3 (hq : ∀ i j, q i j = true → ∀ p, φ i = some p → ψ j = some p) : ∀ (n : Nat) (a b : Value), JE q n a b = true → ∀ v', RelV φ a v' → RelV ψ b v'
  | 0, _, _, h, _, _ => by cases h
  | n + 1, a, b, h, v', hv => by
    have ih := fun x y h v' => G3 hq n x y h v'
    unfold JE at h
    cases a <;> first | (cases h; done) | (cases b <;> first | (cases h; done) | skip)
    · simp only [beq_iff_eq] at h; rw [← h]; cases hv; exact .bool _
    · obtain ⟨h1, h2⟩ := Af h
      rw [Cp] at h2
      rw [Dh h1, ← eq_of_beq h2]; cases hv; exact .int _ _
    · rename_i x y
      have h : bEq x.data.toList y.data.toList = true := h
      rw [GP] at h
      cases x with | mk x => cases y with | mk y => cases x with | mk x => cases y with | mk y =>
      have h := eq_of_beq h
      have h : x = y := h
      rw [← h]; cases hv; exact .string _
    · rename_i x y
      cases x with
      | none => cases y with
        | none => cases hv; exact .ptr0
        | some _ => cases h
      | some x => cases y with
        | none => cases h
        | some y => cases hv with | ptr hr => exact .ptr ((PY hq h).1 _ hr)
    · rename_i x l c y m d
      obtain ⟨h1, h⟩ := Af h
      obtain ⟨h2, h⟩ := Af h
      rw [← AZ.1 h1, ← AZ.1 h2]
      cases x with
      | none => cases y with
        | none => cases hv; exact .slice0
        | some _ => cases h
      | some x => cases y with
        | none => cases h
        | some y => cases hv with | slice hn hr => exact .slice hn ((PY hq h).2 _ _ _ hr)
    · rename_i x y
      cases x with
      | none => cases y with
        | none => cases hv; exact .map0
        | some _ => cases h
      | some x => cases y with
        | none => cases h
        | some y => cases hv with | map hr => exact .map (hq _ _ h _ hr)
    · rename_i f x u g y v
      cases f with
      | func f =>
        cases g with
        | func g =>
          obtain ⟨h1, h3⟩ := Af h
          obtain ⟨h2, h4⟩ := Af h3
          rw [← AZ.1 h1]
          cases y with | mk y => cases v with | mk v =>
          cases hv with | func _ r1 r2 => exact .func _ (Fj ih h2 r1) (Fj ih h4 r2)
        | _ => cases h
      | _ => cases h
    · cases hv; exact .nilFunc
    · obtain ⟨h1, h⟩ := Af h
      rw [← AZ.1 h1]
      cases hv with | iface _ r => exact .iface _ (ih _ _ h _ r)
    · cases hv; exact .nilIface
    · rename_i x y
      cases y with | mk y =>
      cases hv with | agg r => exact .agg (Fj ih h r)
    · rename_i x y
      cases y with | mk y =>
      cases hv with | tuple r => exact .tuple (Fj ih h r)
theorem JD : ∀ {s t : VT}, Vu q s t = true → ∀ j, JE q 8 (s.get j) (t.get j) = true
  | .mt, .mt, _, j => by cases j <;> rfl
  | .mt, .nd _ _ _, h, _ => by cases h
  | .nd _ _ _, .mt, h, _ => by cases h
  | .nd v l r, .nd u a b, h, j => by
    obtain ⟨h1, h⟩ := Af h
    obtain ⟨h2, h⟩ := Af h
    cases j with
    | zero => exact h1
    | succ j =>
      rw [VT.get_nd_succ, VT.get_nd_succ]
      split
      · exact JD h2 _
      · exact JD h _
theorem KP (hq : ∀ i j, q i j = true → ∀ p, φ i = some p → ψ j = some p) : ∀ {x y : List Ent} {l : List MapEntry}, SV q x y = true → RelE φ x l → RelE ψ y l
  | [], [], _, _, .nil => .nil
  | [], _ :: _, _, h, _ => by cases h
  | _ :: _, [], _, h, _ => by cases h
  | ⟨k, v, b⟩ :: x, ⟨k', v', b'⟩ :: y, _, h, .cons hk hv t => by
    obtain ⟨h1, g1⟩ := Af h
    obtain ⟨h2, g2⟩ := Af g1
    obtain ⟨h3, g3⟩ := Af g2
    have e3 : b = b' := AZ.1 h3
    subst e3
    exact .cons (G3 hq _ _ _ h1 _ hk) (G3 hq _ _ _ h2 _ hv) (KP hq g3 t)
theorem MK {ty : TTy} (hq : ∀ i j, q i j = true → ∀ p, φ i = some p → ψ j = some p) {a b : Blk} (h : GX q a b = true) {p : Pl} {o : Option Obj} (hr : RelB ty φ p a o) : RelB ty ψ p b o := by
  unfold GX at h
  cases a <;> cases b <;> first | (cases h; done) | skip
  · obtain ⟨h1, h⟩ := Af h
    obtain ⟨h2, h⟩ := Af h
    rw [← AZ.1 h1, ← AZ.1 h2]
    cases hr with
    | cells R => exact .cells { R with cell := fun j hj => let ⟨v, e, r⟩ := R.cell j hj; ⟨v, e, G3 hq _ _ _ (JD h j) _ r⟩ }
  · obtain ⟨h1, h⟩ := Af h
    rw [← AZ.1 h1]
    cases hr with
    | map R => exact .map (KP hq h R)
  · rename_i m s l t m' s' l' t'
    obtain ⟨h1, h⟩ := Af h
    obtain ⟨h2, h⟩ := Af h
    obtain ⟨h3, h⟩ := Af h
    rw [← AZ.1 h1, ← AZ.1 h2, ← Kv h3]
    cases m with
    | none => cases m' with
      | none => cases hr with | iter0 hp => exact .iter0 hp
      | some _ => cases h
    | some m => cases m' with
      | none => cases h
      | some m' => cases hr with | iter hp hm => exact .iter hp (hq _ _ h _ hm)
  · exact .dead
theorem OA {a b : Blk} (h : GX q a b = true) : ShapeLe a b := by
  unfold GX at h
  cases a <;> cases b <;> first | (cases h; done) | skip
  · obtain ⟨h1, h⟩ := Af h
    obtain ⟨h2, h⟩ := Af h
    exact .inr ⟨AZ.1 h1, AZ.1 h2⟩
  · exact .inr trivial
  · exact .inr trivial
  · exact .inl rfl
theorem KO {a b : Blk} (h : GX q a b = true) (hb : b ≠ .dead) : a ≠ .dead := by
  rintro rfl
  unfold GX at h
  cases b <;> first | (cases h; done) | exact hb rfl
theorem JC {a : Blk} {c : VT} {s e : Nat} (h : GX q a (.cells c s e) = true) : ∃ c', a = .cells c' s e := by
  unfold GX at h
  cases a <;> first | (cases h; done) | skip
  obtain ⟨h1, h⟩ := Af h
  obtain ⟨h2, h⟩ := Af h
  rw [AZ.1 h1, AZ.1 h2]
  exact ⟨_, rfl⟩
end
theorem Pg : ∀ (l : List Nat) (n : Nat), ax n l = l[n]?
  | [], n => by cases n <;> rfl
  | x :: l, 0 => rfl
  | x :: l, n + 1 => by rw [List.getElem?_cons_succ, ← Pg l n]; rfl
theorem Pb : ∀ l : List Nat, an l = l.length
  | [] => rfl
  | _ :: l => congrArg Nat.succ (Pb l)
theorem Nc {f : Nat → Bool} : ∀ {n i : Nat}, UC f n i = true → ∀ j, i ≤ j → j < i + n → f j = true
  | 0, i, _, j, h1, h2 => by omega
  | n + 1, i, h, j, h1, h2 => by
    obtain ⟨h3, h4⟩ := Af h
    by_cases hj : j = i
    · rw [hj]; exact h3
    · exact Nc h4 j (by have : Nat.succ i = i + 1 := rfl; omega) (by have : Nat.succ i = i + 1 := rfl; omega)
theorem Mb {n : Nat} : ∀ {l : List Nat}, Pf n l = true → n ∉ l
  | [], _ => List.not_mem_nil
  | x :: l, h => by
    unfold Pf at h
    cases hb : Nat.beq x n with
    | true => rw [hb] at h; cases h
    | false =>
      rw [hb] at h
      intro hm
      rcases List.mem_cons.1 hm with rfl | hm
      · rw [AZ.2 rfl] at hb; cases hb
      · exact Mb h hm
theorem H0 : ∀ {l : List Nat}, Ix l = true → l.Nodup
  | [], _ => List.nodup_nil
  | x :: l, h => by
    obtain ⟨h1, h2⟩ := Af h
    exact List.nodup_cons.2 ⟨Mb h1, H0 h2⟩
theorem Oz {lo hi : Nat} : ∀ {l : List Nat}, Zf lo hi l = true → ∀ x ∈ l, lo ≤ x ∧ x < hi
  | [], _, x, hx => by cases hx
  | y :: l, h, x, hx => by
    obtain ⟨h1, g⟩ := Af h
    obtain ⟨h2, h3⟩ := Af g
    rcases List.mem_cons.1 hx with rfl | hx
    · exact ⟨Ap.1 h1, A3.1 h2⟩
    · exact Oz h3 x hx
theorem KQ {q : Nat → Nat → Bool} {t1 r : BT} : ∀ {l : List Nat} {j : Nat}, OB q t1 r l j = true → ∀ (n k : Nat), l[n]? = some k → GX q (t1.get k) (r.get (j + n)) = true
  | [], _, _, n, k, hn => by cases n <;> cases hn
  | x :: l, j, h, n, k, hn => by
    obtain ⟨h1, h2⟩ := Af h
    cases n with
    | zero => cases hn; exact h1
    | succ n =>
      have := KQ h2 n k (by rw [List.getElem?_cons_succ] at hn; exact hn)
      rw [show j + (n + 1) = Nat.succ j + n by have : Nat.succ j = j + 1 := rfl; omega]
      exact this
theorem Ma : ∀ {l : List Nat} {a b k : Nat}, l.Nodup → l[a]? = some k → l[b]? = some k → a = b
  | [], a, _, _, _, h, _ => by cases a <;> cases h
  | x :: l, 0, 0, _, _, _, _ => rfl
  | x :: l, 0, b + 1, k, hd, h, h2 => by
    cases h
    rw [List.getElem?_cons_succ] at h2
    exact absurd (List.mem_of_getElem? h2) (List.nodup_cons.1 hd).1
  | x :: l, a + 1, 0, k, hd, h, h2 => by
    cases h2
    rw [List.getElem?_cons_succ] at h
    exact absurd (List.mem_of_getElem? h) (List.nodup_cons.1 hd).1
  | x :: l, a + 1, b + 1, k, hd, h, h2 => by
    rw [List.getElem?_cons_succ] at h h2
    rw [Ma (List.nodup_cons.1 hd).2 h h2]
theorem am {ty : TTy} {φ φ1 : Phi} {h h1 r hr : Hp} {w w1 : World} {lo : Nat} {L : List Nat} (H : RelW ty φ (fun _ => False) h w) (H1 : RelW ty φ1 (fun _ => False) h1 w1) (E : Evo φ hr w φ1 h1 w1) (hrn : hr.next = h.next) (hrb : hr.bl = h.bl) (hbig : 256 ≤ h.next)
    (hc : eY lo h h1 r L = true) (hlo : ∀ i, i < lo → r.bl.get i = h.bl.get i) (hfr : ∀ i, r.next ≤ i → r.bl.get i = h.bl.get i) (rlow : r.low ≤ lo ∧ r.low ≤ h.low) (rhigh : r.next ≤ r.high ∧ h.high ≤ r.high) :
    ∃ ψ : Phi, RelW ty ψ (fun _ => False) r w1 ∧ Evo φ h w ψ r w1 := by
  obtain ⟨c1, hc⟩ := Af hc
  obtain ⟨c2, hc⟩ := Af hc
  obtain ⟨c3, hc⟩ := Af hc
  obtain ⟨c4, hc⟩ := Af hc
  obtain ⟨c5, c6⟩ := Af hc
  clear hc
  have c1 := Ap.1 c1
  have c2 : h.next + L.length = r.next := by have := AZ.1 c2; rw [Pb] at this; exact this
  have c3 := H0 c3
  have c4 := Oz c4
  have c5 := fun i (a : lo ≤ i) (b : i < h.next) => Nc c5 i a (by have : Nat.sub h.next lo = h.next - lo := rfl; omega)
  have c6 := KQ c6
  obtain ⟨B, hB⟩ : ∃ B, h.next = B := ⟨_, rfl⟩
  rw [hB] at c2 c4 c5 c6 hbig hrn
  let ψ : Phi := fun i => if i < B then φ1 i else match L[i - B]? with | some k => φ1 k | none => none
  have old : ∀ i, i < B → ψ i = φ1 i := fun i hi => if_pos hi
  have new : ∀ i p, B ≤ i → ψ i = some p → ∃ k, L[i - B]? = some k ∧ φ1 k = some p ∧ i < r.next ∧ B ≤ k ∧ k < h1.next := fun i p hi hp => by
    have hp : (if i < B then φ1 i else match L[i - B]? with | some k => φ1 k | none => none) = some p := hp
    rw [if_neg (by omega)] at hp
    cases hk : L[i - B]? with
    | none => rw [hk] at hp; cases hp
    | some k =>
      rw [hk] at hp
      have hlt := (List.getElem?_eq_some_iff.1 hk).1
      have := c4 k (List.mem_of_getElem? hk)
      exact ⟨k, rfl, hp, by omega, this.1, this.2⟩
  have hq : ∀ i j, qOf B L i j = true → ∀ p, φ1 i = some p → ψ j = some p := fun i j hij p hp => by
    unfold qOf at hij
    cases hb : Nat.blt j B with
    | true =>
      rw [hb] at hij
      have hij := AZ.1 hij
      rw [← hij] at hb ⊢
      rw [old i (A3.1 hb)]; exact hp
    | false =>
      rw [hb] at hij
      have hj : ¬ j < B := fun h => by rw [A3.2 h] at hb; cases hb
      rw [Pg] at hij
      have hs : Nat.sub j B = j - B := rfl
      rw [hs] at hij
      show (if j < B then φ1 j else match L[j - B]? with | some k => φ1 k | none => none) = some p
      rw [if_neg hj]
      cases hk : L[j - B]? with
      | none => rw [hk] at hij; cases hij
      | some k =>
        rw [hk] at hij
        have hij : i = k := AZ.1 hij
        rw [← hij]; exact hp
  have f1 : ∀ i p, i < B → φ1 i = some p → φ i = some p := fun i p hi hp => by
    rcases E.new i p hp with h2 | h2
    · exact h2
    · rw [hrn] at h2; omega
  have same1 : ∀ i, i < lo → i < B → h1.bl.get i = h.bl.get i := fun i hi hb => by
    have := E.kept i (by rw [hrn]; exact hb) (.inl (by omega))
    rw [this, hrb]
  have mid : ∀ i, lo ≤ i → i < B → GX (qOf B L) (h1.bl.get i) (r.bl.get i) = true ∧ (h.bl.get i = r.bl.get i ∨ GX (qOf B L) (h.bl.get i) (r.bl.get i) = false) := fun i h3 h4 => by
    have hx : OC (qOf B L) h.bl h1.bl r.bl i = true := c5 i h3 h4
    unfold OC at hx
    obtain ⟨x1, x2⟩ := Af hx
    refine ⟨x1, ?_⟩
    cases hy : eqB (h.bl.get i) (r.bl.get i) with
    | true => exact .inl (aG hy)
    | false =>
      rw [hy] at x2
      right
      cases hz : GX (qOf B L) (h.bl.get i) (r.bl.get i) with
      | true => rw [hz] at x2; cases x2
      | false => rfl
  have hBr : B ≤ r.next := by omega
  have hle : φ.Le ψ := fun i p hp => by
    have := (H.dom i p hp).1
    rw [old i (by omega)]; exact E.le i p hp
  have src : ∀ i p, ψ i = some p → r.bl.get i ≠ .dead → ∃ k, φ1 k = some p ∧ h1.bl.get k ≠ .dead ∧ ((i < B ∧ k = i) ∨ (B ≤ i ∧ B ≤ k ∧ L[i - B]? = some k)) := fun i p hp hl => by
    by_cases hi : i < B
    · rw [old i hi] at hp
      refine ⟨i, hp, ?_, .inl ⟨hi, rfl⟩⟩
      by_cases hl2 : i < lo
      · rw [same1 i hl2 hi, ← hlo i hl2]; exact hl
      · exact KO (mid i (by omega) hi).1 hl
    · obtain ⟨k, hk, hp, _, hb, _⟩ := new i p (by omega) hp
      refine ⟨k, hp, ?_, .inr ⟨by omega, hb, hk⟩⟩
      have := c6 (i - B) k hk
      rw [show B + (i - B) = i by omega] at this
      exact KO this hl
  have frame : ∀ k, k < w.heap.size → (∀ i p, φ i = some p → p.inp = false → r.low ≤ i → i ≤ r.high → Live h i → p.blk ≠ k) → w1.heap[k]? = w.heap[k]? := fun k hk hf => E.frame k hk fun i p hp hn h3 h4 hl => by
    have hd := (H.dom i p hp).1
    refine hf i p hp hn (by omega) (by omega) ?_
    unfold Live at hl ⊢
    rw [hrb] at hl; exact hl
  refine ⟨ψ, {
    dom := fun i p hp => by
      by_cases hi : i < B
      · rw [old i hi] at hp; exact ⟨by omega, (H1.dom i p hp).2⟩
      · obtain ⟨k, _, hp, hlt, _, _⟩ := new i p (by omega) hp
        exact ⟨hlt, (H1.dom k p hp).2⟩
    inj := fun i j p q hp hq2 _ _ hi hj hio hpq => by
      obtain ⟨k, k1, k2, k3⟩ := src i p hp hi
      obtain ⟨l, l1, l2, l3⟩ := src j q hq2 hj
      have hkl := H1.inj k l p q k1 l1 (fun h => h) (fun h => h) k2 l2 hio hpq
      rcases k3 with ⟨a1, a2⟩ | ⟨a1, a2, a3⟩ <;> rcases l3 with ⟨b1, b2⟩ | ⟨b1, b2, b3⟩
      · omega
      · omega
      · omega
      · rw [← hkl] at b3
        have := Ma c3 a3 b3
        omega
    row := fun i p hp _ => by
      by_cases hi : i < B
      · rw [old i hi] at hp
        by_cases hl : i < lo
        · have hpo := f1 i p hi hp
          rw [hlo i hl]
          by_cases hd : h.bl.get i = .dead
          · rw [hd]; exact .dead
          · have hw : w1.heap[p.blk]? = w.heap[p.blk]? := E.frame p.blk (H.dom i p hpo).2 fun j x hx hn h3 h4 hlv hb => by
              have := H.inj j i x p hx hpo (fun h => h) (fun h => h) (by unfold Live at hlv ⊢; rw [hrb] at hlv; exact hlv) hd (.inl hn) hb
              omega
            rw [hw]
            exact (H.row i p hpo (fun h => h)).mono hle
        · exact MK hq (mid i (by omega) hi).1 (H1.row i p hp (fun h => h))
      · obtain ⟨k, hk, hp, _, _, _⟩ := new i p (by omega) hp
        have := c6 (i - B) k hk
        rw [show B + (i - B) = i by omega] at this
        exact MK hq this (H1.row k p hp (fun h => h))
    fresh := fun i hi => by rw [hfr i hi]; exact H.fresh i (by omega)
    kind := fun i p c s e hp he => by
      by_cases hi : i < B
      · rw [old i hi] at hp
        by_cases hl : i < lo
        · rw [hlo i hl] at he
          exact H.kind i p c s e (f1 i p hi hp) he
        · have := (mid i (by omega) hi).1
          rw [he] at this
          obtain ⟨c', hc'⟩ := JC this
          exact H1.kind i p c' s e hp hc'
      · obtain ⟨k, hk, hp, _, _, _⟩ := new i p (by omega) hp
        have := c6 (i - B) k hk
        rw [show B + (i - B) = i by omega, he] at this
        obtain ⟨c', hc'⟩ := JC this
        exact H1.kind k p c' s e hp hc'
    inp := fun i p hp hn => by
      by_cases hi : i < B
      · rw [old i hi] at hp; exact H1.inp i p hp hn
      · obtain ⟨k, hk, hp, _, hb, _⟩ := new i p (by omega) hp
        have := H1.inp k p hp hn
        omega }, {
    le := hle
    new := fun i p hp => by
      by_cases hi : i < B
      · rw [old i hi] at hp; exact .inl (f1 i p hi hp)
      · right; omega
    next := by omega
    size := E.size
    tape := E.tape
    os := E.os
    output := E.output
    frame := frame
    back := fun i p hp hl hs => by
      obtain ⟨k, k1, k2, k3⟩ := src i p hp hl
      obtain ⟨j, q, hj, hjl, e1, e2, hor⟩ := E.back k p k1 k2 hs
      have hd := (H.dom j q hj).1
      refine ⟨j, q, hj, by unfold Live at hjl ⊢; rw [hrb] at hjl; exact hjl, e1, e2, ?_⟩
      rcases hor with rfl | ⟨h3, h4⟩
      · rcases k3 with ⟨a1, a2⟩ | ⟨a1, a2, a3⟩
        · exact .inl a2
        · omega
      · exact .inr ⟨by omega, by omega⟩
    kept := fun i hi ho => hlo i (by omega)
    low := rlow.2
    high := rhigh.2
    shape := fun i hi => by
      have hi : i < B := by omega
      by_cases hl : i < lo
      · rw [hlo i hl]; exact .refl _
      · have h3 := E.shape i (by rw [hrn]; exact hi)
        rw [hrb] at h3
        exact h3.trans (OA (mid i (by omega) hi).1)
    only := fun i hi h0 => by
      have hi : i < B := by omega
      by_cases hl : i < lo
      · exact hlo i hl
      · have h3 := E.only i (by rw [hrn]; exact hi) h0
        rw [hrb] at h3
        obtain ⟨x1, x2⟩ := mid i (by omega) hi
        rw [h3] at x1
        rcases x2 with x2 | x2
        · exact x2.symm
        · rw [x1] at x2; cases x2
    all := fun i h3 h4 => by
      have hlt : i - B < L.length := by omega
      have hk : L[i - B]? = some L[i - B] := List.getElem?_eq_getElem hlt
      have hb := c4 _ (List.getElem_mem hlt)
      obtain ⟨p, hp⟩ := E.all L[i - B] (by rw [hrn]; exact hb.1) hb.2
      refine ⟨p, ?_⟩
      show (if i < B then φ1 i else match L[i - B]? with | some k => φ1 k | none => none) = some p
      rw [if_neg (by omega), hk]
      exact hp }⟩
end
end Go.Proofs.YtfeldadhbnmklaaGreat
set_option linter.unusedSimpArgs false
set_option linter.unusedVariables false
namespace Go.Proofs.YtfeldadhbnmklaaGreat
noncomputable section
open Go
def Ag (S : List Nat) (e e' : Env) : Prop := ∀ t, t < 320 → t ∉ S → e'.get t = e.get t
theorem Ag.refl (S : List Nat) (e : Env) : Ag S e e := fun _ _ _ => rfl
theorem Ag.trans {S : List Nat} {e e1 e2 : Env} (h : Ag S e e1) (h2 : Ag S e1 e2) : Ag S e e2 := fun t ht hn => (h2 t ht hn).trans (h t ht hn)
def En (S : List Nat) (e : Env) : X → Prop
  | .no => True
  | .norm e' _ => Ag S e e'
  | .exit _ e' _ => Ag S e e'
  | .ret e' _ => Ag S e e'
theorem En.of {S : List Nat} {e e1 : Env} {x : X} (h : Ag S e e1) (h2 : En S e1 x) : En S e x := by
  cases x with
  | no => trivial
  | norm _ _ => exact h.trans h2
  | exit _ _ _ => exact h.trans h2
  | ret _ _ => exact h.trans h2
def Be (S : List Nat) (c : C) : Prop := ∀ F e h, En S e (c F e h)
theorem HT {S : List Nat} {d : Nat} (hd : d ∈ S) (hl : d < 320) (v : Value) (e : Env) : Ag S e (Env.set d v e) := fun t ht hn => by
  rw [Env.get_set _ _ _ _ hl ht, if_neg (by rintro rfl; exact hn hd)]
theorem Gj {S : List Nat} : ∀ (l : List Nat) (e : Env), (∀ d ∈ l, d ∈ S ∧ d < 320) → Ag S e (Bg e l)
  | [], e, _ => .refl _ _
  | d :: l, e, h => (HT (h d List.mem_cons_self).1 (h d List.mem_cons_self).2 _ e).trans (Gj l _ fun d hd => h d (List.mem_cons_of_mem _ hd))
theorem RK {S : List Nat} : ∀ (l : List (Nat × Value)) (e : Env), (∀ d ∈ l, d.1 ∈ S ∧ d.1 < 320) → Ag S e (QQ e l)
  | [], e, _ => .refl _ _
  | d :: l, e, h => (HT (h d List.mem_cons_self).1 (h d List.mem_cons_self).2 _ e).trans (RK l _ fun d hd => h d (List.mem_cons_of_mem _ hd))
section
variable {S : List Nat}
theorem CA : Be S cNo := fun _ _ _ => trivial
theorem OG : Be S AO := fun _ e _ => .refl _ e
theorem QP : Be S AU := fun _ e _ => .refl _ e
theorem OD (id : Nat) : Be S (At id) := fun _ e _ => .refl _ e
theorem MN {d : Nat} {f : OpF} {k : C} (hd : d ∈ S) (hl : d < 320) (hk : Be S k) : Be S (cOp (AD d) f k) := fun F e h => by
  unfold cOp
  cases f F e h with
  | no => trivial
  | ok v h' =>
    show En S e (AD d (fun e => k F e h') v e)
    rw [C1 d hl]
    exact .of (HT hd hl v e) (hk F _ h')
theorem SW {f : OpF} {k : C} (hk : Be S k) : Be S (cDo f k) := fun F e h => by
  unfold cDo
  cases f F e h with
  | no => trivial
  | ok v h' => exact hk F e h'
theorem Vv {g : Env → Value} {w : Bool} {d : Nat} {f : OpF} {k : C} (hd : d ∈ S) (hl : d < 320) (hk : Be S k) : Be S (cG g w (AD d) f k) := fun F e h => by
  have h0 : En S e (AD d (fun e => k F e h) noRes e) := by
    rw [C1 d hl]
    exact .of (HT hd hl _ e) (hk F _ h)
  unfold cG
  split
  · rename_i b _
    cases (w == b) with
    | true => exact MN hd hl hk F e h
    | false => exact h0
  · exact h0
  · trivial
theorem Hi {w : Env → Value} {rs : List (Env → Value)} {k : C} (hk : Be S k) : Be S (B7 w rs k) := fun F e h => by
  unfold B7
  split
  · rename_i b _
    cases DS b e rs with
    | true => exact hk F e h
    | false => trivial
  · exact hk F e h
theorem QO {x : O} {k : C} (hk : Be S k) : Be S (Cn x k) := fun F e h => by
  unfold Cn
  split
  · rename_i b _
    cases Nat.blt b h.mark with
    | true => exact hk F e h
    | false => trivial
  · exact hk F e h
theorem OE {k : C} (hk : Be S k) : Be S (Ar k) := fun F e h => hk F e _
theorem KT {a b : C} (ha : Be S a) (hb : Be S b) : Be S (Al a b) := fun F e h => by
  have := ha F e h
  unfold Al
  cases hx : a F e h with
  | no => trivial
  | norm e1 h1 => rw [hx] at this; exact .of this (hb F e1 h1)
  | exit i e1 h1 => rw [hx] at this; exact this
  | ret e1 h1 => rw [hx] at this; exact this
theorem GY {c : O} {a b : C} (ha : Be S a) (hb : Be S b) : Be S (AJ c a b) := fun F e h => by
  show En S e (Xx (c e) (a F e h) (b F e h))
  cases c e <;> first | trivial | skip
  rename_i t
  cases t with
  | true => exact ha F e h
  | false => exact hb F e h
theorem H8 {id : Nat} {a : C} (ha : Be S a) : Be S (AK id a) := fun F e h => by
  have := ha F e h
  unfold AK
  cases hx : a F e h with
  | no => trivial
  | norm e1 h1 => rw [hx] at this; exact this
  | exit i e1 h1 =>
    rw [hx] at this
    show En S e (bif Nat.beq i id then .norm e1 h1 else .exit i e1 h1)
    cases Nat.beq i id <;> exact this
  | ret e1 h1 => rw [hx] at this; exact this
theorem JF {a : C} (ha : Be S a) : ∀ n, Be S (iter a n)
  | 0 => fun _ _ _ => trivial
  | n + 1 => fun F e h => by
    have := ha F e h
    unfold iter
    cases hx : a F e h with
    | no => trivial
    | norm e1 h1 => rw [hx] at this; exact .of this (JF ha n F e1 h1)
    | exit i e1 h1 => rw [hx] at this; exact this
    | ret e1 h1 => rw [hx] at this; exact this
theorem JG {a : C} (ha : Be S a) : Be S (Aj a) := JF ha rounds
theorem Ft {e : Env} : ∀ {l : List Nat}, ∀ d ∈ Dm e l, d.1 ∈ l
  | s :: l, d, hd => by
    unfold Dm at hd
    have ih : d ∈ Dm e l → d.1 ∈ s :: l := fun h => List.mem_cons_of_mem _ (Ft d h)
    split at hd
    · rcases List.mem_cons.1 hd with rfl | hd
      · exact List.mem_cons_self
      · exact ih hd
    · rcases List.mem_cons.1 hd with rfl | hd
      · exact List.mem_cons_self
      · exact ih hd
    · exact ih hd
theorem Ed {k : Walk} {body : C} {F : CallF} {e : Env} {h : Hp} {b m last : Nat} : ∀ {es : List Ent} {acc : WR} {vs : List (Nat × Value)}, (∀ us, acc = .stop us → ∀ d ∈ us, d.1 ∈ k.rs) → EH k body F e h b m last es acc = .stop vs → ∀ d ∈ vs, d.1 ∈ k.rs
  | [], acc, vs, ha, hr => ha vs hr
  | x :: l, acc, vs, ha, hr => by
    unfold EH at hr
    split at hr
    case h_2 => cases hr
    split at hr
    · rename_i h1 _
      cases hb : Nat.ble h.next h1.low with
      | false => rw [hb] at hr; cases hr
      | true => rw [hb] at hr; exact Ed ha hr
    · rename_i e1 h1 _
      cases hb : Nat.ble h.next h1.low with
      | false => rw [hb] at hr; cases hr
      | true =>
        rw [hb] at hr
        have hr : Fv k e1 acc (EH k body F e h b m last l) = .stop vs := hr
        unfold Fv at hr
        cases acc with
        | go => exact Ed (fun ws hw => by cases hw; exact Ft) hr
        | stop ws =>
          cases hs : Jf ws (Dm e1 k.rs) with
          | false => simp only [hs] at hr; cases hr
          | true => simp only [hs] at hr; exact Ed ha hr
        | no => cases hr
    · cases hr
theorem C8 {e : Env} {c : Bool} {x : X} (hx : En S e x) : En S e (bif c then x else .no) := by
  cases c
  · trivial
  · exact hx
theorem OH {k : Walk} {a : C} (hw : ∀ d ∈ k.ws, d ∈ S ∧ d < 320) (hm : k.more ∈ S ∧ k.more < 320) (hr : ∀ d ∈ k.rs, d ∈ S ∧ d < 320) (ha : Be S a) : Be S (J2 k a) := fun F e h => by
  have hl := JG ha F e h
  have hat : ∀ ad m since last es c, En S e (Gi k a F e h ad m since last es c) := fun ad m since last es c => by
    unfold Gi
    refine C8 (C8 (C8 (C8 (C8 ?_))))
    unfold Lg
    cases h.bl.set ad.block .dead with
    | none => trivial
    | some bl =>
      simp only
      cases hvs : EH k a F e h ad.block m last es .go with
      | no => trivial
      | go => exact (Gj _ _ hw).trans (HT hm.1 hm.2 _ _)
      | stop vs =>
        have h1 := Ed (fun us h => by cases h) hvs
        exact (Gj _ _ hw).trans (RK _ _ fun d hd => hr _ (h1 d hd))
  have hal : ∀ b, En S e (Fx k a F e h b) := fun b => by
    unfold Fx
    cases K1 k a F e b 5 { next := h.next, low := h.next, high := 0, mark := h.mark, bl := h.bl } [] with
    | none => trivial
    | some p =>
      simp only
      cases p.1.bl.set b .dead with
      | none => trivial
      | some bc =>
        simp only
        cases J4 bc (Nat.sub p.1.next p.1.low) p.1.low h.bl with
        | none => trivial
        | some br => exact C8 ((Gj _ _ hw).trans (HT hm.1 hm.2 _ _))
  unfold J2
  cases AB k.it e <;> first | trivial | skip
  rename_i o
  cases o with
  | none => trivial
  | some ad =>
    simp only
    cases Eu (h.bl.get ad.block) with
    | ok m since seen last =>
      cases m with
      | none => exact hl
      | some m =>
        cases seen with
        | cons _ _ => trivial
        | nil =>
          simp only
          cases Bv h m with
          | no => trivial
          | ok es c =>
            cases es with
            | nil => exact hl
            | cons x l =>
              cases l with
              | nil => exact hl
              | cons y l =>
                show En S e (match Gi k a F e h ad m since last (x :: y :: l) c with
                  | .no => bif Nat.beq ad.off 0 then (bif Nat.ble 256 ad.block then Fx k a F e h ad.block else .no) else .no
                  | x => x)
                have h1 := hat ad m since last (x :: y :: l) c
                cases hx : Gi k a F e h ad m since last (x :: y :: l) c with
                | no => exact C8 (C8 (hal _))
                | norm _ _ => rw [hx] at h1; exact h1
                | exit _ _ _ => rw [hx] at h1; exact h1
                | ret _ _ => rw [hx] at h1; exact h1
    | _ => exact hl
end
theorem SC {o : Oper} {d : Nat} (hd : o.dst = some d) : ∀ (l : List Oper), o ∈ l → d ∈ FW l := by
  intro l
  induction l with
  | nil => intro h; cases h
  | cons p l ih =>
    intro h
    unfold FW
    rcases List.mem_cons.1 h with h | h
    · rw [← h, hd]; exact List.mem_cons_self
    · have := ih h
      split
      · exact List.mem_cons_of_mem _ this
      · exact this
theorem DJ : ∀ {c : Code} {d : Nat}, d ∈ Ge c → d ∈ wrs c
  | .seq a b, d, h => by
    have h0 : d ∈ Ge a ++ Ge b → d ∈ wrs a ++ wrs b := fun h => by
      rcases List.mem_append.1 h with h | h
      · exact List.mem_append_left _ (DJ h)
      · exact List.mem_append_right _ (DJ h)
    unfold Ge at h
    split at h
    · split at h
      · exact List.mem_append_left _ h
      · exact List.mem_append_left _ (DJ h)
    · exact h0 h
  | .cond _ a b, d, h => by
    have h : d ∈ Ge a ++ Ge b := h
    rcases List.mem_append.1 h with h | h
    · exact List.mem_append_left _ (DJ h)
    · exact List.mem_append_right _ (DJ h)
  | .block _ a, d, h => DJ (c := a) h
  | .loop a, d, h => DJ (c := a) h
  | .scope a, d, h => DJ (c := a) h
  | .region _ _ _, d, h => by cases h
  | .skip, d, h => by cases h
  | .exit _, d, h => by cases h
  | .ret, d, h => by cases h
  | .rangeFunc _ _ _ _, d, h => by cases h
  | .label _, d, h => by cases h
  | .goto _, d, h => by cases h
  | .refuse _, d, h => by cases h
theorem PC : ∀ {l : List Nat}, VZ l = true → ∀ d ∈ l, d < 320
  | d :: l, h, x, hx => by
    unfold VZ at h
    split at h
    · rename_i hb
      rcases List.mem_cons.1 hx with rfl | hx
      · exact A3.1 hb
      · exact PC h x hx
    · cases h
structure WalkIs (A : List Nat) (a : Code) (k : Walk) (id : Nat) (o1 o2 : Oper) (r2 : Code) : Prop where
  code : a = .seq (.region id #[o1, o2] false) (.seq (.cond (.tmp k.more) .skip (.exit k.out)) r2)
  op1 : o1.op = .next (.tmp k.it) false
  dst1 : o1.dst = some k.nx
  grd1 : o1.guard = none
  op2 : o2.op = .extract (.tmp k.nx) 0
  dst2 : o2.dst = some k.more
  grd2 : o2.guard = none
  ne : k.nx ≠ k.more
  itA : memN k.it A = false
  nxA : memN k.nx A = false
  moA : memN k.more A = false
  itL : k.it < 320
  nxL : k.nx < 320
  moL : k.more < 320
  ws : k.ws = wrs a
  itW : k.it ∉ k.ws
  few : ∀ d ∈ k.ws, d < 320
  rs : ∀ d ∈ k.rs, d ∈ k.ws
theorem JJ {t : Nat} : ∀ {l : List Nat}, memN t l = false → t ∉ l
  | d :: l, h, hm => by
    unfold memN at h
    split at h
    · cases h
    · rename_i hb
      rcases List.mem_cons.1 hm with rfl | hm
      · rw [Nat.beq_refl] at hb; cases hb
      · exact JJ h hm
theorem Wu {more out : Nat} {c : Code} (h : fJ more c = some out) : ∃ r2, c = .seq (.cond (.tmp more) .skip (.exit out)) r2 := by
  cases c with
  | seq a r => cases a with
    | cond c x y => cases c with
      | tmp t => cases x with
        | skip => cases y with
          | exit id =>
            have h : (match Nat.beq t more with | true => some id | false => none) = some out := h
            cases hb : Nat.beq t more with
            | false => rw [hb] at h; cases h
            | true =>
              rw [hb] at h
              cases h
              have := AZ.1 hb
              subst this
              exact ⟨r, rfl⟩
          | _ => cases h
        | _ => cases h
      | _ => cases h
    | _ => cases h
  | _ => cases h
theorem Nd {A : List Nat} {a : Code} {k : Walk} (h : P0 A a = some k) : ∃ id o1 o2 r2, WalkIs A a k id o1 o2 r2 := by
  unfold P0 at h
  split at h
  case h_2 => cases h
  rename_i x rest
  split at h
  case h_2 => cases h
  rename_i id ops draw
  split at h
  case h_2 => cases h
  unfold Pz at h
  split at h
  case h_2 => cases h
  rename_i o1 l1 hl0
  split at h
  case h_2 => cases h
  rename_i o2 l2
  split at h
  case h_2 => cases h
  split at h
  case h_2 => cases h
  rename_i x str hop1
  split at h
  case h_2 => cases h
  rename_i it
  split at h
  case h_2 => cases h
  split at h
  case h_2 => cases h
  rename_i nx hd1 hg1
  split at h
  case h_2 => cases h
  rename_i y i hop2
  split at h
  case h_2 => cases h
  rename_i n2
  split at h
  case h_2 => cases h
  rename_i more hd2 hg2
  split at h
  case h_2 => cases h
  rename_i hb
  split at h
  case h_2 => cases h
  rename_i out hout
  cases h
  simp only [Bool.and_eq_true, Bool.not_eq_true'] at hb
  obtain ⟨b1, b2, b3, b4, b5, b6, b7, b8, b9, b10, b11⟩ := hb
  obtain ⟨r2, rfl⟩ := Wu hout
  have e1 := AZ.1 b1
  have e2 := AZ.1 b2
  subst e1; subst e2
  have hops : ops = #[o1, o2] := Array.ext' hl0
  subst hops
  refine ⟨id, o1, o2, r2, { code := rfl, op1 := hop1, dst1 := hd1, grd1 := hg1, op2 := hop2, dst2 := hd2, grd2 := hg2, ne := Dt b3, itA := b4, nxA := b5, moA := b6, itL := A3.1 b7, nxL := A3.1 b8, moL := A3.1 b9, ws := ?_, itW := JJ b10, few := ?_, rs := ?_ }⟩
  · show _ = FW [o1, o2] ++ _
    simp only [FW, hd1, hd2]
    rfl
  · intro d hd
    rcases List.mem_cons.1 hd with rfl | hd
    · exact A3.1 b8
    · rcases List.mem_cons.1 hd with rfl | hd
      · exact A3.1 b9
      · exact PC b11 d hd
  · intro d hd
    exact List.mem_cons_of_mem _ (List.mem_cons_of_mem _ (DJ hd))
section
variable {ty : TTy} {A S : List Nat}
theorem Fk {f : Fr} {a : Ahead} {o : OpF} {k : OpF → C} (hk : ∀ p, Be S (k p)) : Be S (FY f a o k) := by
  unfold FY
  split
  · exact hk _
  · exact hk _
  · split
    · exact Hi (hk _)
    · exact CA
  · split
    · split
      · exact QO (Hi (hk _))
      · exact Hi (hk _)
    · exact CA
theorem Hj {all : List Oper} {k : Sg → C} (hk : ∀ σ, Be S (k σ)) : ∀ (l : List Oper) (ah : List Ahead) (σ : Sg), (∀ o ∈ l, ∀ d, o.dst = some d → d ∈ S) → Be S (FG ty A all k ah l σ)
  | [], ah, σ, _ => by unfold FG; exact hk σ
  | o :: l, ah, σ, h => by
    have ih : ∀ ah σ, Be S (FG ty A all k ah l σ) := fun ah σ => Hj hk l ah σ fun o ho => h o (List.mem_cons_of_mem _ ho)
    have hd := h o List.mem_cons_self
    unfold FG
    split
    · exact Fk fun p => SW (ih _ _)
    · rename_i d _ hdd
      split
      · split
        · split
          · exact ih _ _
          · exact CA
        · exact CA
      · split
        · rename_i hb
          exact Fk fun p => MN (hd d hdd) (A3.1 hb) (ih _ _)
        · exact CA
    · rename_i d _ hdd
      split
      · exact CA
      · split
        · split
          · split
            · split
              · rename_i hb
                exact Fk fun p => Vv (hd d hdd) (A3.1 hb) (ih _ _)
              · exact CA
            · exact CA
          · exact CA
        · exact CA
    · exact CA
theorem FB {k : Option (Sg → C)} (hk : ∀ k', k = some k' → ∀ σ, Be S (k' σ)) (σ : Sg) : Be S (ID k σ) := by
  cases k with
  | none => exact OG
  | some k => exact hk k rfl σ
theorem Bl : ∀ (c : Code) {σ : Sg} {k : Option (Sg → C)}, (∀ d ∈ wrs c, d ∈ S) → (∀ k', k = some k' → ∀ σ, Be S (k' σ)) → Be S (BH ty A c σ k)
  | .skip, σ, k, hw, hk => FB hk σ
  | .region _ ops draw, σ, k, hw, hk => by
    have ho : ∀ o ∈ ops.toList, ∀ d, o.dst = some d → d ∈ S := fun o ho d hd => hw d (SC hd _ ho)
    unfold BH
    split
    · exact Hj (fun σ => FB hk σ) _ _ _ ho
    · split
      · exact OE (Hj (fun σ => FB hk σ) _ _ _ ho)
      · exact CA
  | .seq a b, σ, k, hw, hk => by
    have h1 : ∀ d ∈ wrs a, d ∈ S := fun d hd => hw d (List.mem_append_left _ hd)
    have h2 : ∀ d ∈ wrs b, d ∈ S := fun d hd => hw d (List.mem_append_right _ hd)
    exact Bl a (σ := σ) (k := some fun σ => BH ty A b σ k) h1 fun k' e σ => by cases e; exact Bl b h2 hk
  | .cond c a b, σ, k, hw, hk => by
    have h1 : ∀ d ∈ wrs a, d ∈ S := fun d hd => hw d (List.mem_append_left _ hd)
    have h2 : ∀ d ∈ wrs b, d ∈ S := fun d hd => hw d (List.mem_append_right _ hd)
    unfold BH
    split
    · split
      · exact GY (Bl a h1 fun _ e => by cases e) (Bl b h2 fun _ e => by cases e)
      · rename_i k'
        split
        · exact KT (GY (Bl a h1 fun _ e => by cases e) (Bl b h2 fun _ e => by cases e)) (hk k' rfl [])
        · exact GY (Bl a h1 hk) (Bl b h2 hk)
    · exact CA
  | .block id a, σ, k, hw, hk => by
    have h1 : ∀ d ∈ wrs a, d ∈ S := hw
    unfold BH
    split
    · exact H8 (Bl a h1 fun _ e => by cases e)
    · rename_i k'
      exact KT (H8 (Bl a h1 fun _ e => by cases e)) (hk k' rfl [])
  | .loop a, σ, k, hw, hk => by
    have h1 : ∀ d ∈ wrs a, d ∈ S := hw
    have h2 : Be S (BH ty A a [] none) := Bl a h1 fun _ e => by cases e
    unfold BH
    split
    · rename_i k hk
      obtain ⟨id, o1, o2, r2, W⟩ := Nd hk
      have hm : ∀ d ∈ k.ws, d ∈ S ∧ d < 320 := fun d hd => ⟨h1 d (W.ws ▸ hd), W.few d hd⟩
      refine OH hm (hm _ ?_) (fun d hd => hm d (W.rs d hd)) h2
      rw [W.ws, W.code]
      show _ ∈ FW [o1, o2] ++ _
      simp [FW, W.dst1, W.dst2]
    · exact JG h2
  | .exit id, σ, k, hw, hk => OD id
  | .ret, σ, k, hw, hk => QP
  | .scope a, σ, k, hw, hk => Bl a (σ := σ) (k := k) hw hk
  | .label _, σ, k, hw, hk => FB hk σ
  | .rangeFunc _ _ _ _, σ, k, hw, hk => CA
  | .goto _, σ, k, hw, hk => CA
  | .refuse _, σ, k, hw, hk => CA
end
structure Good (ty : TTy) (A : List Nat) (N : Nat) (φ : Phi) (h : Hp) (w : World) (σ : Sg) (e : Env) (h' : Hp) (ψ : Phi) (a : Act) (w' : World) : Prop where
  sg : SgOk A σ
  rel : RelW ty ψ nil h' w'
  ar : AR N ψ (rhoOf A σ e) a
  evo : Evo φ h w ψ h' w'
section
variable {P : Program} {ty : TTy} {F : CallF} {A : List Nat} {N : Nat}
theorem W2 {σ : Sg} (hS : SgOk A σ) {e : Env} {t : Nat} {u : Value} (h : rhoOf A [] e t = some u) : rhoOf A σ e t = some u := by
  rw [DK] at h ⊢
  have h : (match memN t A with | true => none | false => match Nat.blt t 320 with | true => some (AB t e) | false => none) = some u := h
  cases hf : Cj t σ with
  | some s =>
    have := hS.mem _ (DU hf)
    simp only at this
    rw [this] at h; cases h
  | none => exact h
theorem AR.nil {φ : Phi} {σ : Sg} {e : Env} {a : Act} (hS : SgOk A σ) (h : AR N φ (rhoOf A σ e) a) : AR N φ (rhoOf A [] e) a := ⟨h.size, h.defs, fun t u hu => h.rel t u (W2 hS hu)⟩
theorem Good.nil {φ ψ : Phi} {h h' : Hp} {w w' : World} {σ : Sg} {e : Env} {a : Act} (g : Good ty A N φ h w σ e h' ψ a w') : Good ty A N φ h w [] e h' ψ a w' := ⟨.nil A, g.rel, g.ar.nil g.sg, g.evo⟩
theorem Good.trans {φ ψ χ : Phi} {h h' h2 : Hp} {w w' w2 : World} {σ σ2 : Sg} {e e2 : Env} {a a2 : Act} (g : Good ty A N φ h w σ e h' ψ a w') (g2 : Good ty A N ψ h' w' σ2 e2 h2 χ a2 w2) : Good ty A N φ h w σ2 e2 h2 χ a2 w2 :=
  ⟨g2.sg, g2.rel, g2.ar, g.evo.trans g2.evo⟩
structure Post (ty : TTy) (A : List Nat) (N : Nat) (F : CallF) (φ : Phi) (h : Hp) (w : World) (k : Option (Sg → C)) (X : X) (Q : Exit → Act → World → Prop) : Prop where
  go : ∀ k', k = some k' → ∀ σ e h' ψ a' w', Good ty A N φ h w σ e h' ψ a' w' → k' σ F e h' = X → Q .normal a' w'
  norm : k = none → ∀ e h' ψ a' w', Good ty A N φ h w [] e h' ψ a' w' → X = .norm e h' → Q .normal a' w'
  exit : ∀ id e h' ψ a' w', Good ty A N φ h w [] e h' ψ a' w' → X = .exit id e h' → Q (.exit id) a' w'
  ret : ∀ e h' ψ a' w', Good ty A N φ h w [] e h' ψ a' w' → X = .ret e h' → Q .ret a' w'
theorem Post.then {φ : Phi} {h : Hp} {w : World} {k : Option (Sg → C)} {X : X} {Q : Exit → Act → World → Prop} (p : Post ty A N F φ h w k X Q) {σ : Sg} {e : Env} {h' : Hp} {ψ : Phi} {a' : Act} {w' : World} (g : Good ty A N φ h w σ e h' ψ a' w') (hx : ID k σ F e h' = X) : Q .normal a' w' := by
  cases k with
  | none => exact p.norm rfl e h' ψ a' w' g.nil hx.symm
  | some k' => exact p.go k' rfl σ e h' ψ a' w' g hx
theorem Se {w : World} {pb mb clk : Nat} {seen : List Nat} {es : List MapEntry} {t : TypeId} (hw : w.heap[pb]? = some (.mapIter (some mb) clk ⟨seen⟩ clk)) (hm : w.heap[mb]? = some (.map ⟨es⟩ clk)) (hb : ∀ x ∈ es, x.born < clk) :
    ((∀ x ∈ es, x.born ∈ seen) ∧ (Instr.next (.pointer (some ⟨pb, 0, none⟩)) false t).run P w = .ok (.tuple #[.bool false]) w) ∨
    ∃ x ∈ es, x.born ∉ seen ∧ ∃ w1 : World, w1.heap = w.heap ∧ w1.tape = w.tape ∧ w1.os = w.os ∧ w1.output = w.output ∧
      (Instr.next (.pointer (some ⟨pb, 0, none⟩)) false t).run P w = .ok (.tuple #[.bool true, x.key, x.val]) { w1 with heap := w1.heap.setIfInBounds pb (.mapIter (some mb) clk ⟨seen ++ [x.born]⟩ clk) } := by
  have hstop : (!(⟨seen⟩ : Array Nat).isEmpty && !(⟨es⟩ : Array MapEntry).isEmpty && (⟨es⟩ : Array MapEntry).all (fun e => decide (e.born ≥ clk))) = false := by
    cases es with
    | nil => simp
    | cons x l =>
      have := hb x List.mem_cons_self
      simp [Nat.not_le.2 this]
  generalize hl : es.filter (fun e => !seen.contains e.born) = left
  have hmem : ∀ x ∈ left, x ∈ es ∧ x.born ∉ seen := fun x hx => by
    rw [← hl, List.mem_filter] at hx
    exact ⟨hx.1, by simpa using hx.2⟩
  have hlt : ∀ x ∈ left, x.born < clk := fun x hx => hb x (hmem x hx).1
  have f1 : (⟨es⟩ : Array MapEntry).filter (fun e => !(⟨seen⟩ : Array Nat).contains e.born) = ⟨left⟩ := by
    rw [← hl]; apply Array.ext'; simp
  have f2 : (⟨left⟩ : Array MapEntry).filter (fun e => decide (e.born < clk)) = ⟨left⟩ := by
    apply Array.ext'; rw [Array.toList_filter]
    exact List.filter_eq_self.2 fun x hx => by simpa using hlt x hx
  have f3 : (⟨left⟩ : Array MapEntry).filter (fun e => decide (e.born ≥ clk)) = #[] := by
    apply Array.ext'; rw [Array.toList_filter]
    exact List.filter_eq_nil_iff.2 fun x hx => by simpa using hlt x hx
  cases hc : left with
  | nil =>
    left
    refine ⟨fun x hx => ?_, ?_⟩
    · by_cases hs : x.born ∈ seen
      · exact hs
      · have : x ∈ left := by rw [← hl, List.mem_filter]; exact ⟨hx, by simpa using hs⟩
        rw [hc] at this; cases this
    · subst hc
      simp only [Instr.next, Sem.run_bind, BW hw rfl, Result.andThen_ok, BW hm rfl, hstop, Bool.false_eq_true, if_false, f1, f2, f3]
      simp [run_choose, Question.forced]
  | cons y ys =>
    right
    have hpos : 0 < left.length := by rw [hc]; simp
    have hne : (⟨left⟩ : Array MapEntry).isEmpty = false := by rw [hc]; simp
    have key : ∀ (i : Nat) (hi : i < left.length) (w1 : World), (choose (.mapNext left.length)).run P w = .ok i w1 → w1.heap = w.heap →
        (Instr.next (.pointer (some ⟨pb, 0, none⟩)) false t).run P w = .ok (.tuple #[.bool true, (left[i]).key, (left[i]).val]) { w1 with heap := w1.heap.setIfInBounds pb (.mapIter (some mb) clk ⟨seen ++ [(left[i]).born]⟩ clk) } := by
      intro i hi w1 hch hh
      have hcand : ((#[] : Array (Option MapEntry)) ++ ((⟨left⟩ : Array MapEntry) ++ #[]).map some)[i]? = some (some left[i]) := by
        simp [List.getElem?_eq_getElem hi]
      have hsz : ((#[] : Array (Option MapEntry)) ++ ((⟨left⟩ : Array MapEntry) ++ #[]).map some).size = left.length := by simp
      have hset := C6 (P := P) (w := w1) (ob' := .mapIter (some mb) clk ⟨seen ++ [(left[i]).born]⟩ clk) (by rw [hh]; exact hw) rfl
      simp only [Instr.next, Sem.run_bind, BW hw rfl, Result.andThen_ok, BW hm rfl, hstop, Bool.false_eq_true, if_false, f1, f2, f3, hne, hsz, hch, hcand]
      have hpush : (⟨seen⟩ : Array Nat).push (left[i]).born = ⟨seen ++ [(left[i]).born]⟩ := by apply Array.ext'; simp
      rw [hpush, hset]
      simp
    have pick : ∀ (i : Nat) (hi : i < left.length) (w1 : World), (choose (.mapNext left.length)).run P w = .ok i w1 → w1.heap = w.heap → w1.tape = w.tape → w1.os = w.os → w1.output = w.output →
        ∃ x ∈ es, x.born ∉ seen ∧ ∃ w1 : World, w1.heap = w.heap ∧ w1.tape = w.tape ∧ w1.os = w.os ∧ w1.output = w.output ∧
          (Instr.next (.pointer (some ⟨pb, 0, none⟩)) false t).run P w = .ok (.tuple #[.bool true, x.key, x.val]) { w1 with heap := w1.heap.setIfInBounds pb (.mapIter (some mb) clk ⟨seen ++ [x.born]⟩ clk) } := by
      intro i hi w1 hch h1 h2 h3 h4
      have := hmem left[i] (List.getElem_mem hi)
      exact ⟨left[i], this.1, this.2, w1, h1, h2, h3, h4, key i hi w1 hch h1⟩
    by_cases hf : left.length ≤ 1
    · exact pick 0 hpos w (by rw [run_choose]; simp [Question.forced, hf]) rfl rfl rfl rfl
    · exact pick (w.tape w.drawn (.mapNext left.length) % left.length) (Nat.mod_lt _ hpos) { w with drawn := w.drawn + 1 } (by rw [run_choose]; simp [Question.forced, hf, Question.cut]) rfl rfl rfl rfl
theorem HQ {o : Oper} (h : o.guard = none) (f : Nat → Option Bool) : Region.wanted o f = true := by
  unfold Region.wanted; rw [h]
theorem Wx (a : Act) (d : Nat) (v : Value) (t : Nat) : (a.put (some d) v).eval (.tmp t) = if d = t ∧ t < a.tmps.size then v else a.eval (.tmp t) := by
  show (a.put (some d) v).tmps.getD t undef = _
  rw [D9]
  by_cases h : d = t
  · subst h; simp [Act.eval]
  · rw [if_neg (fun h2 => h (Option.some.inj h2.1)), if_neg (fun h2 => h h2.1)]; rfl
theorem Kj {k : Walk} {a0 : Code} {id : Nat} {o1 o2 : Oper} {r2 : Code} (W : WalkIs A a0 k id o1 o2 r2) {a : Act} {w : World} {pb mb clk : Nat} {seen : List Nat} {es : List MapEntry}
    (hit : a.eval (.tmp k.it) = .pointer (some ⟨pb, 0, none⟩)) (hnx : k.nx < a.tmps.size) (hw : w.heap[pb]? = some (.mapIter (some mb) clk ⟨seen⟩ clk)) (hm : w.heap[mb]? = some (.map ⟨es⟩ clk)) (hb : ∀ x ∈ es, x.born < clk)
    {Q : Exit → Act → World → Prop} (hover : (∀ x ∈ es, x.born ∈ seen) → Q .normal ((a.put (some k.nx) (.tuple #[.bool false])).put (some k.more) (.bool false)) w)
    (hgo : ∀ x ∈ es, x.born ∉ seen → ∀ w1 : World, w1.heap = w.heap.setIfInBounds pb (.mapIter (some mb) clk ⟨seen ++ [x.born]⟩ clk) → w1.tape = w.tape → w1.os = w.os → w1.output = w.output →
      Q .normal ((a.put (some k.nx) (.tuple #[.bool true, x.key, x.val])).put (some k.more) (.bool true)) w1) :
    (Code.region id #[o1, o2] false).wp P Q a w := by
  refine wp_region_list ?_
  have hx1 : execOp a.eval o1 = (do pure (.value (← Instr.next (a.eval (.tmp k.it)) false o1.type))) := by unfold execOp; rw [W.op1]
  have two : ∀ (c : Bool) (vs : Array Value) (w1 : World), Q .normal ((a.put (some k.nx) (.tuple (#[.bool c] ++ vs))).put (some k.more) (.bool c)) w1 → wpList P #[o1, o2] Q [o2] (a.put (some k.nx) (.tuple (#[.bool c] ++ vs))) w1 := by
    intro c vs w1 hq
    unfold wpList
    rw [if_pos (HQ W.grd2 _)]
    refine .inl ?_
    have hx2 : execOp (a.put (some k.nx) (.tuple (#[.bool c] ++ vs))).eval o2 = (do pure (.value (← Instr.extract ((a.put (some k.nx) (.tuple (#[.bool c] ++ vs))).eval (.tmp k.nx)) 0))) := by unfold execOp; rw [W.op2]
    unfold Oper.wp
    rw [hx2, Wx, if_pos ⟨rfl, hnx⟩]
    have hex : (Instr.extract (.tuple (#[.bool c] ++ vs)) 0).run P w1 = .ok (.bool c) w1 := by
      have h0 : (#[Value.bool c] ++ vs)[0]? = some (.bool c) := by simp [Array.getElem?_append]
      simp only [Instr.extract, h0, Sem.run_pure]
    rw [Sem.run_bind, hex, Result.andThen_ok, Sem.run_pure, Oper.upon_value, W.dst2]
    exact hq
  show wpList P #[o1, o2] Q [o1, o2] a w
  rw [show wpList P #[o1, o2] Q [o1, o2] a w = (if Region.wanted o1 (yielded #[o1, o2] a.tmps) then o1.wp P a w (wpList P #[o1, o2] Q [o2]) Q ∨ (o1.asks P a w ∧ LetsOut Q) else wpList P #[o1, o2] Q [o2] (a.put o1.dst undef) w) from rfl]
  rw [if_pos (HQ W.grd1 _)]
  refine .inl ?_
  unfold Oper.wp
  rw [hx1, hit]
  rcases Se (P := P) (t := o1.type) hw hm hb with ⟨hall, hrun⟩ | ⟨x, hx, hns, w1, e1, e2, e3, e4, hrun⟩
  · rw [Sem.run_bind, hrun, Result.andThen_ok, Sem.run_pure, Oper.upon_value, W.dst1]
    exact two false #[] w (hover hall)
  · rw [Sem.run_bind, hrun, Result.andThen_ok, Sem.run_pure, Oper.upon_value, W.dst1]
    exact two true #[x.key, x.val] _ (hgo x hx hns _ (by rw [e1]) e2 e3 e4)
theorem Cw {φ : Phi} {e : Env} {a : Act} : AR N φ (rhoOf A [] e) a ↔ a.tmps.size = N ∧ a.defers = [] ∧ ∀ t, t < 320 → memN t A = false → RelV φ (e.get t) (a.tmps.getD t undef) := by
  have hr : ∀ t u, rhoOf A [] e t = some u ↔ (memN t A = false ∧ t < 320 ∧ e.get t = u) := fun t u => by
    rw [DK]
    show (match memN t A with | true => none | false => match Nat.blt t 320 with | true => some (AB t e) | false => none) = some u ↔ _
    cases memN t A with
    | true => simp
    | false =>
      cases hb : Nat.blt t 320 with
      | true =>
        have := A3.1 hb
        simp only [Bm t this, Option.some.injEq, true_and, this]
      | false =>
        have : ¬ t < 320 := fun h => by rw [A3.2 h] at hb; cases hb
        simp [this]
  constructor
  · exact fun h => ⟨h.size, h.defs, fun t ht hA => h.rel t _ ((hr t _).2 ⟨hA, ht, rfl⟩)⟩
  · exact fun ⟨h1, h2, h3⟩ => ⟨h1, h2, fun t u hu => by obtain ⟨q1, q2, rfl⟩ := (hr t u).1 hu; exact h3 t q2 q1⟩
theorem E7 : ∀ (l : List Nat) (e : Env) (t : Nat), (∀ d ∈ l, d < 320) → t < 320 → (Bg e l).get t = if t ∈ l then .chan none else e.get t
  | [], e, t, _, _ => by simp [Bg]
  | d :: l, e, t, hl, ht => by
    unfold Bg
    rw [E7 l _ t (fun d hd => hl d (List.mem_cons_of_mem _ hd)) ht, Env.get_set _ _ _ _ (hl d List.mem_cons_self) ht]
    by_cases h1 : t ∈ l
    · simp [h1]
    · by_cases h2 : t = d
      · simp [h1, h2]
      · simp [h1, h2]
theorem MP : ∀ (l : List (Nat × Value)) (e : Env) (t : Nat), (∀ d ∈ l, d.1 < 320) → t < 320 → (QQ e l).get t = e.get t ∨ (t, (QQ e l).get t) ∈ l
  | [], e, t, _, _ => .inl rfl
  | d :: l, e, t, hl, ht => by
    unfold QQ
    rcases MP l (Env.set d.1 d.2 e) t (fun d hd => hl d (List.mem_cons_of_mem _ hd)) ht with h | h
    · rw [h, Env.get_set _ _ _ _ (hl d List.mem_cons_self) ht]
      by_cases h2 : t = d.1
      · right
        rw [if_pos h2, h2]
        exact List.mem_cons_self
      · rw [if_neg h2]; exact .inl rfl
    · exact .inr (List.mem_cons_of_mem _ h)
theorem Ea {e : Env} : ∀ {l : List Nat}, ∀ p ∈ Dm e l, AB p.1 e = p.2 ∧ ∀ (φ ψ : Phi) (v' : Value), RelV φ p.2 v' → RelV ψ p.2 v'
  | s :: l, p, hp => by
    unfold Dm at hp
    split at hp
    · rename_i b hb
      rcases List.mem_cons.1 hp with rfl | hp
      · exact ⟨hb, fun φ ψ v' h => by cases h; exact .bool _⟩
      · exact Ea p hp
    · rename_i k n hb
      rcases List.mem_cons.1 hp with rfl | hp
      · exact ⟨hb, fun φ ψ v' h => by cases h; exact .int _ _⟩
      · exact Ea p hp
    · exact Ea p hp
theorem Jg : ∀ {us vs : List (Nat × Value)}, Jf us vs = true → us = vs
  | [], [], _ => rfl
  | [], _ :: _, h => by cases h
  | _ :: _, [], h => by cases h
  | (a, x) :: us, (b, y) :: vs, h => by
    unfold Jf at h
    obtain ⟨h1, h⟩ := Af h
    have h1 : a = b := AZ.1 h1
    subst h1
    simp only at h
    split at h
    · obtain ⟨h2, h3⟩ := Af h
      rw [eq_of_beq h2, Jg h3]
    · split at h
      · rename_i hk
        obtain ⟨h2, h3⟩ := Af h
        rw [Cp] at h2
        rw [Dh hk, eq_of_beq h2, Jg h3]
      · cases h
    · cases h
theorem HP {k : Walk} {body : C} {F : CallF} {e : Env} {h : Hp} {b m last : Nat} : ∀ {es : List Ent} {acc r : WR}, EH k body F e h b m last es acc = r → r ≠ .no →
    (∀ us, acc = .stop us → r = .stop us) ∧ ∀ x ∈ es, ∃ bl, h.bl.set b (.pick m x.born last none) = some bl ∧
      ((∃ e1 h1, body F (Bg e k.ws) { next := h.next, low := h.next, high := 0, mark := h.mark, bl := bl } = .norm e1 h1 ∧ h.next ≤ h1.low) ∨
       ∃ e1 h1, body F (Bg e k.ws) { next := h.next, low := h.next, high := 0, mark := h.mark, bl := bl } = .ret e1 h1 ∧ h.next ≤ h1.low ∧ r = .stop (Dm e1 k.rs))
  | [], acc, r, hr, hn => by
    have hr : acc = r := hr
    subst hr
    exact ⟨fun us h => h, fun x hx => by cases hx⟩
  | x :: l, acc, r, hr, hn => by
    unfold EH at hr
    split at hr
    case h_2 => exact absurd hr.symm hn
    rename_i bl hbl
    split at hr
    · rename_i e1 h1 hb
      cases hq : Nat.ble h.next h1.low with
      | false => rw [hq] at hr; exact absurd hr.symm hn
      | true =>
        rw [hq] at hr
        obtain ⟨q1, q2⟩ := HP hr hn
        refine ⟨q1, fun y hy => ?_⟩
        rcases List.mem_cons.1 hy with rfl | hy
        · exact ⟨bl, hbl, .inl ⟨e1, h1, hb, Ap.1 hq⟩⟩
        · exact q2 y hy
    · rename_i e1 h1 hb
      cases hq : Nat.ble h.next h1.low with
      | false => rw [hq] at hr; exact absurd hr.symm hn
      | true =>
        rw [hq] at hr
        have hr : Fv k e1 acc (EH k body F e h b m last l) = r := hr
        unfold Fv at hr
        cases acc with
        | go =>
          have hr : EH k body F e h b m last l (.stop (Dm e1 k.rs)) = r := hr
          obtain ⟨q1, q2⟩ := HP hr hn
          refine ⟨(fun us h => by cases h), fun y hy => ?_⟩
          rcases List.mem_cons.1 hy with rfl | hy
          · exact ⟨bl, hbl, .inr ⟨e1, h1, hb, Ap.1 hq, q1 _ rfl⟩⟩
          · exact q2 y hy
        | stop us =>
          cases hs : Jf us (Dm e1 k.rs) with
          | false => simp only [hs] at hr; exact absurd hr.symm hn
          | true =>
            simp only [hs] at hr
            have hr : EH k body F e h b m last l (.stop us) = r := hr
            have := Jg hs
            subst this
            obtain ⟨q1, q2⟩ := HP hr hn
            refine ⟨q1, fun y hy => ?_⟩
            rcases List.mem_cons.1 hy with rfl | hy
            · exact ⟨bl, hbl, .inr ⟨e1, h1, hb, Ap.1 hq, q1 _ rfl⟩⟩
            · exact q2 y hy
        | no => exact absurd hr.symm hn
    · exact absurd hr.symm hn
theorem FL {clk : Nat} : ∀ {es : List Ent} {lo : Nat}, FK clk lo es = true → ∀ x ∈ es, lo ≤ x.born ∧ x.born < clk
  | e :: l, lo, h, x, hx => by
    unfold FK at h
    obtain ⟨h1, h⟩ := Af h
    obtain ⟨h2, h⟩ := Af h
    have h1 := Ap.1 h1
    have h2 := A3.1 h2
    rcases List.mem_cons.1 hx with rfl | hx
    · exact ⟨h1, h2⟩
    · have := FL h x hx
      have h3 : e.born + 1 ≤ x.born := this.1
      exact ⟨by omega, this.2⟩
theorem IY {φ : Phi} : ∀ {es : List Ent} {es' : List MapEntry} {x' : MapEntry}, RelE φ es es' → x' ∈ es' → ∃ x ∈ es, x.born = x'.born
  | _, _, x', .cons (k := k) (v := v) (b := b) hk hv t, hx => by
    rcases List.mem_cons.1 hx with rfl | hx
    · exact ⟨⟨k, v, b⟩, List.mem_cons_self, rfl⟩
    · obtain ⟨x, h1, h2⟩ := IY t hx
      exact ⟨x, List.mem_cons_of_mem _ h1, h2⟩
theorem Jc {φ : Phi} {clk : Nat} : ∀ {es : List Ent} {es' : List MapEntry} {lo : Nat} {x' : MapEntry}, RelE φ es es' → FK clk lo es = true → x' ∈ es' → ∃ x, GI x'.born es = some x ∧ RelV φ x.key x'.key ∧ RelV φ x.val x'.val
  | _, _, lo, x', .cons (k := k) (v := v) (b := b) (l := l) hk hv t, hr, hx => by
    unfold GI
    rcases List.mem_cons.1 hx with rfl | hx
    · rw [Nat.beq_refl]; exact ⟨_, rfl, hk, hv⟩
    · unfold FK at hr
      obtain ⟨_, hr⟩ := Af hr
      obtain ⟨_, hr⟩ := Af hr
      obtain ⟨y, hy, he⟩ := IY t hx
      have h3 : b + 1 ≤ y.born := (FL hr y hy).1
      have hb : Nat.beq b x'.born = false := by
        cases hb : Nat.beq b x'.born with
        | false => rfl
        | true => have := AZ.1 hb; omega
      rw [hb]
      exact Jc t hr hx
theorem Nf {k : Walk} {body : C} {F : CallF} {e : Env} {h : Hp} {b m last : Nat} : ∀ {es : List Ent} {acc r : WR}, EH k body F e h b m last es acc = r → r ≠ .no →
    (∀ x ∈ es, ∀ bl, h.bl.set b (.pick m x.born last none) = some bl → ∃ e1 h1, body F (Bg e k.ws) { next := h.next, low := h.next, high := 0, mark := h.mark, bl := bl } = .norm e1 h1) → r = acc
  | [], acc, r, hr, hn, _ => hr.symm
  | x :: l, acc, r, hr, hn, hg => by
    unfold EH at hr
    split at hr
    case h_2 => exact absurd hr.symm hn
    rename_i bl hbl
    obtain ⟨e1, h1, he⟩ := hg x List.mem_cons_self bl hbl
    rw [he] at hr
    simp only at hr
    cases hq : Nat.ble h.next h1.low with
    | false => rw [hq] at hr; exact absurd hr.symm hn
    | true => rw [hq] at hr; exact Nf hr hn fun y hy => hg y (List.mem_cons_of_mem _ hy)
theorem UE {k : Walk} {a0 : Code} {id : Nat} {o1 o2 : Oper} {r2 : Code} (W : WalkIs A a0 k id o1 o2 r2) :
    BH ty A a0 [] none = cOp (AD k.nx) (G9 (AB k.it)) (cOp (AD k.more) (AN 0 (AB k.nx)) (BH ty A (.seq (.cond (.tmp k.more) .skip (.exit k.out)) r2) [] none)) := by
  have hA : ∀ t, memN t A = false → t < 320 → cO ⟨A, []⟩ (.tmp t) = some (AB t) := fun t h1 h2 => by
    show (match LU A [] (.tmp t) with | some s => some (IK s) | none => none) = _
    show (match (match memN t A with | true => none | false => match Nat.blt t 320 with | true => some (Src.s t) | false => none) with | some s => some (IK s) | none => none) = _
    rw [h1, A3.2 h2]
    rfl
  rw [W.code]
  show BH ty A (.region id #[o1, o2] false) [] (some fun σ => BH ty A (.seq (.cond (.tmp k.more) .skip (.exit k.out)) r2) σ none) = _
  show FG ty A [o1, o2] (ID (some fun σ => BH ty A (.seq (.cond (.tmp k.more) .skip (.exit k.out)) r2) σ none)) [] [o1, o2] [] = _
  unfold FG
  rw [W.grd1, W.dst1]
  simp only [W.nxA, A3.2 W.nxL]
  unfold FG
  rw [W.grd2, W.dst2]
  simp only [W.moA, A3.2 W.moL]
  have e1 : opC ty ⟨A, []⟩ o1.op = G9 (AB k.it) := by
    rw [W.op1]
    show w1 ⟨A, []⟩ (.tmp k.it) (fun x => G9 x) = _
    unfold w1
    rw [hA _ W.itA W.itL]
  have e2 : opC ty ⟨A, ET k.nx []⟩ o2.op = AN 0 (AB k.nx) := by
    rw [W.op2]
    show w1 ⟨A, []⟩ (.tmp k.nx) (fun t => AN 0 t) = _
    unfold w1
    rw [hA _ W.nxA W.nxL]
  rw [e1, e2]
  rfl
theorem Rh {t : (Env → X) → Value → Env → X} {f : OpF} {k : C} {e : Env} {h h' : Hp} {v : Value} (hf : f F e h = .ok v h') : cOp t f k F e h = t (fun e => k F e h') v e := by
  unfold cOp
  rw [hf]
theorem Zi {t : (Env → X) → Value → Env → X} {f : OpF} {k : C} {e : Env} {h : Hp} (hf : f F e h = .no) : cOp t f k F e h = .no := by
  unfold cOp
  rw [hf]
theorem Pp {k : Walk} {a0 : Code} {id : Nat} {o1 o2 : Oper} {r2 : Code} (W : WalkIs A a0 k id o1 o2 r2) {e : Env} {h : Hp} {ad : Addr} {m s last c lo hi mk : Nat} {es : List Ent} {x : Ent} {bl : BT} {sn : Option (List Nat)} {Y : Go.Proofs.YtfeldadhbnmklaaGreat.X}
    (hit : AB k.it e = .pointer (some ad)) (hoff : Nat.beq ad.off 0 = true) (hm : Bv h m = .ok es c) (hmb : m ≠ ad.block) (hx : GI s es = some x) (hbl : h.bl.set ad.block (.pick m s last sn) = some bl)
    (hr : BH ty A a0 [] none F e { next := h.next, low := lo, high := hi, mark := mk, bl := bl } = Y) (hn : Y ≠ .no) :
    ∃ bl', bl.set ad.block (M5 m s last sn) = some bl' ∧
      BH ty A (.seq (.cond (.tmp k.more) .skip (.exit k.out)) r2) [] none F (Env.set k.more (.bool true) (Env.set k.nx (.tuple ⟨[.bool true, x.key, x.val]⟩) e)) { next := h.next, low := lo, high := hi, mark := mk, bl := bl' } = Y := by
  rw [UE W] at hr
  have hb : bl.get ad.block = .pick m s last sn := by rw [BT.get_set _ _ _ _ hbl, if_pos rfl]
  have hme : Bv ({ next := h.next, low := lo, high := hi, mark := mk, bl := bl } : Hp) m = .ok es c := by
    show aE (bl.get m) = _
    rw [BT.get_set _ _ _ _ hbl, if_neg hmb]; exact hm
  have hnx : G9 (AB k.it) F e { next := h.next, low := lo, high := hi, mark := mk, bl := bl } = match bl.set ad.block (M5 m s last sn) with
      | some bl' => .ok (.tuple ⟨[.bool true, x.key, x.val]⟩) { next := h.next, low := lo, high := hi, mark := mk, bl := bl' }
      | none => .no := by
    unfold G9
    rw [hit]
    show (bif Nat.beq ad.off 0 then MY ad _ else .no) = _
    rw [hoff]
    show MY ad _ = _
    unfold MY
    simp only
    rw [hb]
    show (match Bv ({ next := h.next, low := lo, high := hi, mark := mk, bl := bl } : Hp) m with | .ok es _ => _ | .no => _) = _
    rw [hme]
    simp only [hx]
    cases bl.set ad.block (M5 m s last sn) <;> rfl
  cases hs : bl.set ad.block (M5 m s last sn) with
  | none =>
    rw [hs] at hnx
    rw [Zi hnx] at hr
    exact absurd hr.symm hn
  | some bl' =>
    refine ⟨bl', rfl, ?_⟩
    rw [hs] at hnx
    rw [← hr]
    have hex : AN 0 (AB k.nx) F (Env.set k.nx (.tuple ⟨[.bool true, x.key, x.val]⟩) e) { next := h.next, low := lo, high := hi, mark := mk, bl := bl' } = .ok (.bool true) { next := h.next, low := lo, high := hi, mark := mk, bl := bl' } := by
      unfold AN
      rw [Bm _ W.nxL, Env.get_set _ _ _ _ W.nxL W.nxL, if_pos rfl]
      rfl
    symm
    rw [Rh hnx, C1 _ W.nxL, Rh hex, C1 _ W.moL]
structure Rd (A : List Nat) (N : Nat) (φ : Phi) (ws : List Nat) (e : Env) (w : World) (pb qb c : Nat) (seen : List Nat) (ak : Act) (wk : World) : Prop where
  size : ak.tmps.size = N
  defs : ak.defers = []
  slots : ∀ t, t < 320 → memN t A = false → t ∉ ws → RelV φ (e.get t) (ak.tmps.getD t undef)
  grow : w.heap.size ≤ wk.heap.size
  same : ∀ j, j < w.heap.size → j ≠ pb → wk.heap[j]? = w.heap[j]?
  tape : wk.tape = w.tape
  os : wk.os = w.os
  output : wk.output = w.output
  iter : wk.heap[pb]? = some (.mapIter (some qb) c ⟨seen⟩ c)
theorem Jd {φ : Phi} : ∀ {es : List Ent} {es' : List MapEntry} {x : Ent}, RelE φ es es' → x ∈ es → ∃ x' ∈ es', x'.born = x.born
  | _, _, x, .cons (k' := k) (v' := v) (b := b) hk hv t, hx => by
    rcases List.mem_cons.1 hx with rfl | hx
    · exact ⟨⟨k, v, b⟩, List.mem_cons_self, rfl⟩
    · obtain ⟨x, h1, h2⟩ := Jd t hx
      exact ⟨x, List.mem_cons_of_mem _ h1, h2⟩
theorem Hg {n : Nat} : ∀ {es : List Ent} {x : Ent}, GI n es = some x → x ∈ es ∧ x.born = n
  | y :: l, x, h => by
    unfold GI at h
    cases hb : Nat.beq y.born n with
    | true => rw [hb] at h; cases h; exact ⟨List.mem_cons_self, AZ.1 hb⟩
    | false =>
      rw [hb] at h
      obtain ⟨h1, h2⟩ := Hg h
      exact ⟨List.mem_cons_of_mem _ h1, h2⟩
theorem J7 {p q : MapEntry → Bool} (h : ∀ x, p x = true → q x = true) : ∀ l : List MapEntry, (l.filter p).length ≤ (l.filter q).length
  | [] => Nat.le_refl _
  | x :: l => by
    have ih := J7 h l
    rw [List.filter_cons, List.filter_cons]
    cases hp : p x with
    | true => rw [h x hp]; simpa using ih
    | false =>
      cases q x with
      | true => simp; omega
      | false => simpa using ih
theorem J8 {p q : MapEntry → Bool} (h : ∀ x, p x = true → q x = true) {y : MapEntry} (hq : q y = true) (hp : p y = false) : ∀ {l : List MapEntry}, y ∈ l → (l.filter p).length + 1 ≤ (l.filter q).length
  | x :: l, hm => by
    rw [List.filter_cons, List.filter_cons]
    rcases List.mem_cons.1 hm with rfl | hm
    · rw [hq, hp]
      have := J7 h l
      simp; omega
    · have ih := J8 h hq hp hm
      cases hx : p x with
      | true => rw [h x hx]; simpa using ih
      | false =>
        cases q x with
        | true => simp; omega
        | false => simpa using ih
theorem dw {seen : List Nat} {x' : MapEntry} {es : List MapEntry} (hx : x' ∈ es) (hn : x'.born ∉ seen) : (es.filter (fun x => !(seen ++ [x'.born]).contains x.born)).length + 1 ≤ (es.filter (fun x => !seen.contains x.born)).length :=
  J8 (fun x h => by
    simp only [Bool.not_eq_true', List.contains_eq_mem, decide_eq_false_iff_not] at h ⊢
    exact fun h2 => h (List.mem_append_left _ h2)) (by simpa using hn) (by simp) hx
theorem Lq {b : Bool} {Y X : Go.Proofs.YtfeldadhbnmklaaGreat.X} (h : (bif b then Y else .no) = X) (hn : X ≠ .no) : b = true ∧ Y = X := by
  cases b with
  | false => exact absurd h.symm hn
  | true => exact ⟨rfl, h⟩
theorem XR {k : Walk} {a0 : Code} {id : Nat} {o1 o2 : Oper} {r2 : Code} (W : WalkIs A a0 k id o1 o2 r2) (hd : k.nx < N ∧ k.more < N)
    (ih : ∀ {e : Env} {h : Hp} {X : Go.Proofs.YtfeldadhbnmklaaGreat.X}, BH ty A (.seq (.cond (.tmp k.more) .skip (.exit k.out)) r2) [] none F e h = X → X ≠ .no → ∀ (φ : Phi) (w : World) (a : Act), RelW ty φ nil h w → AR N φ (rhoOf A [] e) a → ∀ (Q : Exit → Act → World → Prop), Post ty A N F φ h w none X Q → (Code.seq (.cond (.tmp k.more) .skip (.exit k.out)) r2).wp P Q a w)
    {e : Env} {h : Hp} {X : Go.Proofs.YtfeldadhbnmklaaGreat.X} {ad : Addr} {m since last c : Nat} {es : List Ent} (hit : AB k.it e = .pointer (some ad)) (hiter : Eu (h.bl.get ad.block) = .ok (some m) since [] last) (hents : Bv h m = .ok es c)
    (hr : Gi k (BH ty A a0 [] none) F e h ad m since last es c = X) (hn : X ≠ .no) {φ : Phi} {w : World} {a : Act} (H : RelW ty φ nil h w) (HA : AR N φ (rhoOf A [] e) a) {Q : Exit → Act → World → Prop}
    (pe : ∀ id e h' ψ a' w', Good ty A N φ h w [] e h' ψ a' w' → X = .exit id e h' → Q (.exit id) a' w') (pr : ∀ e h' ψ a' w', Good ty A N φ h w [] e h' ψ a' w' → X = .ret e h' → Q .ret a' w') :
    (Code.loop a0).wp P Q a w := by
  unfold Gi at hr
  obtain ⟨hoff, hr1⟩ := Lq hr hn
  obtain ⟨h256, hr2⟩ := Lq hr1 hn
  obtain ⟨hcs, hr3⟩ := Lq hr2 hn
  obtain ⟨hcl, hr4⟩ := Lq hr3 hn
  obtain ⟨hris, hr5⟩ := Lq hr4 hn
  clear hr hr1 hr2 hr3 hr4
  have hr := hr5
  clear hr5
  have h256 := Ap.1 h256
  have hcs := AZ.1 hcs
  have hcl := AZ.1 hcl
  subst hcs; subst hcl
  unfold Lg at hr
  cases hkill : h.bl.set ad.block .dead with
  | none => rw [hkill] at hr; exact absurd hr.symm hn
  | some bld =>
  rw [hkill] at hr
  simp only at hr
  generalize hrr : EH k (BH ty A a0 [] none) F e h ad.block m c es .go = r at hr
  have hrn : r ≠ .no := fun h => by rw [h] at hr; exact hn hr.symm
  obtain ⟨_, hrounds⟩ := HP hrr hrn
  have hbi := FA hiter
  obtain ⟨hsz, hdf, hslots⟩ := Cw.1 HA
  have hitR := hslots k.it W.itL W.itA
  rw [← Bm k.it W.itL, hit] at hitR
  obtain ⟨ad', had', hra⟩ := hitR.ptr_inv
  obtain ⟨pb, hpb, rfl⟩ := hra.eq
  have hoff0 : ad.off = 0 := AZ.1 hoff
  have hrow := H.row ad.block pb hpb (fun h => h)
  rw [hbi] at hrow
  obtain ⟨q, hp0, hq, hwi⟩ : ∃ q, pb.off = 0 ∧ φ m = some q ∧ w.heap[pb.blk]? = some (.mapIter (some q.blk) c ⟨[]⟩ c) := by
    generalize w.heap[pb.blk]? = ob at hrow
    cases hrow with
    | iter h1 h2 => exact ⟨_, h1, h2, rfl⟩
  obtain ⟨es', hwm, hrel⟩ := H.entsAt hq (fun h => h) hents
  have hqb : q.blk ≠ pb.blk := fun h => by rw [h, hwi] at hwm; cases hwm
  have hmb : m ≠ ad.block := fun h => by
    have := Dn hents
    rw [h, hbi] at this; cases this
  have hin := H.notInp hpb h256
  have hlive : Live h ad.block := by unfold Live; rw [hbi]; intro h; cases h
  have hpbs := (H.dom _ _ hpb).2
  have hborn : ∀ x ∈ es', x.born < c := fun x hx => by
    obtain ⟨y, hy, he⟩ := IY hrel hx
    rw [← he]; exact (FL hris y hy).2
  have hsep : ∀ i p, φ i = some p → i ≠ ad.block → Live h i → p.blk ≠ pb.blk := fun i p hp hi hl hb =>
    hi (H.inj i ad.block p pb hp hpb (fun h => h) (fun h => h) hl hlive (.inr hin) hb)
  have base : ∀ (o : Blk) (bl : BT) (lo hi mk : Nat) (wk : World), (∀ i, bl.get i = if i = ad.block then o else h.bl.get i) → w.heap.size ≤ wk.heap.size → (∀ j, j < w.heap.size → j ≠ pb.blk → wk.heap[j]? = w.heap[j]?) →
      RelB ty φ pb o wk.heap[pb.blk]? → (∀ cc s el, o ≠ .cells cc s el) → RelW ty φ nil { next := h.next, low := lo, high := hi, mark := mk, bl := bl } wk := fun o bl lo hi mk wk hbl hs hsame hB hoc => {
    dom := fun i p hp => ⟨(H.dom i p hp).1, Nat.lt_of_lt_of_le (H.dom i p hp).2 hs⟩
    inj := fun i j p q hp hq _ _ hi hj hio hpq => by
      have lv : ∀ i, bl.get i ≠ .dead → Live h i := fun i hi => by
        by_cases hib : i = ad.block
        · rw [hib]; exact hlive
        · rw [hbl, if_neg hib] at hi; exact hi
      exact H.inj i j p q hp hq (fun h => h) (fun h => h) (lv i hi) (lv j hj) hio hpq
    row := fun i p hp _ => by
      show RelB ty φ p (bl.get i) _
      rw [hbl]
      by_cases hib : i = ad.block
      · rw [if_pos hib]
        subst hib
        rw [hpb] at hp; cases hp
        exact hB
      · rw [if_neg hib]
        by_cases hdd : h.bl.get i = .dead
        · rw [hdd]; exact .dead
        · rw [hsame p.blk (H.dom i p hp).2 (hsep i p hp hib hdd)]
          exact H.row i p hp (fun h => h)
    fresh := fun i hi => by
      have hi : h.next ≤ i := hi
      show bl.get i = _
      have := (H.dom _ _ hpb).1
      rw [hbl, if_neg (by omega)]; exact H.fresh i hi
    kind := fun i p cc s el hp he => by
      have he : bl.get i = .cells cc s el := he
      rw [hbl] at he
      by_cases hib : i = ad.block
      · rw [if_pos hib] at he; exact absurd he (hoc _ _ _)
      · rw [if_neg hib] at he; exact H.kind i p cc s el hp he
    inp := H.inp }
  let hend : Hp := { next := h.next, low := Bh h.low ad.block, high := CS h.high ad.block, mark := h.mark, bl := bld }
  have hbld : ∀ i, bld.get i = if i = ad.block then .dead else h.bl.get i := fun i => BT.get_set _ _ _ _ hkill i
  have evoEnd : ∀ wk : World, w.heap.size ≤ wk.heap.size → (∀ j, j < w.heap.size → j ≠ pb.blk → wk.heap[j]? = w.heap[j]?) → wk.tape = w.tape → wk.os = w.os → wk.output = w.output → Evo φ h w φ hend wk := fun wk hs hsame h1 h2 h3 => {
    le := .refl φ
    new := fun _ _ e => .inl e
    next := Nat.le_refl _
    size := hs
    tape := h1
    os := h2
    output := h3
    frame := fun j hj hf => hsame j hj fun hjp => hf ad.block pb hpb hin (by show Bh _ _ ≤ _; rw [BU]; exact Nat.min_le_right _ _) (by show _ ≤ CS _ _; rw [CI]; exact Nat.le_max_right _ _) hlive hjp.symm
    back := fun i p hp hl _ => by
      refine ⟨i, p, hp, ?_, rfl, rfl, .inl rfl⟩
      intro hdd; apply hl
      show bld.get i = _
      rw [hbld]; split
      · rfl
      · exact hdd
    kept := fun i _ hi => by
      show bld.get i = _
      have hi : i < Bh h.low ad.block ∨ CS h.high ad.block < i := hi
      rw [BU, CI] at hi
      rw [hbld, if_neg (by omega)]
    low := by show Bh _ _ ≤ _; rw [BU]; exact Nat.min_le_left _ _
    high := by show _ ≤ CS _ _; rw [CI]; exact Nat.le_max_left _ _
    shape := fun i _ => by
      show ShapeLe _ (bld.get i)
      rw [hbld]; split
      · exact .inl rfl
      · exact .refl _
    only := fun i _ h0 => by
      show bld.get i = _
      rw [hbld, if_neg (fun e => by rw [e, hpb] at h0; cases h0)]
    all := fun _ h1 h2 => absurd h2 (Nat.not_lt.2 h1) }
  have hkeep : Be k.ws (BH ty A (.seq (.cond (.tmp k.more) .skip (.exit k.out)) r2) [] none) := Bl _ (fun d hd => by
    rw [W.ws, W.code]
    exact List.mem_append_right _ hd) (fun _ h => by cases h)
  have hnxw : k.nx ∈ k.ws := by rw [W.ws, W.code]; show _ ∈ FW [o1, o2] ++ _; simp [FW, W.dst1, W.dst2]
  have hmow : k.more ∈ k.ws := by rw [W.ws, W.code]; show _ ∈ FW [o1, o2] ++ _; simp [FW, W.dst1, W.dst2]
  have hcg : ∀ t, t < 320 → (Bg e k.ws).get t = if t ∈ k.ws then .chan none else e.get t := fun t ht => E7 _ _ _ W.few ht
  have hcut : ∀ {ψ : Phi} {v v' v'' : Value}, φ.Le ψ → RelV ψ v v' → RelV φ v v'' → RelV φ v v' := fun {ψ v v' v''} hle h1 h2 => RelV.cut (χ := φ) (fun b p hp ⟨q, hq⟩ => by
    have := hle b q hq
    rw [hp] at this; cases this
    exact hq) h1 h2
  have hevit : ∀ {ak : Act}, RelV φ (e.get k.it) (ak.tmps.getD k.it undef) → ak.eval (.tmp k.it) = .pointer (some ⟨pb.blk, 0, none⟩) := fun {ak} h1 => by
    rw [← Bm k.it W.itL, hit] at h1
    obtain ⟨a2, ha2, hr2⟩ := h1.ptr_inv
    obtain ⟨p2, hp2, rfl⟩ := hr2.eq
    rw [hpb] at hp2; cases hp2
    show ak.tmps.getD k.it undef = _
    rw [ha2, hp0, hoff0]
  have putD : ∀ (ak : Act) (v1 v2 : Value) (t : Nat), ak.tmps.size = N → t < 320 → ((ak.put (some k.nx) v1).put (some k.more) v2).tmps.getD t undef = if t = k.more then v2 else if t = k.nx then v1 else ak.tmps.getD t undef := fun ak v1 v2 t hs ht => by
    rw [D9, Ce, D9]
    by_cases h1 : t = k.more
    · rw [if_pos ⟨by rw [h1], by rw [h1, hs]; exact hd.2⟩, if_pos h1]
    · rw [if_neg (fun h => h1 (Option.some.inj h.1).symm), if_neg h1]
      by_cases h2 : t = k.nx
      · rw [if_pos ⟨by rw [h2], by rw [h2, hs]; exact hd.1⟩, if_pos h2]
      · rw [if_neg (fun h => h2 (Option.some.inj h.1).symm), if_neg h2]
  have round : ∀ (K : Act → World → Prop) (seen : List Nat) (ak : Act) (wk : World), Rd A N φ k.ws e w pb.blk q.blk c seen ak wk →
      (∀ x ∈ es, x.born ∈ seen → ∀ bl, h.bl.set ad.block (.pick m x.born c none) = some bl → ∃ e1 h1, BH ty A a0 [] none F (Bg e k.ws) { next := h.next, low := h.next, high := 0, mark := h.mark, bl := bl } = .norm e1 h1) →
      (∀ x' ∈ es', x'.born ∉ seen → ∀ a2 w2, Rd A N φ k.ws e w pb.blk q.blk c (seen ++ [x'.born]) a2 w2 →
        (∀ x ∈ es, x.born ∈ seen ++ [x'.born] → ∀ bl, h.bl.set ad.block (.pick m x.born c none) = some bl → ∃ e1 h1, BH ty A a0 [] none F (Bg e k.ws) { next := h.next, low := h.next, high := 0, mark := h.mark, bl := bl } = .norm e1 h1) → K a2 w2) →
      a0.wp P (Exit.then K Q) ak wk := by
    intro K seen ak wk R hg hK
    have hmk : wk.heap[q.blk]? = some (.map ⟨es'⟩ c) := by rw [R.same q.blk (H.dom _ _ hq).2 hqb]; exact hwm
    rw [W.code]
    refine wp_seq (Kj W (pb := pb.blk) (mb := q.blk) (clk := c) (seen := seen) (es := es') (hevit (R.slots k.it W.itL W.itA W.itW)) (by rw [R.size]; exact hd.1) R.iter hmk hborn (fun hall => ?_) (fun x' hx' hns w1 e1 e2' e3 e4 => ?_))
    ·
      show (Code.seq (.cond (.tmp k.more) .skip (.exit k.out)) r2).wp P (Exit.then K Q) ((ak.put (some k.nx) (.tuple #[.bool false])).put (some k.more) (.bool false)) wk
      refine wp_seq (wp_cond_false ?_ (wp_exit ?_))
      · show ((ak.put (some k.nx) (.tuple #[.bool false])).put (some k.more) (.bool false)).tmps.getD k.more undef = _
        rw [putD _ _ _ _ R.size W.moL, if_pos rfl]
      · show Q (.exit k.out) ((ak.put (some k.nx) (.tuple #[.bool false])).put (some k.more) (.bool false)) wk
        have hgo : r = .go := Nf hrr hrn fun x hx bl hbl => hg x hx (by
          obtain ⟨x', hx', he⟩ := Jd hrel hx
          rw [← he]; exact hall x' hx') bl hbl
        subst hgo
        refine pe k.out _ hend φ _ wk ⟨.nil A, base .dead bld _ _ _ wk hbld R.grow R.same .dead (fun _ _ _ h => by cases h), Cw.2 ⟨by rw [Ce, Ce]; exact R.size, by rw [C0, C0]; exact R.defs, fun t ht hA => ?_⟩, evoEnd wk R.grow R.same R.tape R.os R.output⟩ hr.symm
        rw [putD _ _ _ _ R.size ht, Env.get_set _ _ _ _ W.moL ht, hcg t ht]
        by_cases q1 : t = k.more
        · rw [if_pos q1, if_pos q1]; exact .bool _
        · rw [if_neg q1, if_neg q1]
          by_cases q2 : t ∈ k.ws
          · rw [if_pos q2]; exact .unk
          · rw [if_neg q2, if_neg (fun h : t = k.nx => q2 (h ▸ hnxw))]
            exact R.slots t ht hA q2
    ·
      show (Code.seq (.cond (.tmp k.more) .skip (.exit k.out)) r2).wp P (Exit.then K Q) ((ak.put (some k.nx) (.tuple #[.bool true, x'.key, x'.val])).put (some k.more) (.bool true)) w1
      obtain ⟨x, hfx, hkr, hvr⟩ := Jc hrel hris hx'
      obtain ⟨hxm, hxb⟩ := Hg hfx
      obtain ⟨bl, hbl, hor⟩ := hrounds x hxm
      have hitc : AB k.it (Bg e k.ws) = .pointer (some ad) := by
        rw [Bm _ W.itL, hcg _ W.itL, if_neg W.itW, ← Bm _ W.itL]; exact hit
      have hws1 : w1.heap.size = wk.heap.size := by rw [e1]; simp
      have hw1p : w1.heap[pb.blk]? = some (.mapIter (some q.blk) c ⟨seen ++ [x'.born]⟩ c) := by
        have hlt : pb.blk < wk.heap.size := Nat.lt_of_lt_of_le hpbs R.grow
        rw [e1, Array.getElem?_setIfInBounds, if_pos rfl, if_pos hlt]
      have hw1s : ∀ j, j < w.heap.size → j ≠ pb.blk → w1.heap[j]? = w.heap[j]? := fun j hj hjp => by
        rw [e1, Array.getElem?_setIfInBounds, if_neg (fun h => hjp h.symm)]; exact R.same j hj hjp
      have grow1 : w.heap.size ≤ w1.heap.size := by rw [hws1]; exact R.grow
      have step : ∀ Y : Go.Proofs.YtfeldadhbnmklaaGreat.X, BH ty A a0 [] none F (Bg e k.ws) { next := h.next, low := h.next, high := 0, mark := h.mark, bl := bl } = Y → Y ≠ .no →
          (∀ e2 h2, (Y = .norm e2 h2 ∨ Y = .ret e2 h2) → h.next ≤ h2.low) → (∀ i e2 h2, Y ≠ .exit i e2 h2) →
          (∀ (e2 : Env) (h2 : Hp) (a2 : Act) (w2 : World), Y = .norm e2 h2 → Rd A N φ k.ws e w pb.blk q.blk c (seen ++ [x'.born]) a2 w2 → K a2 w2) →
          (∀ (e2 : Env) (h2 : Hp) (ψ : Phi) (a2 : Act) (w2 : World), Y = .ret e2 h2 → Rd A N φ k.ws e w pb.blk q.blk c (seen ++ [x'.born]) a2 w2 → (∀ t, t < 320 → memN t A = false → RelV ψ (e2.get t) (a2.tmps.getD t undef)) → Q .ret a2 w2) →
          (Code.seq (.cond (.tmp k.more) .skip (.exit k.out)) r2).wp P (Exit.then K Q) ((ak.put (some k.nx) (.tuple #[.bool true, x'.key, x'.val])).put (some k.more) (.bool true)) w1 := by
        intro Y hY hYn hlow hne hnorm hret
        obtain ⟨bl', hbl', hB⟩ := Pp W (x := x) (s := x.born) hitc hoff hents hmb (by rw [hxb]; exact hfx) hbl hY hYn
        have hblc : ∀ i, bl'.get i = if i = ad.block then .cur m x.born c else h.bl.get i := fun i => by
          rw [BT.get_set _ _ _ _ hbl', BT.get_set _ _ _ _ hbl]
          split <;> rfl
        have HR := base (.cur m x.born c) bl' h.next 0 h.mark w1 hblc grow1 hw1s (by rw [hw1p]; exact .cur hp0 hq (by rw [hxb]; simp)) (fun _ _ _ h => by cases h)
        have HAR : AR N φ (rhoOf A [] (Env.set k.more (.bool true) (Env.set k.nx (.tuple ⟨[.bool true, x.key, x.val]⟩) (Bg e k.ws)))) ((ak.put (some k.nx) (.tuple #[.bool true, x'.key, x'.val])).put (some k.more) (.bool true)) := by
          refine Cw.2 ⟨by rw [Ce, Ce]; exact R.size, by rw [C0, C0]; exact R.defs, fun t ht hA => ?_⟩
          rw [putD _ _ _ _ R.size ht, Env.get_set _ _ _ _ W.moL ht, Env.get_set _ _ _ _ W.nxL ht, hcg t ht]
          by_cases q1 : t = k.more
          · rw [if_pos q1, if_pos q1]; exact .bool _
          · rw [if_neg q1, if_neg q1]
            by_cases q2 : t = k.nx
            · rw [if_pos q2, if_pos q2]; exact .tuple (.cons (.bool _) (.cons hkr (.cons hvr .nil)))
            · rw [if_neg q2, if_neg q2]
              by_cases q3 : t ∈ k.ws
              · rw [if_pos q3]; exact .unk
              · rw [if_neg q3]; exact R.slots t ht hA q3
        have after : ∀ (e2 : Env) (h2 : Hp) (ψ : Phi) (a2 : Act) (w2 : World), (Y = .norm e2 h2 ∨ Y = .ret e2 h2) → Good ty A N φ { next := h.next, low := h.next, high := 0, mark := h.mark, bl := bl' } w1 [] e2 h2 ψ a2 w2 →
            Rd A N φ k.ws e w pb.blk q.blk c (seen ++ [x'.born]) a2 w2 := fun e2 h2 ψ a2 w2 hx g => by
          obtain ⟨g1, g2, g3⟩ := Cw.1 g.ar
          have hl := hlow e2 h2 hx
          have hfr : ∀ j, j < w1.heap.size → w2.heap[j]? = w1.heap[j]? := fun j hj => g.evo.frame j hj fun i p hp _ hl2 _ _ => by
            have := (HR.dom i p hp).1
            have h3 : i < h.next := this
            omega
          have hag := hkeep F (Env.set k.more (.bool true) (Env.set k.nx (.tuple ⟨[.bool true, x.key, x.val]⟩) (Bg e k.ws))) { next := h.next, low := h.next, high := 0, mark := h.mark, bl := bl' }
          rw [hB] at hag
          have hag : Ag k.ws (Env.set k.more (.bool true) (Env.set k.nx (.tuple ⟨[.bool true, x.key, x.val]⟩) (Bg e k.ws))) e2 := by
            rcases hx with rfl | rfl <;> exact hag
          exact {
            size := g1
            defs := g2
            slots := fun t ht hA hw => by
              have q1 := g3 t ht hA
              rw [hag t ht hw, Env.get_set _ _ _ _ W.moL ht, if_neg (fun h : t = k.more => hw (h ▸ hmow)), Env.get_set _ _ _ _ W.nxL ht, if_neg (fun h : t = k.nx => hw (h ▸ hnxw)), hcg t ht, if_neg hw] at q1
              exact hcut g.evo.le q1 (R.slots t ht hA hw)
            grow := Nat.le_trans grow1 g.evo.size
            same := fun j hj hjp => by rw [hfr j (Nat.lt_of_lt_of_le hj grow1)]; exact hw1s j hj hjp
            tape := g.evo.tape.trans (e2'.trans R.tape)
            os := g.evo.os.trans (e3.trans R.os)
            output := g.evo.output.trans (e4.trans R.output)
            iter := by rw [hfr pb.blk (Nat.lt_of_lt_of_le hpbs grow1)]; exact hw1p }
        refine ih hB hYn φ w1 _ HR HAR _ { go := (fun _ h => by cases h), norm := fun _ e2 h2 ψ a2 w2 g hx => ?_, exit := fun i e2 h2 ψ a2 w2 g hx => absurd hx (hne i e2 h2), ret := fun e2 h2 ψ a2 w2 g hx => ?_ }
        · exact hnorm e2 h2 a2 w2 hx (after e2 h2 ψ a2 w2 (.inl hx) g)
        · exact hret e2 h2 ψ a2 w2 hx (after e2 h2 ψ a2 w2 (.inr hx) g) (Cw.1 g.ar).2.2
      rcases hor with ⟨e1', h1', hY, hlow⟩ | ⟨e1', h1', hY, hlow, hrs⟩
      · refine step _ hY (fun h => by cases h) (fun e2 h2 hx => by rcases hx with hx | hx <;> cases hx; exact hlow) (fun _ _ _ h => by cases h) (fun e2 h2 a2 w2 hx R2 => hK x' hx' hns a2 w2 R2 fun y hy hyb bl2 hbl2 => ?_) (fun _ _ _ _ _ hx => by cases hx)
        rcases List.mem_append.1 hyb with hyb | hyb
        · exact hg y hy hyb bl2 hbl2
        · have hyb : y.born = x'.born := by simpa using hyb
          have e5 : y.born = x.born := hyb.trans hxb.symm
          rw [e5] at hbl2
          rw [hbl] at hbl2; cases hbl2
          exact ⟨_, _, hY⟩
      · refine step _ hY (fun h => by cases h) (fun e2 h2 hx => by rcases hx with hx | hx <;> cases hx; exact hlow) (fun _ _ _ h => by cases h) (fun _ _ _ _ hx => by cases hx) (fun e2 h2 ψ a2 w2 hx R2 hsl => ?_)
        cases hx
        subst hrs
        have hul : ∀ d ∈ Dm e1' k.rs, d.1 < 320 := fun d hd => W.few _ (W.rs _ (Ft d hd))
        refine pr _ hend φ a2 w2 ⟨.nil A, base .dead bld _ _ _ w2 hbld R2.grow R2.same .dead (fun _ _ _ h => by cases h), Cw.2 ⟨R2.size, R2.defs, fun t ht hA => ?_⟩, evoEnd w2 R2.grow R2.same R2.tape R2.os R2.output⟩ hr.symm
        rcases MP (Dm e1' k.rs) (Bg e k.ws) t hul ht with h3 | h3
        · rw [h3, hcg t ht]
          by_cases q3 : t ∈ k.ws
          · rw [if_pos q3]; exact .unk
          · rw [if_neg q3]; exact R2.slots t ht hA q3
        · obtain ⟨h4, h5⟩ := Ea _ h3
          have h6 := hsl t ht hA
          rw [← Bm t ht] at h6
          rw [h4] at h6
          exact h5 _ _ _ h6
  have main : ∀ (n : Nat) (seen : List Nat) (ak : Act) (wk : World), (es'.filter (fun x => !seen.contains x.born)).length ≤ n → Rd A N φ k.ws e w pb.blk q.blk c seen ak wk →
      (∀ x ∈ es, x.born ∈ seen → ∀ bl, h.bl.set ad.block (.pick m x.born c none) = some bl → ∃ e1 h1, BH ty A a0 [] none F (Bg e k.ws) { next := h.next, low := h.next, high := 0, mark := h.mark, bl := bl } = .norm e1 h1) →
      Code.rounds P a0 Q (n + 1) ak wk := by
    intro n
    induction n with
    | zero =>
      intro seen ak wk hcnt R hg
      refine round _ seen ak wk R hg fun x' hx' hns a2 w2 _ _ => ?_
      exfalso
      have : x' ∈ es'.filter (fun x => !seen.contains x.born) := List.mem_filter.2 ⟨hx', by simpa using hns⟩
      have := List.length_pos_of_mem this
      omega
    | succ n ihn =>
      intro seen ak wk hcnt R hg
      refine round _ seen ak wk R hg fun x' hx' hns a2 w2 R2 hg2 => ihn _ a2 w2 ?_ R2 hg2
      have := dw hx' hns
      omega
  refine wp_loop_rounds (es'.length + 1) (main es'.length [] a w ?_ { size := hsz, defs := hdf, slots := fun t ht hA _ => hslots t ht hA, grow := Nat.le_refl _, same := fun _ _ _ => rfl, tape := rfl, os := rfl, output := rfl, iter := hwi } (fun x hx h => by cases h))
  exact List.length_filter_le _ _
theorem NE {seen : List Nat} : ∀ {es : List Ent}, (∀ x ∈ es, x.born ∈ seen) → HF seen es = []
  | [], _ => rfl
  | x :: l, h => by
    unfold HF
    rw [IR, show seen.contains x.born = true by simpa using h x List.mem_cons_self]
    exact NE fun y hy => h y (List.mem_cons_of_mem _ hy)
theorem ND {seen : List Nat} : ∀ {es : List Ent} {x : Ent}, x ∈ es → x.born ∉ seen → x ∈ HF seen es
  | y :: l, x, hx, hn => by
    unfold HF
    rcases List.mem_cons.1 hx with rfl | hx
    · rw [IR, show seen.contains x.born = false by simpa using hn]
      exact List.mem_cons_self
    · have ih := ND hx hn
      cases QR y.born seen with
      | true => exact ih
      | false => exact List.mem_cons_of_mem _ ih
theorem Lj {f : Ent → Bool} : ∀ {l : List Ent}, RL f l = true → ∀ x ∈ l, f x = true
  | [], _, x, hx => by cases hx
  | y :: l, h, x, hx => by
    obtain ⟨h1, h2⟩ := Af h
    rcases List.mem_cons.1 hx with rfl | hx
    · exact h1
    · exact Lj h2 x hx
theorem J5 {t : BT} : ∀ {n i : Nat} {r r' : BT}, J4 t n i r = some r' → ∀ j, r'.get j = if i ≤ j ∧ j < i + n then t.get j else r.get j
  | 0, i, r, r', h, j => by
    cases h
    rw [if_neg (by omega)]
  | n + 1, i, r, r', h, j => by
    unfold J4 at h
    cases hs : r.set i (t.get i) with
    | none => rw [hs] at h; cases h
    | some r1 =>
      rw [hs] at h
      have ih := J5 h j
      have he : Nat.succ i = i + 1 := rfl
      rw [ih, BT.get_set _ _ _ _ hs]
      by_cases h1 : j = i
      · rw [if_neg (by omega), if_pos h1, if_pos (by omega), h1]
      · rw [if_neg h1]
        by_cases h2 : i ≤ j ∧ j < i + (n + 1)
        · rw [if_pos h2, if_pos (by omega)]
        · rw [if_neg h2, if_neg (by omega)]
theorem RelW.one {φ : Phi} {h : Hp} {w w' : World} {b : Nat} {pb : Pl} {o : Blk} {bl : BT} (H : RelW ty φ nil h w) (hpb : φ b = some pb) (hin : pb.inp = false) (hlive : Live h b) (hbl : ∀ i, bl.get i = if i = b then o else h.bl.get i)
    (hs : w.heap.size ≤ w'.heap.size) (hsame : ∀ j, j < w.heap.size → j ≠ pb.blk → w'.heap[j]? = w.heap[j]?) (hB : RelB ty φ pb o w'.heap[pb.blk]?) (hoc : ∀ cc s el, o ≠ .cells cc s el) (lo hi mk : Nat) :
    RelW ty φ nil { next := h.next, low := lo, high := hi, mark := mk, bl := bl } w' where
  dom := fun i p hp => ⟨(H.dom i p hp).1, Nat.lt_of_lt_of_le (H.dom i p hp).2 hs⟩
  inj := fun i j p q hp hq _ _ hi hj hio hpq => by
    have lv : ∀ i, bl.get i ≠ .dead → Live h i := fun i hi => by
      by_cases hib : i = b
      · rw [hib]; exact hlive
      · rw [hbl, if_neg hib] at hi; exact hi
    exact H.inj i j p q hp hq (fun h => h) (fun h => h) (lv i hi) (lv j hj) hio hpq
  row := fun i p hp _ => by
    show RelB ty φ p (bl.get i) _
    rw [hbl]
    by_cases hib : i = b
    · rw [if_pos hib]
      subst hib
      rw [hpb] at hp; cases hp
      exact hB
    · rw [if_neg hib]
      by_cases hdd : h.bl.get i = .dead
      · rw [hdd]; exact .dead
      · rw [hsame p.blk (H.dom i p hp).2 (fun hb => hib (H.inj i b p pb hp hpb (fun h => h) (fun h => h) hdd hlive (.inr hin) hb))]
        exact H.row i p hp (fun h => h)
  fresh := fun i hi => by
    have hi : h.next ≤ i := hi
    show bl.get i = _
    have := (H.dom _ _ hpb).1
    rw [hbl, if_neg (by omega)]; exact H.fresh i hi
  kind := fun i p cc s el hp he => by
    have he : bl.get i = .cells cc s el := he
    rw [hbl] at he
    by_cases hib : i = b
    · rw [if_pos hib] at he; exact absurd he (hoc _ _ _)
    · rw [if_neg hib] at he; exact H.kind i p cc s el hp he
  inp := H.inp
theorem Evo.one {φ : Phi} {h : Hp} {w w' : World} {b : Nat} {pb : Pl} {o : Blk} {bl : BT} (hpb : φ b = some pb) (hin : pb.inp = false) (hlive : Live h b) (hbl : ∀ i, bl.get i = if i = b then o else h.bl.get i)
    (hs : w.heap.size ≤ w'.heap.size) (hsame : ∀ j, j < w.heap.size → j ≠ pb.blk → w'.heap[j]? = w.heap[j]?) (ht : w'.tape = w.tape) (hos : w'.os = w.os) (hou : w'.output = w.output) (ho : ShapeLe (h.bl.get b) o) (mk : Nat) :
    Evo φ h w φ { next := h.next, low := Bh h.low b, high := CS h.high b, mark := mk, bl := bl } w' where
  le := .refl φ
  new := fun _ _ e => .inl e
  next := Nat.le_refl _
  size := hs
  tape := ht
  os := hos
  output := hou
  frame := fun j hj hf => hsame j hj fun hjp => hf b pb hpb hin (by show Bh _ _ ≤ _; rw [BU]; exact Nat.min_le_right _ _) (by show _ ≤ CS _ _; rw [CI]; exact Nat.le_max_right _ _) hlive hjp.symm
  back := fun i p hp hl _ => by
    refine ⟨i, p, hp, ?_, rfl, rfl, .inl rfl⟩
    by_cases hib : i = b
    · rw [hib]; exact hlive
    · have hl : bl.get i ≠ .dead := hl
      rw [hbl, if_neg hib] at hl; exact hl
  kept := fun i _ hi => by
    show bl.get i = _
    have hi : i < Bh h.low b ∨ CS h.high b < i := hi
    rw [BU, CI] at hi
    rw [hbl, if_neg (by omega)]
  low := by show Bh _ _ ≤ _; rw [BU]; exact Nat.min_le_left _ _
  high := by show _ ≤ CS _ _; rw [CI]; exact Nat.le_max_left _ _
  shape := fun i _ => by
    show ShapeLe _ (bl.get i)
    rw [hbl]
    by_cases hib : i = b
    · rw [if_pos hib, hib]; exact ho
    · rw [if_neg hib]; exact .refl _
  only := fun i _ h0 => by
    show bl.get i = _
    rw [hbl, if_neg (fun e => by rw [e, hpb] at h0; cases h0)]
  all := fun _ h1 h2 => absurd h2 (Nat.not_lt.2 h1)
theorem VY {k : Walk} {a0 : Code} {id : Nat} {o1 o2 : Oper} {r2 : Code} (W : WalkIs A a0 k id o1 o2 r2) (hd : k.nx < N ∧ k.more < N)
    (ih : ∀ {e : Env} {h : Hp} {X : Go.Proofs.YtfeldadhbnmklaaGreat.X}, BH ty A (.seq (.cond (.tmp k.more) .skip (.exit k.out)) r2) [] none F e h = X → X ≠ .no → ∀ (φ : Phi) (w : World) (a : Act), RelW ty φ nil h w → AR N φ (rhoOf A [] e) a → ∀ (Q : Exit → Act → World → Prop), Post ty A N F φ h w none X Q → (Code.seq (.cond (.tmp k.more) .skip (.exit k.out)) r2).wp P Q a w)
    {e : Env} {ad : Addr} (hit : AB k.it e = .pointer (some ad)) (hoff : Nat.beq ad.off 0 = true) (h256 : 256 ≤ ad.block) {φ0 : Phi} {hr : Hp} {w0 : World} {a : Act} (hslots : ∀ t, t < 320 → memN t A = false → RelV φ0 (e.get t) (a.tmps.getD t undef))
    {fin : Hp → Rds → Bool} {Q : Exit → Act → World → Prop}
    (hfin : ∀ (hk : Hp) (tr : Rds) (φk : Phi) (wk : World), RelW ty φk nil hk wk → Evo φ0 hr w0 φk hk wk → (∃ pb, φk ad.block = some pb) → Live hk ad.block → fin hk tr = true → ∀ ak : Act, ak.tmps.size = N → ak.defers = [] →
      (∀ t, t < 320 → memN t A = false → t ∉ k.ws → RelV φ0 (e.get t) (ak.tmps.getD t undef)) → ak.tmps.getD k.more undef = .bool false → Q (.exit k.out) ak wk) :
    ∀ (n : Nat) (hk : Hp) (tr : Rds) (φk : Phi) (wk : World) (ak : Act), RelW ty φk nil hk wk → Evo φ0 hr w0 φk hk wk → ak.tmps.size = N → ak.defers = [] →
      (∀ t, t < 320 → memN t A = false → t ∉ k.ws → RelV φ0 (e.get t) (ak.tmps.getD t undef)) → PB k (BH ty A a0 [] none) F e ad.block fin n hk tr = true → Code.rounds P a0 Q n ak wk := by
  intro n
  induction n with
  | zero => intro hk tr φk wk ak _ _ _ _ _ hx; cases hx
  | succ n ihn =>
  intro hk tr φk wk ak H E hsz hdf hsl hx
  unfold PB SN at hx
  cases hiter : Eu (hk.bl.get ad.block) with
  | no => rw [hiter] at hx; cases hx
  | cur _ _ _ => rw [hiter] at hx; cases hx
  | pick _ _ _ _ => rw [hiter] at hx; cases hx
  | ok m' since seen last =>
  rw [hiter] at hx
  cases m' with
  | none => cases hx
  | some m =>
  simp only at hx
  cases hents : Bv hk m with
  | no => rw [hents] at hx; cases hx
  | ok es c =>
  rw [hents] at hx
  simp only at hx
  obtain ⟨hcs0, hx1⟩ := Af hx
  obtain ⟨hcl0, hx2⟩ := Af hx1
  obtain ⟨hris, hx3⟩ := Af hx2
  clear hx hx1 hx2
  have hcs := AZ.1 hcs0
  have hcl := AZ.1 hcl0
  clear hcs0 hcl0
  subst hcs; subst hcl
  have hx := hx3
  clear hx3
  have hbi := FA hiter
  have hitR := hslots k.it W.itL W.itA
  rw [← Bm k.it W.itL, hit] at hitR
  obtain ⟨ad', had', hra⟩ := hitR.ptr_inv
  obtain ⟨pb, hpb0, rfl⟩ := hra.eq
  have hpb := E.le _ _ hpb0
  have hoff0 : ad.off = 0 := AZ.1 hoff
  have hrow := H.row ad.block pb hpb (fun h => h)
  rw [hbi] at hrow
  obtain ⟨q, hp0, hq, hwi⟩ : ∃ q, pb.off = 0 ∧ φk m = some q ∧ wk.heap[pb.blk]? = some (.mapIter (some q.blk) c ⟨seen⟩ c) := by
    generalize wk.heap[pb.blk]? = ob at hrow
    cases hrow with
    | iter h1 h2 => exact ⟨_, h1, h2, rfl⟩
  obtain ⟨es', hwm, hrel⟩ := H.entsAt hq (fun h => h) hents
  have hmb : m ≠ ad.block := fun h => by
    have := Dn hents
    rw [h, hbi] at this; cases this
  have hin := H.notInp hpb h256
  have hlive : Live hk ad.block := by unfold Live; rw [hbi]; intro h; cases h
  have hpbs := (H.dom _ _ hpb).2
  have hborn : ∀ x ∈ es', x.born < c := fun x hx => by
    obtain ⟨y, hy, he⟩ := IY hrel hx
    rw [← he]; exact (FL hris y hy).2
  have hkeep : Be k.ws (BH ty A (.seq (.cond (.tmp k.more) .skip (.exit k.out)) r2) [] none) := Bl _ (fun d hd => by
    rw [W.ws, W.code]
    exact List.mem_append_right _ hd) (fun _ h => by cases h)
  have hnxw : k.nx ∈ k.ws := by rw [W.ws, W.code]; show _ ∈ FW [o1, o2] ++ _; simp [FW, W.dst1, W.dst2]
  have hmow : k.more ∈ k.ws := by rw [W.ws, W.code]; show _ ∈ FW [o1, o2] ++ _; simp [FW, W.dst1, W.dst2]
  have hcg : ∀ t, t < 320 → (Bg e k.ws).get t = if t ∈ k.ws then .chan none else e.get t := fun t ht => E7 _ _ _ W.few ht
  have hcut : ∀ {ψ : Phi} {v v' v'' : Value}, φ0.Le ψ → RelV ψ v v' → RelV φ0 v v'' → RelV φ0 v v' := fun {ψ v v' v''} hle h1 h2 => RelV.cut (χ := φ0) (fun b p hp ⟨q, hq⟩ => by
    have := hle b q hq
    rw [hp] at this; cases this
    exact hq) h1 h2
  have hevit : ak.eval (.tmp k.it) = .pointer (some ⟨pb.blk, 0, none⟩) := by
    have h1 := hsl k.it W.itL W.itA W.itW
    rw [← Bm k.it W.itL, hit] at h1
    obtain ⟨a2, ha2, hr2⟩ := h1.ptr_inv
    obtain ⟨p2, hp2, rfl⟩ := hr2.eq
    rw [hpb0] at hp2; cases hp2
    show ak.tmps.getD k.it undef = _
    rw [ha2, hp0, hoff0]
  have putD : ∀ (v1 v2 : Value) (t : Nat), t < 320 → ((ak.put (some k.nx) v1).put (some k.more) v2).tmps.getD t undef = if t = k.more then v2 else if t = k.nx then v1 else ak.tmps.getD t undef := fun v1 v2 t ht => by
    rw [D9, Ce, D9]
    by_cases h1 : t = k.more
    · rw [if_pos ⟨by rw [h1], by rw [h1, hsz]; exact hd.2⟩, if_pos h1]
    · rw [if_neg (fun h => h1 (Option.some.inj h.1).symm), if_neg h1]
      by_cases h2 : t = k.nx
      · rw [if_pos ⟨by rw [h2], by rw [h2, hsz]; exact hd.1⟩, if_pos h2]
      · rw [if_neg (fun h => h2 (Option.some.inj h.1).symm), if_neg h2]
  show a0.wp P (Exit.then (Code.rounds P a0 Q n) Q) ak wk
  generalize hK : Code.rounds P a0 Q n = K
  rw [W.code]
  refine wp_seq (Kj W (pb := pb.blk) (mb := q.blk) (clk := c) (seen := seen) (es := es') hevit (by rw [hsz]; exact hd.1) hwi hwm hborn (fun hall => ?_) (fun x' hx' hns w1 e1 e2' e3 e4 => ?_))
  ·
    show (Code.seq (.cond (.tmp k.more) .skip (.exit k.out)) r2).wp P (Exit.then K Q) ((ak.put (some k.nx) (.tuple #[.bool false])).put (some k.more) (.bool false)) wk
    refine wp_seq (wp_cond_false ?_ (wp_exit ?_))
    · show ((ak.put (some k.nx) (.tuple #[.bool false])).put (some k.more) (.bool false)).tmps.getD k.more undef = _
      rw [putD _ _ _ W.moL, if_pos rfl]
    · show Q (.exit k.out) ((ak.put (some k.nx) (.tuple #[.bool false])).put (some k.more) (.bool false)) wk
      rw [NE (es := es) fun x hx => by
        obtain ⟨x', hx', he⟩ := Jd hrel hx
        rw [← he]; exact hall x' hx'] at hx
      refine hfin hk tr φk wk H E ⟨_, hpb⟩ hlive hx _ (by rw [Ce, Ce]; exact hsz) (by rw [C0, C0]; exact hdf) (fun t ht hA hw => ?_) (by rw [putD _ _ _ W.moL, if_pos rfl])
      rw [putD _ _ _ ht, if_neg (fun h : t = k.more => hw (h ▸ hmow)), if_neg (fun h : t = k.nx => hw (h ▸ hnxw))]
      exact hsl t ht hA hw
  ·
    show (Code.seq (.cond (.tmp k.more) .skip (.exit k.out)) r2).wp P (Exit.then K Q) ((ak.put (some k.nx) (.tuple #[.bool true, x'.key, x'.val])).put (some k.more) (.bool true)) w1
    obtain ⟨x, hfx, hkr, hvr⟩ := Jc hrel hris hx'
    obtain ⟨hxm, hxb⟩ := Hg hfx
    have hmem := ND hxm (by rw [hxb]; exact hns)
    generalize hrest : HF seen es = rest at hx hmem
    cases rest with
    | nil => cases hmem
    | cons y l =>
    have hx := Lj hx x hmem
    unfold Ti at hx
    cases hbl : hk.bl.set ad.block (.pick m x.born c (some seen)) with
    | none => rw [hbl] at hx; cases hx
    | some bl =>
    rw [hbl] at hx
    simp only at hx
    have hitc : AB k.it (Bg e k.ws) = .pointer (some ad) := by
      rw [Bm _ W.itL, hcg _ W.itL, if_neg W.itW, ← Bm _ W.itL]; exact hit
    generalize hY : BH ty A a0 [] none F (Bg e k.ws) { next := hk.next, low := Bh hk.low ad.block, high := CS hk.high ad.block, mark := hk.mark, bl := bl } = Y at hx
    cases Y with
    | no => cases hx
    | exit _ _ _ => cases hx
    | ret _ _ => cases hx
    | norm e1' h1' =>
    simp only at hx
    obtain ⟨bl', hbl', hB⟩ := Pp W (x := x) (s := x.born) hitc hoff hents hmb (by rw [hxb]; exact hfx) hbl hY (fun h => by cases h)
    have hbl' : bl.set ad.block (.iter (some m) c (Ja x.born seen) c) = some bl' := hbl'
    have hblc : ∀ i, bl'.get i = if i = ad.block then .iter (some m) c (Ja x.born seen) c else hk.bl.get i := fun i => by
      rw [BT.get_set _ _ _ _ hbl', BT.get_set _ _ _ _ hbl]
      split <;> rfl
    have hws1 : w1.heap.size = wk.heap.size := by rw [e1]; simp
    have hw1p : w1.heap[pb.blk]? = some (.mapIter (some q.blk) c ⟨seen ++ [x'.born]⟩ c) := by
      rw [e1, Array.getElem?_setIfInBounds, if_pos rfl, if_pos hpbs]
    have hw1s : ∀ j, j < wk.heap.size → j ≠ pb.blk → w1.heap[j]? = wk.heap[j]? := fun j hj hjp => by
      rw [e1, Array.getElem?_setIfInBounds, if_neg (fun h => hjp h.symm)]
    have HR := H.one hpb hin hlive hblc (Nat.le_of_eq hws1.symm) hw1s (by rw [hw1p, Jb, hxb]; exact .iter hp0 hq) (fun _ _ _ h => by cases h) (Bh hk.low ad.block) (CS hk.high ad.block) hk.mark
    have E1 := Evo.one (w' := w1) hpb hin hlive hblc (Nat.le_of_eq hws1.symm) hw1s e2' e3 e4 (by rw [hbi]; exact .inr trivial) hk.mark
    have HAR : AR N φk (rhoOf A [] (Env.set k.more (.bool true) (Env.set k.nx (.tuple ⟨[.bool true, x.key, x.val]⟩) (Bg e k.ws)))) ((ak.put (some k.nx) (.tuple #[.bool true, x'.key, x'.val])).put (some k.more) (.bool true)) := by
      refine Cw.2 ⟨by rw [Ce, Ce]; exact hsz, by rw [C0, C0]; exact hdf, fun t ht hA => ?_⟩
      rw [putD _ _ _ ht, Env.get_set _ _ _ _ W.moL ht, Env.get_set _ _ _ _ W.nxL ht, hcg t ht]
      by_cases q1 : t = k.more
      · rw [if_pos q1, if_pos q1]; exact .bool _
      · rw [if_neg q1, if_neg q1]
        by_cases q2 : t = k.nx
        · rw [if_pos q2, if_pos q2]; exact .tuple (.cons (.bool _) (.cons hkr (.cons hvr .nil)))
        · rw [if_neg q2, if_neg q2]
          by_cases q3 : t ∈ k.ws
          · rw [if_pos q3]; exact .unk
          · rw [if_neg q3]; exact (hsl t ht hA q3).mono E.le
    refine ih hB (fun h => by cases h) φk w1 _ HR HAR _ { go := (fun _ h => by cases h), norm := fun _ e2 h2 ψ a2 w2 g hx2 => ?_, exit := (fun i e2 h2 ψ a2 w2 g hx2 => by cases hx2), ret := (fun e2 h2 ψ a2 w2 g hx2 => by cases hx2) }
    cases hx2
    obtain ⟨g1, g2, g3⟩ := Cw.1 g.ar
    have hag := hkeep F (Env.set k.more (.bool true) (Env.set k.nx (.tuple ⟨[.bool true, x.key, x.val]⟩) (Bg e k.ws))) { next := hk.next, low := Bh hk.low ad.block, high := CS hk.high ad.block, mark := hk.mark, bl := bl' }
    rw [hB] at hag
    have hag : Ag k.ws (Env.set k.more (.bool true) (Env.set k.nx (.tuple ⟨[.bool true, x.key, x.val]⟩) (Bg e k.ws))) e1' := hag
    have E2 := (E.trans E1).trans g.evo
    show K a2 w2
    rw [← hK]
    refine ihn h1' _ ψ w2 a2 g.rel E2 g1 g2 (fun t ht hA hw => ?_) hx
    have q1 := g3 t ht hA
    rw [hag t ht hw, Env.get_set _ _ _ _ W.moL ht, if_neg (fun h : t = k.more => hw (h ▸ hmow)), Env.get_set _ _ _ _ W.nxL ht, if_neg (fun h : t = k.nx => hw (h ▸ hnxw)), hcg t ht, if_neg hw] at q1
    exact hcut E2.le q1 (hslots t ht hA)
theorem Nk {k : Walk} {a0 : Code} {id : Nat} {o1 o2 : Oper} {r2 : Code} (W : WalkIs A a0 k id o1 o2 r2) (hd : k.nx < N ∧ k.more < N)
    (ih : ∀ {e : Env} {h : Hp} {X : Go.Proofs.YtfeldadhbnmklaaGreat.X}, BH ty A (.seq (.cond (.tmp k.more) .skip (.exit k.out)) r2) [] none F e h = X → X ≠ .no → ∀ (φ : Phi) (w : World) (a : Act), RelW ty φ nil h w → AR N φ (rhoOf A [] e) a → ∀ (Q : Exit → Act → World → Prop), Post ty A N F φ h w none X Q → (Code.seq (.cond (.tmp k.more) .skip (.exit k.out)) r2).wp P Q a w)
    {e : Env} {h : Hp} {X : Go.Proofs.YtfeldadhbnmklaaGreat.X} {ad : Addr} (hit : AB k.it e = .pointer (some ad)) (hoff : Nat.beq ad.off 0 = true) (h256 : 256 ≤ ad.block)
    (hr : Fx k (BH ty A a0 [] none) F e h ad.block = X) (hn : X ≠ .no) {φ : Phi} {w : World} {a : Act} (H : RelW ty φ nil h w) (HA : AR N φ (rhoOf A [] e) a) {Q : Exit → Act → World → Prop}
    (pe : ∀ id e h' ψ a' w', Good ty A N φ h w [] e h' ψ a' w' → X = .exit id e h' → Q (.exit id) a' w') :
    (Code.loop a0).wp P Q a w := by
  unfold Fx at hr
  generalize hfe : K1 k (BH ty A a0 [] none) F e ad.block 5 { next := h.next, low := h.next, high := 0, mark := h.mark, bl := h.bl } [] = fe at hr
  cases fe with
  | none => exact absurd hr.symm hn
  | some p =>
  simp only at hr
  cases hbc : p.1.bl.set ad.block .dead with
  | none => rw [hbc] at hr; exact absurd hr.symm hn
  | some bc =>
  rw [hbc] at hr
  simp only at hr
  cases hbr : J4 bc (Nat.sub p.1.next p.1.low) p.1.low h.bl with
  | none => rw [hbr] at hr; exact absurd hr.symm hn
  | some br =>
  rw [hbr] at hr
  simp only at hr
  unfold RM at hr
  obtain ⟨hexpl, hX⟩ := Lq hr hn
  obtain ⟨hsz, hdf, hslots⟩ := Cw.1 HA
  have hitR := hslots k.it W.itL W.itA
  rw [← Bm k.it W.itL, hit] at hitR
  obtain ⟨ad', had', hra⟩ := hitR.ptr_inv
  obtain ⟨pb, hpb0, rfl⟩ := hra.eq
  have hbig : 256 ≤ h.next := by have := (H.dom _ _ hpb0).1; omega
  have hsub : Nat.sub p.1.next p.1.low = p.1.next - p.1.low := rfl
  have hbrg := J5 hbr
  rw [hsub] at hbrg
  have hcg : ∀ t, t < 320 → (Bg e k.ws).get t = if t ∈ k.ws then .chan none else e.get t := fun t ht => E7 _ _ _ W.few ht
  refine wp_loop_rounds 5 (VY W hd ih hit hoff h256 (φ0 := φ) (w0 := w) hslots (fun hk tr φk wk Hk Ek ⟨pb', hpb'⟩ hlive hf ak s1 s2 s3 s4 => ?_) 5 { next := h.next, low := h.next, high := 0, mark := h.mark, bl := h.bl } [] φ w a (H.of_bl rfl rfl) (.refl _ _ _) hsz hdf (fun t ht hA _ => hslots t ht hA) hexpl)
  unfold dy at hf
  cases hset : hk.bl.set ad.block .dead with
  | none => rw [hset] at hf; cases hf
  | some blk =>
  rw [hset] at hf
  simp only at hf
  have hbg : ∀ i, blk.get i = if i = ad.block then .dead else hk.bl.get i := fun i => BT.get_set _ _ _ _ hset i
  have HK := Hk.one (w' := wk) hpb' (Hk.notInp hpb' h256) hlive hbg (Nat.le_refl _) (fun _ _ _ => rfl) .dead (fun _ _ _ h => by cases h) (Bh hk.low ad.block) (CS hk.high ad.block) hk.mark
  have EK := Ek.trans (Evo.one (w' := wk) hpb' (Hk.notInp hpb' h256) hlive hbg (Nat.le_refl _) (fun _ _ _ => rfl) rfl rfl rfl (.inl rfl) hk.mark)
  obtain ⟨ψ, HR, ER⟩ := am (r := { next := p.1.next, low := Bh h.low p.1.low, high := CS h.high p.1.next, mark := h.mark, bl := br }) H HK EK rfl rfl hbig hf (fun i hi => by
    show br.get i = _
    rw [hbrg, if_neg (by omega)]) (fun i hi => by
    have hi : p.1.next ≤ i := hi
    show br.get i = _
    rw [hbrg, if_neg (by omega)]) (by
    show Bh _ _ ≤ _ ∧ Bh _ _ ≤ _
    rw [BU]; omega) (by
    show p.1.next ≤ CS _ _ ∧ _ ≤ CS _ _
    rw [CI]; omega)
  refine pe k.out _ _ ψ ak wk ⟨.nil A, HR, Cw.2 ⟨s1, s2, fun t ht hA => ?_⟩, ER⟩ hX.symm
  rw [Env.get_set _ _ _ _ W.moL ht, hcg t ht]
  by_cases q1 : t = k.more
  · rw [if_pos q1, q1, s4]; exact .bool _
  · rw [if_neg q1]
    by_cases q2 : t ∈ k.ws
    · rw [if_pos q2]; exact .unk
    · rw [if_neg q2]; exact (s3 t ht hA q2).mono ER.le
end
end
end Go.Proofs.YtfeldadhbnmklaaGreat
set_option linter.unusedSimpArgs false
set_option linter.unusedVariables false
namespace Go.Proofs.YtfeldadhbnmklaaGreat
noncomputable section
open Go
section
variable {P : Program} {ty : TTy} {F : CallF} {A : List Nat} {N : Nat}
theorem Evo.of_low {φ ψ : Phi} {h g h' : Hp} {w w' : World} (ev : Evo φ g w ψ h' w') (h1 : g.bl = h.bl) (h2 : g.next = h.next) (h3 : g.low = h.low) (h4 : g.high = h.high) : Evo φ h w ψ h' w' where
  le := ev.le
  new := by rw [← h2]; exact ev.new
  next := by rw [← h2]; exact ev.next
  size := ev.size
  tape := ev.tape
  os := ev.os
  output := ev.output
  frame := by unfold Live; rw [← h1]; exact ev.frame
  back := by
    have := ev.back
    unfold Live at this ⊢
    rw [h1] at this; exact this
  kept := by rw [← h1, ← h2]; exact ev.kept
  low := by rw [← h3]; exact ev.low
  high := by rw [← h4]; exact ev.high
  shape := by rw [← h1, ← h2]; exact ev.shape
  only := by rw [← h1, ← h2]; exact ev.only
  all := by rw [← h2]; exact ev.all
theorem Qr (hT : CL P ty) (hF : CY P ty F) (hm : P.follows .mixedOrders = true) {id : Nat} {ops : Array Oper} {draw : Bool} {σ : Sg} {k : Option (Sg → C)} {e : Env} {h : Hp} {X : X} (hr : BH ty A (.region id ops draw) σ k F e h = X) (hn : X ≠ .no)
    (hd : Bu N (.region id ops draw) = true) {φ : Phi} {w : World} {a : Act} (hS : SgOk A σ) (HW : RelW ty φ nil h w) (HA : AR N φ (rhoOf A σ e) a) {Q : Exit → Act → World → Prop} (p : Post ty A N F φ h w k X Q) : (Code.region id ops draw).wp P Q a w := by
  have hN : ∀ o ∈ ops.toList, ∀ d, o.dst = some d → d < N := by
    intro o ho d hod
    unfold Bu at hd
    rw [List.all_eq_true] at hd
    have := hd o ho
    rw [hod] at this
    exact A3.1 this
  unfold BH at hr
  cases draw with
  | false =>
    simp only at hr
    obtain ⟨ρ, H, V, run, T, σ', e', tr, q1, q2, q3, q4, q5⟩ := LP hT hF ops.toList [] σ e h X (fun j o _ => .plain ty o) hS hr hn
    refine wp_region_list ?_
    have := Lc (Q := Q) (a := a) (w := w) (φ := φ) ops.toList tr hN (by rw [q2]; exact HW) (by rw [q1]; exact HA) fun _ ψ a' w' r1 r2 r3 => p.then ⟨q4, r1, by rw [← q3]; exact r2, by rw [← q2]; exact r3⟩ q5
    simpa using this
  | true =>
    simp only at hr
    cases hdr : O7 ty ops.toList with
    | none => rw [hdr] at hr; exact absurd hr.symm hn
    | some ahs =>
      rw [hdr] at hr
      obtain ⟨bs, hbs, he, hs, hah⟩ := SB hdr
      have hr : FG ty A ops.toList (ID k) ahs ops.toList σ F e { next := h.next, low := h.low, high := h.high, mark := h.next, bl := h.bl } = X := hr
      obtain ⟨ρ, H, V, run, T, σ', e', tr, q1, q2, q3, q4, q5⟩ := LP hT hF ops.toList ahs σ e _ X (fun j o ho => by obtain ⟨xs, _, h⟩ := hah j o ho; exact h.ok) hS hr hn
      have := XM (id := id) (Q := Q) (a := a) (w := w) (φ0 := φ) hm (Lw hbs he) (Vx hbs he hs hah tr) tr hN (by rw [q2]; exact HW.of_bl rfl rfl) (by rw [q1]; exact HA)
        fun ψ a' w' r1 r2 r3 => p.then ⟨q4, r1, by rw [← q3]; exact r2, by rw [q2] at r3; exact r3.of_low rfl rfl rfl rfl⟩ q5
      simpa using this
theorem Pc (hm : P.follows .mixedOrders = true) {c : Code} {body : C} (ih : ∀ {e : Env} {h : Hp} {X : X}, body F e h = X → X ≠ .no → ∀ (φ : Phi) (w : World) (a : Act), RelW ty φ nil h w → AR N φ (rhoOf A [] e) a → ∀ (Q : Exit → Act → World → Prop), Post ty A N F φ h w none X Q → c.wp P Q a w) :
    ∀ (n : Nat) {e : Env} {h : Hp} {X : X}, iter body n F e h = X → X ≠ .no → ∀ (φ : Phi) (w : World) (a : Act), RelW ty φ nil h w → AR N φ (rhoOf A [] e) a → ∀ (Q : Exit → Act → World → Prop), Post ty A N F φ h w none X Q → Code.rounds P c Q n a w
  | 0, e, h, X, hr, hn => by exact absurd hr.symm hn
  | n + 1, e, h, X, hr, hn => by
    intro φ w a HW HA Q p
    unfold iter at hr
    cases hb : body F e h with
    | no => rw [hb] at hr; exact absurd hr.symm hn
    | norm e1 h1 =>
      rw [hb] at hr
      simp only at hr
      refine ih hb (fun h => by cases h) φ w a HW HA _ { go := (fun _ h => by cases h), norm := fun _ e' h' ψ a' w' g hx => ?_, exit := (fun _ _ _ _ _ _ _ hx => by cases hx), ret := (fun _ _ _ _ _ _ hx => by cases hx) }
      cases hx
      exact Pc hm ih n hr hn _ _ _ g.rel g.ar _ { go := (fun _ h => by cases h), norm := fun h e2 h2 χ a2 w2 g2 hx => p.norm h e2 h2 χ a2 w2 (g.trans g2) hx, exit := fun id e2 h2 χ a2 w2 g2 hx => p.exit id e2 h2 χ a2 w2 (g.trans g2) hx, ret := fun e2 h2 χ a2 w2 g2 hx => p.ret e2 h2 χ a2 w2 (g.trans g2) hx }
    | exit i e1 h1 =>
      rw [hb] at hr
      refine ih hb (fun h => by cases h) φ w a HW HA _ { go := (fun _ h => by cases h), norm := (fun _ _ _ _ _ _ _ hx => by cases hx), exit := fun id e2 h2 χ a2 w2 g2 hx => p.exit id e2 h2 χ a2 w2 g2 (hr.symm.trans hx), ret := (fun _ _ _ _ _ _ hx => by cases hx) }
    | ret e1 h1 =>
      rw [hb] at hr
      refine ih hb (fun h => by cases h) φ w a HW HA _ { go := (fun _ h => by cases h), norm := (fun _ _ _ _ _ _ _ hx => by cases hx), exit := (fun _ _ _ _ _ _ _ hx => by cases hx), ret := fun e2 h2 χ a2 w2 g2 hx => p.ret e2 h2 χ a2 w2 g2 (hr.symm.trans hx) }
theorem NH {φ : Phi} {h : Hp} {w : World} {k' : Sg → C} {X : X} {Q : Exit → Act → World → Prop} (p : Post ty A N F φ h w (some k') X Q) {a : C} {e : Env} (hr : Al a (k' []) F e h = X) (hn : X ≠ .no) :
    ∃ X1, a F e h = X1 ∧ X1 ≠ .no ∧ Post ty A N F φ h w none X1 Q := by
  unfold Al at hr
  cases hb : a F e h with
  | no => rw [hb] at hr; exact absurd hr.symm hn
  | norm e1 h1 =>
    rw [hb] at hr
    exact ⟨_, rfl, (fun h => by cases h), { go := (fun _ h => by cases h), norm := fun _ e2 h2 χ a2 w2 g2 hx => by cases hx; exact p.go k' rfl [] _ _ χ a2 w2 g2 hr, exit := (fun _ _ _ _ _ _ _ hx => by cases hx), ret := (fun _ _ _ _ _ _ hx => by cases hx) }⟩
  | exit i e1 h1 =>
    rw [hb] at hr
    exact ⟨_, rfl, (fun h => by cases h), { go := (fun _ h => by cases h), norm := (fun _ _ _ _ _ _ _ hx => by cases hx), exit := fun id e2 h2 χ a2 w2 g2 hx => p.exit id e2 h2 χ a2 w2 g2 (hr.symm.trans hx), ret := (fun _ _ _ _ _ _ hx => by cases hx) }⟩
  | ret e1 h1 =>
    rw [hb] at hr
    exact ⟨_, rfl, (fun h => by cases h), { go := (fun _ h => by cases h), norm := (fun _ _ _ _ _ _ _ hx => by cases hx), exit := (fun _ _ _ _ _ _ _ hx => by cases hx), ret := fun e2 h2 χ a2 w2 g2 hx => p.ret e2 h2 χ a2 w2 g2 (hr.symm.trans hx) }⟩
theorem Nn {φ : Phi} {h : Hp} {w : World} {X : X} {Q : Exit → Act → World → Prop} (p : Post ty A N F φ h w none X Q) {id : Nat} {a : C} {e : Env} (hr : AK id a F e h = X) (hn : X ≠ .no) :
    ∃ X1, a F e h = X1 ∧ X1 ≠ .no ∧ Post ty A N F φ h w none X1 (Exit.inBlock id Q) := by
  unfold AK at hr
  cases hb : a F e h with
  | no => rw [hb] at hr; exact absurd hr.symm hn
  | norm e1 h1 =>
    rw [hb] at hr
    exact ⟨_, rfl, (fun h => by cases h), { go := (fun _ h => by cases h), norm := fun h e2 h2 χ a2 w2 g2 hx => p.norm h e2 h2 χ a2 w2 g2 (hr.symm.trans hx), exit := (fun _ _ _ _ _ _ _ hx => by cases hx), ret := (fun _ _ _ _ _ _ hx => by cases hx) }⟩
  | exit i e1 h1 =>
    rw [hb] at hr
    simp only at hr
    refine ⟨_, rfl, (fun h => by cases h), { go := (fun _ h => by cases h), norm := fun _ _ _ _ _ _ _ hx => (by cases hx), exit := fun j e2 h2 χ a2 w2 g2 hx => ?_, ret := fun _ _ _ _ _ _ hx => (by cases hx) }⟩
    cases hx
    unfold Exit.inBlock
    cases hq : Nat.beq i id with
    | true =>
      rw [hq] at hr
      simp only [AZ.1 hq, if_true]
      exact p.norm rfl _ _ χ a2 w2 g2 hr.symm
    | false =>
      rw [hq] at hr
      simp only [Dt hq, if_false]
      exact p.exit i _ _ χ a2 w2 g2 hr.symm
  | ret e1 h1 =>
    rw [hb] at hr
    exact ⟨_, rfl, (fun h => by cases h), { go := (fun _ h => by cases h), norm := (fun _ _ _ _ _ _ _ hx => by cases hx), exit := (fun _ _ _ _ _ _ _ hx => by cases hx), ret := fun e2 h2 χ a2 w2 g2 hx => p.ret e2 h2 χ a2 w2 g2 (hr.symm.trans hx) }⟩
theorem Cx (hT : CL P ty) (hF : CY P ty F) (hm : P.follows .mixedOrders = true) : ∀ (c : Code) {σ : Sg} {k : Option (Sg → C)} {e : Env} {h : Hp} {X : X}, BH ty A c σ k F e h = X → X ≠ .no → Bu N c = true →
    ∀ (φ : Phi) (w : World) (a : Act), SgOk A σ → RelW ty φ nil h w → AR N φ (rhoOf A σ e) a → ∀ (Q : Exit → Act → World → Prop), Post ty A N F φ h w k X Q → c.wp P Q a w
  | .skip, σ, k, e, h, X, hr, hn, hd => by
    intro φ w a hS HW HA Q p
    exact wp_skip (p.then ⟨hS, HW, HA, .refl _ _ _⟩ hr)
  | .region id ops draw, σ, k, e, h, X, hr, hn, hd => by
    intro φ w a hS HW HA Q p
    exact Qr hT hF hm hr hn hd hS HW HA p
  | .seq x y, σ, k, e, h, X, hr, hn, hd => by
    intro φ w a hS HW HA Q p
    have hd : (Bu N x && Bu N y) = true := hd
    rw [Bool.and_eq_true] at hd
    have hr : BH ty A x σ (some fun σ => BH ty A y σ k) F e h = X := hr
    refine wp_seq (Cx hT hF hm x hr hn hd.1 _ _ _ hS HW HA _ { go := fun k' hk σ' e' h' ψ a' w' g hx => ?_, norm := fun h => (by cases h), exit := p.exit, ret := p.ret })
    cases hk
    exact Cx hT hF hm y hx hn hd.2 _ _ _ g.sg g.rel g.ar _ { go := fun k' hk σ2 e2 h2 χ a2 w2 g2 hx => p.go k' hk σ2 e2 h2 χ a2 w2 (g.trans g2) hx, norm := fun h e2 h2 χ a2 w2 g2 hx => p.norm h e2 h2 χ a2 w2 (g.trans g2) hx, exit := fun id e2 h2 χ a2 w2 g2 hx => p.exit id e2 h2 χ a2 w2 (g.trans g2) hx, ret := fun e2 h2 χ a2 w2 g2 hx => p.ret e2 h2 χ a2 w2 (g.trans g2) hx }
  | .cond c x y, σ, k, e, h, X, hr, hn, hd => by
    intro φ w a hS HW HA Q p
    have hd : (Bu N x && Bu N y) = true := hd
    rw [Bool.and_eq_true] at hd
    unfold BH at hr
    cases hc : cO ⟨A, σ⟩ c with
    | none => rw [hc] at hr; exact absurd hr.symm hn
    | some cc =>
      rw [hc] at hr
      simp only at hr
      have hrel := HA.ev (EP hc e)
      have two : ∀ {kx : Option (Sg → C)} {Y : Go.Proofs.YtfeldadhbnmklaaGreat.X}, AJ cc (BH ty A x σ kx) (BH ty A y σ kx) F e h = Y → Y ≠ .no → Post ty A N F φ h w kx Y Q → (Code.cond c x y).wp P Q a w := by
        intro kx Y hr hn p
        unfold AJ at hr
        cases hv : cc e with
        | bool t =>
          rw [hv] at hr hrel
          have hev := hrel.bool_inv
          cases t with
          | true => exact wp_cond_true hev (Cx hT hF hm x hr hn hd.1 _ _ _ hS HW HA _ p)
          | false => exact wp_cond_false hev (Cx hT hF hm y hr hn hd.2 _ _ _ hS HW HA _ p)
        | _ => rw [hv] at hr; exact absurd hr.symm hn
      cases k with
      | none => exact two hr hn p
      | some k' =>
        simp only at hr
        cases hf : (H3 x && H3 y) with
        | false => rw [hf] at hr; exact two hr hn p
        | true =>
          rw [hf] at hr
          obtain ⟨X1, h1, h2, p1⟩ := NH p hr hn
          exact two h1 h2 p1
  | .block id x, σ, k, e, h, X, hr, hn, hd => by
    intro φ w a hS HW HA Q p
    have hd : Bu N x = true := hd
    have one : ∀ {Y : Go.Proofs.YtfeldadhbnmklaaGreat.X}, AK id (BH ty A x [] none) F e h = Y → Y ≠ .no → Post ty A N F φ h w none Y Q → (Code.block id x).wp P Q a w := by
      intro Y hr hn p
      obtain ⟨X1, h1, h2, p1⟩ := Nn p hr hn
      exact wp_block (Cx hT hF hm x h1 h2 hd _ _ _ (.nil A) HW (HA.nil hS) _ p1)
    unfold BH at hr
    cases k with
    | none => exact one hr hn p
    | some k' =>
      simp only at hr
      obtain ⟨X1, h1, h2, p1⟩ := NH p hr hn
      exact one h1 h2 p1
  | .loop x, σ, k, e, h, X, hr, hn, hd => by
    intro φ w a hS HW HA Q p
    have hd : Bu N x = true := hd
    have plain : iter (BH ty A x [] none) rounds F e h = X → (Code.loop x).wp P Q a w := by
      intro hr
      refine wp_loop_rounds rounds (Pc hm (fun h1 h2 φ w a HW HA Q p => Cx hT hF hm x h1 h2 hd _ _ _ (.nil A) HW HA _ p) rounds hr hn _ _ _ HW (HA.nil hS) _ { go := fun _ h => (by cases h), norm := fun _ e2 h2 χ a2 w2 g2 hx => ?_, exit := p.exit, ret := p.ret })
      exfalso
      subst hx
      have : ∀ (n : Nat) (e : Env) (h : Hp), iter (BH ty A x [] none) n F e h ≠ .norm e2 h2 := by
        intro n
        induction n with
        | zero => intro e h hq; cases hq
        | succ n ih =>
          intro e h hq
          unfold iter at hq
          cases hb : BH ty A x [] none F e h with
          | norm e1 h1 => rw [hb] at hq; exact ih e1 h1 hq
          | no => rw [hb] at hq; cases hq
          | exit _ _ _ => rw [hb] at hq; cases hq
          | ret _ _ => rw [hb] at hq; cases hq
      exact this _ e h hr
    unfold BH at hr
    cases hw : P0 A x with
    | none => rw [hw] at hr; exact plain hr
    | some kw =>
      rw [hw] at hr
      have hr : J2 kw (BH ty A x [] none) F e h = X := hr
      obtain ⟨id, o1, o2, r2, W⟩ := Nd hw
      unfold J2 at hr
      split at hr
      case h_2 => exact absurd hr.symm hn
      rename_i ad hit
      split at hr
      case h_2 => exact plain hr
      rename_i m since seen last hiter
      split at hr
      case h_2 => exact absurd hr.symm hn
      split at hr
      case h_2 => exact absurd hr.symm hn
      rename_i es c hents
      split at hr
      case h_2 => exact plain hr
      have hdd : Bu N (.region id #[o1, o2] false) = true ∧ Bu N (.seq (.cond (.tmp kw.more) .skip (.exit kw.out)) r2) = true := by
        rw [W.code] at hd
        have hd : (Bu N (.region id #[o1, o2] false) && Bu N (.seq (.cond (.tmp kw.more) .skip (.exit kw.out)) r2)) = true := hd
        exact Bool.and_eq_true_iff.1 hd
      have hnm : kw.nx < N ∧ kw.more < N := by
        have := hdd.1
        unfold Bu at this
        simp only [List.all_cons, List.all_nil, Bool.and_true, Bool.and_eq_true, W.dst1, W.dst2] at this
        exact ⟨A3.1 this.1, A3.1 this.2⟩
      have hdec : SizeOf.sizeOf (Code.seq (.cond (.tmp kw.more) .skip (.exit kw.out)) r2) < SizeOf.sizeOf x := by
        rw [W.code]; simp; omega
      split at hr
      · obtain ⟨hoff, hr⟩ := Lq hr hn
        obtain ⟨h256, hr⟩ := Lq hr hn
        exact Nk W hnm (fun h1 h2 φ w a HW HA Q p => Cx hT hF hm (.seq (.cond (.tmp kw.more) .skip (.exit kw.out)) r2) h1 h2 hdd.2 _ _ _ (.nil A) HW HA _ p) hit hoff (Ap.1 h256) hr hn HW (HA.nil hS) p.exit
      · exact XR W hnm (fun h1 h2 φ w a HW HA Q p => Cx hT hF hm (.seq (.cond (.tmp kw.more) .skip (.exit kw.out)) r2) h1 h2 hdd.2 _ _ _ (.nil A) HW HA _ p) hit hiter hents hr hn HW (HA.nil hS) p.exit p.ret
  | .exit id, σ, k, e, h, X, hr, hn, hd => by
    intro φ w a hS HW HA Q p
    have hr : (.exit id e h : Go.Proofs.YtfeldadhbnmklaaGreat.X) = X := hr
    exact wp_exit (p.exit id e h φ a w ⟨.nil A, HW, HA.nil hS, .refl _ _ _⟩ hr.symm)
  | .ret, σ, k, e, h, X, hr, hn, hd => by
    intro φ w a hS HW HA Q p
    have hr : (.ret e h : Go.Proofs.YtfeldadhbnmklaaGreat.X) = X := hr
    exact wp_ret (p.ret e h φ a w ⟨.nil A, HW, HA.nil hS, .refl _ _ _⟩ hr.symm)
  | .rangeFunc _ _ _ _, _, _, _, _, X, hr, hn, _ => by exact absurd hr.symm hn
  | .scope x, σ, k, e, h, X, hr, hn, hd => by
    intro φ w a hS HW HA Q p
    have hd : Bu N x = true := hd
    have hr : BH ty A x σ k F e h = X := hr
    exact wp_scope_straight (Cx hT hF hm x hr hn hd _ _ _ hS HW HA _ { go := p.go, norm := p.norm, exit := p.exit, ret := p.ret })
  | .label _, σ, k, e, h, X, hr, hn, hd => by
    intro φ w a hS HW HA Q p
    exact wp_label (p.then ⟨hS, HW, HA, .refl _ _ _⟩ hr)
  | .goto _, _, _, _, _, X, hr, hn, _ => by exact absurd hr.symm hn
  | .refuse _, _, _, _, _, X, hr, hn, _ => by exact absurd hr.symm hn
termination_by c => SizeOf.sizeOf c
decreasing_by
  all_goals simp_wf
  all_goals first | omega | (simp_all; omega)
end
end
end Go.Proofs.YtfeldadhbnmklaaGreat
set_option linter.unusedSimpArgs false
set_option linter.unusedVariables false
namespace Go.Proofs.YtfeldadhbnmklaaGreat
noncomputable section
open Go
section
variable {P : Program} {ty : TTy} {A : List Nat} {N : Nat} {φ : Phi} {h h' : Hp} {w : World} {e : Env} {a : Act} {v : Value}
theorem Kc {t : Nat} (h : LO A t = true) (e : Env) : rhoOf A [] e t = some (AB t e) := by
  unfold LO at h
  rw [DK]
  show (match memN t A with | true => none | false => match Nat.blt t 320 with | true => some (AB t e) | false => none) = _
  cases hm : memN t A with
  | true => rw [hm] at h; cases h
  | false =>
    rw [hm] at h
    have h : Nat.blt t 320 = true := h
    simp only [h]
def NC (tmps : Array Value) : ResultVar → Sem Value
  | .tmp t => pure (tmps.getD t undef)
  | .cell a t => do loadVar t (← asAddr (tmps.getD a undef))
theorem Oc (fn : Func) (tmps : Array Value) : Go.results fn tmps = (do let vs ← fn.results.mapM (NC tmps); pure (if h : vs.size = 1 then vs[0] else .tuple vs)) := by
  unfold Go.results
  congr 2
theorem RO (f : ResultVar → Sem Value) (l : Array ResultVar) {vs : List Value} (h : (l.toList.mapM f).run P w = .ok vs w) : (l.mapM f).run P w = .ok ⟨vs⟩ w := by
  have : l.mapM f = List.toArray <$> l.toList.mapM f := by
    conv => lhs; rw [← Array.toArray_toList (xs := l)]
    rw [List.mapM_toArray]
  rw [this, map_eq_pure_bind, Sem.run_bind, h, Result.andThen_ok, Sem.run_pure]
theorem FJ (hT : CL P ty) (H : RelW ty φ nil h w) (HA : AR N φ (rhoOf A [] e) a) : ∀ {l : List ResultVar} {rs : List RV} {k : List Value → R}, rsC ty A l = some rs → Go.Proofs.YtfeldadhbnmklaaGreat.results e h k rs = .ok v h' →
    ∃ vs vs', RelL φ vs vs' ∧ k vs = .ok v h' ∧ (l.mapM (NC a.tmps)).run P w = .ok vs' w
  | [], rs, k, hc, hr => by
    cases hc
    exact ⟨[], [], .nil, hr, by simp⟩
  | .tmp t :: l, rs, k, hc, hr => by
    unfold rsC at hc
    split at hc
    · cases hc
    rename_i ht
    split at hc
    case h_2 => cases hc
    rename_i r hrs
    cases hc
    unfold Go.Proofs.YtfeldadhbnmklaaGreat.results at hr
    have hr : forceV (AB t e) (fun v => Go.Proofs.YtfeldadhbnmklaaGreat.results e h (fun vs => k (v :: vs)) r) = .ok v h' := hr
    rw [A7] at hr
    obtain ⟨vs, vs', h1, h2, h3⟩ := FJ hT H HA hrs hr
    have h4 := HA.rel t _ (Kc ht e)
    exact ⟨_, _, .cons h4 h1, h2, by simp [List.mapM_cons, NC, h3]⟩
  | .cell c t :: l, rs, k, hc, hr => by
    unfold rsC at hc
    split at hc
    · cases hc
    rename_i ht
    split at hc
    case h_2 => cases hc
    rename_i ti hti
    split at hc
    case h_2 => cases hc
    rename_i r hrs
    have T := hT t ti hti
    have h4 := HA.rel c _ (Kc ht e)
    cases hag : ti.k.agg with
    | true =>
      rw [hag] at hc
      cases hc
      unfold Go.Proofs.YtfeldadhbnmklaaGreat.results HG at hr
      simp only at hr
      cases hadr : DD (AB c e) with
      | no => rw [hadr] at hr; cases hr
      | ok ad =>
        rw [hadr] at hr
        simp only at hr
        cases hl : loadN ti.size ad h with
        | no => rw [hl] at hr; cases hr
        | ok u h2 =>
          rw [hl] at hr
          simp only [A7] at hr
          rw [Fw hadr] at h4
          obtain ⟨a', ha', hra⟩ := h4.ptr_inv
          obtain ⟨_, l', hv, hrun⟩ := MU (P := P) H hl hra (fun h => h)
          obtain ⟨vs, vs', h1, h5, h3⟩ := FJ hT H HA hrs hr
          refine ⟨_, _, .cons hv h1, h5, ?_⟩
          have : (NC a.tmps (.cell c t)).run P w = .ok (.agg l'.toArray) w := by
            unfold NC
            simp only [ha', asAddr, Sem.run_bind, Sem.run_pure, Result.andThen_ok, loadVar, T.agg, hag, if_true, T.size, hrun]
          simp [List.mapM_cons, this, h3]
    | false =>
      rw [hag] at hc
      cases hc
      unfold Go.Proofs.YtfeldadhbnmklaaGreat.results HG at hr
      simp only at hr
      cases hadr : DD (AB c e) with
      | no => rw [hadr] at hr; cases hr
      | ok ad =>
        rw [hadr] at hr
        simp only at hr
        cases hl : load1 ad h with
        | no => rw [hl] at hr; cases hr
        | ok u h2 =>
          rw [hl] at hr
          simp only [A7] at hr
          rw [Fw hadr] at h4
          obtain ⟨a', ha', hra⟩ := h4.ptr_inv
          obtain ⟨_, v', hcell, hv⟩ := MT H hl hra (fun h => h)
          obtain ⟨vs, vs', h1, h5, h3⟩ := FJ hT H HA hrs hr
          refine ⟨_, _, .cons hv h1, h5, ?_⟩
          have : (NC a.tmps (.cell c t)).run P w = .ok v' w := by
            unfold NC
            simp only [ha', asAddr, Sem.run_bind, Sem.run_pure, Result.andThen_ok, loadVar, T.agg, hag, Bool.false_eq_true, if_false, run_load, hcell]
          simp [List.mapM_cons, this, h3]
theorem KB (hT : CL P ty) (H : RelW ty φ nil h w) (HA : AR N φ (rhoOf A [] e) a) {fn : Func} {rs : List RV} (hc : rsC ty A fn.results.toList = some rs) (hr : E8 rs e h = .ok v h') :
    h' = h ∧ ∃ v', RelV φ v v' ∧ (Go.results fn a.tmps).run P w = .ok v' w := by
  unfold E8 at hr
  obtain ⟨vs, vs', h1, h2, h3⟩ := FJ hT H HA hc hr
  have hrun := RO (P := P) (w := w) (NC a.tmps) fn.results h3
  rw [Oc]
  simp only [Sem.run_bind, hrun, Result.andThen_ok, Sem.run_pure]
  unfold K0 at h2
  split at h2
  · cases h2
    cases h1 with
    | cons hv ht => cases ht; exact ⟨rfl, _, hv, rfl⟩
  · rename_i hne
    cases h2
    refine ⟨rfl, _, .tuple h1, ?_⟩
    have : vs'.length ≠ 1 := by
      rw [h1.length]
      intro hl
      cases vs with
      | nil => cases hl
      | cons x l =>
        cases l with
        | nil => exact hne x rfl
        | cons _ _ => simp at hl
    have hs : ¬ (Array.mk vs').size = 1 := this
    rw [dif_neg hs]
theorem NK : ∀ (args : List Value) (e : Env) (i t : Nat), i + args.length ≤ 320 → t < 320 → (Av e i args).get t = if i ≤ t ∧ t < i + args.length then args.getD (t - i) noRes else e.get t
  | [], e, i, t, _, _ => by
    rw [if_neg (by simp)]; rfl
  | v :: l, e, i, t, hn, ht => by
    simp only [List.length_cons] at hn
    unfold Av
    rw [NK l _ (i + 1) t (by omega) ht]
    by_cases h1 : i + 1 ≤ t ∧ t < i + 1 + l.length
    · rw [if_pos h1, if_pos (by simp only [List.length_cons]; omega)]
      have : t - i = (t - (i + 1)) + 1 := by omega
      rw [this, List.getD_cons_succ]
    · rw [if_neg h1, Env.get_set _ _ _ _ (by omega) ht]
      by_cases h2 : t = i
      · subst h2
        rw [if_pos rfl, if_pos (by simp only [List.length_cons]; omega)]
        simp
      · rw [if_neg h2, if_neg (by simp only [List.length_cons]; omega)]
set_option maxRecDepth 100000 in
theorem aD {t : Nat} (ht : t < 320) : e0.get t = noRes := by
  have H : Id (fun i => e0.get i = noRes) 320 := by
    repeat' (first | exact trivial | refine ⟨rfl, ?_⟩)
  exact H.at t ht
theorem UQ {args args' : List Value} (hr : RelL φ args args') (hn : args.length ≤ 320) (n : Nat) :
    AR (max args.length n) φ (rhoOf A [] (Av e0 0 args)) { tmps := (⟨args'⟩ : Array Value) ++ Array.replicate (n - (⟨args'⟩ : Array Value).size) undef, defers := [] } where
  size := by
    have := hr.length
    simp only [Array.size_append, Array.size_replicate, List.size_toArray]
    omega
  defs := rfl
  rel := fun t u hu => by
    rw [DK] at hu
    have hu : (match memN t A with | true => none | false => match Nat.blt t 320 with | true => some (AB t (Av e0 0 args)) | false => none) = some u := hu
    cases hm : memN t A with
    | true => rw [hm] at hu; cases hu
    | false =>
      rw [hm] at hu
      simp only at hu
      cases hb : Nat.blt t 320 with
      | false => rw [hb] at hu; cases hu
      | true =>
        rw [hb] at hu
        cases hu
        have ht := A3.1 hb
        rw [Bm t ht, NK args e0 0 t (by omega) ht, aD ht]
        have hlen := hr.length
        simp only [Array.getD_eq_getD_getElem?]
        by_cases h1 : t < args.length
        · rw [if_pos (by omega), Nat.sub_zero, Array.getElem?_append_left (by simp only [List.size_toArray]; omega)]
          obtain ⟨v', h2, h3⟩ := hr.get t args[t] (List.getElem?_eq_getElem h1)
          have : args.getD t noRes = args[t] := by rw [List.getD_eq_getElem?_getD, List.getElem?_eq_getElem h1]; rfl
          rw [this]
          have e2 : (⟨args'⟩ : Array Value)[t]? = some v' := by simpa using h2
          rw [e2]; exact h3
        · rw [if_neg (by omega), Array.getElem?_append_right (by simp only [List.size_toArray]; omega), Array.getElem?_replicate]
          split <;> exact .tuple .nil
theorem Qu {l : List ResultVar} {rs : List RV} (hc : rsC ty A l = some rs) : Ov rs = none := by
  cases l with
  | nil => cases hc; rfl
  | cons x l =>
    cases x with
    | tmp t =>
      unfold rsC at hc
      split at hc
      · cases hc
      · split at hc
        · cases hc; rfl
        · cases hc
    | cell c t =>
      unfold rsC at hc
      split at hc
      · cases hc
      · split at hc
        · split at hc
          · split at hc
            · cases hc; rfl
            · cases hc; rfl
          · cases hc
        · cases hc
def bW (P : Program) (ty : TTy) (g : Nat) (b : Body) : Prop := ∃ fn A, P.funcs[g]? = some fn ∧ fn.name ≠ "runtime.NumGoroutine" ∧ Am ty A fn = some b
def Bi : Body := ⟨[], cNo⟩
theorem Co {n m : Nat} (h : n ≤ m) : ∀ {c : Code}, Bu n c = true → Bu m c = true
  | .region _ ops _, hd => by
    unfold Bu at hd ⊢
    rw [List.all_eq_true] at hd ⊢
    intro o ho
    have := hd o ho
    split at this
    · have := A3.1 this
      exact A3.2 (by omega)
    · rfl
  | .seq a b, hd => by
    have hd : (Bu n a && Bu n b) = true := hd
    rw [Bool.and_eq_true] at hd
    show (Bu m a && Bu m b) = true
    rw [Co h hd.1, Co h hd.2]; rfl
  | .cond _ a b, hd => by
    have hd : (Bu n a && Bu n b) = true := hd
    rw [Bool.and_eq_true] at hd
    show (Bu m a && Bu m b) = true
    rw [Co h hd.1, Co h hd.2]; rfl
  | .block _ a, hd => Co (c := a) h hd
  | .loop a, hd => Co (c := a) h hd
  | .skip, _ => rfl
  | .exit _, _ => rfl
  | .ret, _ => rfl
  | .rangeFunc _ _ _ _, _ => rfl
  | .scope a, hd => Co (c := a) h hd
  | .label _, _ => rfl
  | .goto _, _ => rfl
  | .refuse _, _ => rfl
theorem SD (hT : CL P ty) {F : CallF} (hF : CY P ty F) (hm : P.follows .mixedOrders = true) {g : Nat} {b : Body} (hb : bW P ty g b) {args : List Value} (hr : enter F b args h = .ok v h') :
    (∃ fn, P.funcs[g]? = some fn ∧ fn.name ≠ "runtime.NumGoroutine" ∧ fn.body.isNone = false) ∧
    ∀ φ w args', RelL φ args args' → RelW ty φ nil h w →
      Calls P g ⟨args'⟩ w fun en w' => ∃ v' ψ, en = .returned v' ∧ RelV ψ v v' ∧ RelW ty ψ nil h' w' ∧ Evo φ h w ψ h' w' := by
  obtain ⟨fn, A, hfn, hname, hbody⟩ := hb
  unfold Am at hbody
  cases hc : fn.body with
  | none => rw [hc] at hbody; cases hbody
  | some c =>
    rw [hc] at hbody
    simp only at hbody
    cases hrs : rsC ty A fn.results.toList with
    | none => rw [hrs] at hbody; cases hbody
    | some rs =>
      rw [hrs] at hbody
      simp only at hbody
      cases hd : Bu fn.ntmps c with
      | false => rw [hd] at hbody; cases hbody
      | true =>
        rw [hd] at hbody
        cases hbody
        refine ⟨⟨fn, hfn, hname, by rw [hc]; rfl⟩, fun φ w args' hrel HW => ?_⟩
        unfold enter at hr
        dsimp only at hr
        rw [Qu hrs] at hr
        obtain ⟨hlen, hr⟩ := BM hr
        have hlen : args.length ≤ 320 := by rw [← BD]; exact Ap.1 hlen
        have hAR := UQ (A := A) hrel hlen fn.ntmps
        refine calls_of_wp hfn hc ?_
        have hn : BH ty A c [] none F (Av e0 0 args) h ≠ .no := by
          intro hx; rw [hx] at hr; cases hr
        refine Cx hT hF hm c (e := Av e0 0 args) (h := h) rfl hn (Co (Nat.le_max_right _ _) hd) _ _ _ (.nil A) HW hAR _ { go := fun _ h => (by cases h), norm := fun _ e1 h1 ψ a1 w1 g1 hx => ?_, exit := fun id e1 h1 ψ a1 w1 g1 hx => ?_, ret := fun e1 h1 ψ a1 w1 g1 hx => ?_ }
        · rw [hx] at hr
          obtain ⟨rfl, v', hv, hrun⟩ := KB hT g1.rel g1.ar hrs hr
          exact ⟨g1.ar.defs, v', hrun, v', ψ, rfl, hv, g1.rel, g1.evo⟩
        · rw [hx] at hr; cases hr
        · rw [hx] at hr
          obtain ⟨rfl, v', hv, hrun⟩ := KB hT g1.rel g1.ar hrs hr
          exact ⟨g1.ar.defs, v', hrun, v', ψ, rfl, hv, g1.rel, g1.evo⟩
def Ih (P : Program) (ty : TTy) (g : Nat) (b : Body) : Prop := ∀ (F : CallF) (args : List Value) (h : Hp) (v : Value) (h' : Hp), CY P ty F → enter F b args h = .ok v h' →
    (∃ fn, P.funcs[g]? = some fn ∧ fn.name ≠ "runtime.NumGoroutine" ∧ fn.body.isNone = false) ∧
    ∀ φ w args', RelL φ args args' → RelW ty φ nil h w →
      Calls P g ⟨args'⟩ w fun en w' => ∃ v' ψ, en = .returned v' ∧ RelV ψ v v' ∧ RelW ty ψ nil h' w' ∧ Evo φ h w ψ h' w'
def A0 (P : Program) (ty : TTy) (g : Nat) (b : Body) : Prop := bW P ty g b ∨ b = Bi ∨ Ih P ty g b
def FT.All (p : Nat → Body → Prop) : FT → (Nat → Nat) → Prop
  | .mt, _ => True
  | .nd b l r, ix => p (ix 0) b ∧ FT.All p l (fun k => ix (2 * k + 1)) ∧ FT.All p r (fun k => ix (2 * k + 2))
theorem FT.All.get {p : Nat → Body → Prop} : ∀ {t : FT} {ix : Nat → Nat}, FT.All p t ix → ∀ {i : Nat} {b : Body}, t.get i = some b → p (ix i) b
  | .mt, ix, _, i, b, h => by cases h
  | .nd c l r, ix, ⟨h0, hl, hr⟩, 0, b, h => by cases h; exact h0
  | .nd c l r, ix, ⟨h0, hl, hr⟩, k + 1, b, h => by
    unfold FT.get at h
    have e1 : Nat.mod k 2 = k % 2 := rfl
    have e2 : Nat.div k 2 = k / 2 := rfl
    rw [e1, e2] at h
    rcases Nat.mod_two_eq_zero_or_one k with hk | hk
    · rw [hk] at h
      have := hl.get (i := k / 2) h
      have e : 2 * (k / 2) + 1 = k + 1 := by omega
      simp only [e] at this; exact this
    · rw [hk] at h
      have := hr.get (i := k / 2) h
      have e : 2 * (k / 2) + 2 = k + 1 := by omega
      simp only [e] at this; exact this
theorem Gn (hT : CL P ty) (hm : P.follows .mixedOrders = true) {bs : FT} (hb : FT.All (A0 P ty) bs id) : ∀ n, CY P ty (call bs n)
  | 0 => fun g args h v h' hr => by cases hr
  | n + 1 => fun g args h v h' hr => by
    have hr : (match bs.get g with | some b => enter (call bs n) b args h | none => .no) = .ok v h' := hr
    cases hg : bs.get g with
    | none => rw [hg] at hr; cases hr
    | some b =>
      rw [hg] at hr
      rcases hb.get hg with hok | rfl | hdo
      · exact SD hT (Gn hT hm hb n) hm hok hr
      · exfalso
        have hr : (bif Nat.ble (BR args) 320 then Bs [] .no else .no) = .ok v h' := hr
        obtain ⟨_, hr⟩ := BM hr
        cases hr
      · exact hdo _ args h v h' (Gn hT hm hb n) hr
end
end
end Go.Proofs.YtfeldadhbnmklaaGreat
set_option linter.unusedVariables false
namespace Go.Proofs.YtfeldadhbnmklaaGreat
noncomputable section
open Go Go.RowKit Go.WideShapes Go.ChangeShapes
def S8 : R → Bool
  | .ok (.bool b) _ => b
  | _ => false
def bF : Phi := fun _ => none
theorem Ki (ty : TTy) (w : World) : RelW ty bF nil GM w where
  dom := fun i p h => by cases h
  inj := fun i j p q h => by cases h
  row := fun i p h => by cases h
  fresh := fun i _ => Hh 9 i
  kind := fun i p c s e h => by cases h
  inp := fun i p h => by cases h
theorem TV {P : Program} {ty : TTy} {bs : FT} (hC : ∀ n, CY P ty (call bs n)) {n f : Nat} (h : S8 (call bs n f [] GM) = true) (w : World) :
    Calls P f #[] w fun e w' => e = .returned (.bool true) ∧ Below w.heap.size w w' := by
  cases hr : call bs n f [] GM with
  | no => rw [hr] at h; cases h
  | ok v h' =>
    rw [hr] at h
    obtain ⟨_, hc⟩ := hC n f [] GM v h' hr
    refine (hc bF w [] .nil (Ki ty w)).mono fun e w' ⟨v', ψ, he, hv, _, ev⟩ => ?_
    cases v with
    | bool b =>
      have h : b = true := h
      subst h
      have := hv.bool_inv
      subst this
      exact ⟨he, ⟨ev.os, ev.tape, ev.output, ev.size, fun k hk => ev.frame k hk fun i p hp => by cases hp⟩⟩
    | _ => cases h
section
variable {H : Type} {enc : TypeId × Value → H} {P : Program}
theorem Jw {f : Func} {s : ChangeSpec} {apart fresh handsOn again : Bool} {W W' : World} {args : Array Value} {v : Value} {ds gs : List (DataW H)} {before pa pv : List MemPlace}
    (hW : DataW.Whole enc P f.params.toList s.vars apart W args.toList ds gs before)
    (hres : ∀ (b : Nat) (sp : Nat → Bool) (hd : Bool), DataW.TrodAll enc P W' b sp hd f.resultTypes.toList (v.resultList f.resultTypes.size) (s.fn H (ds ++ gs)).results [])
    (hargs : ∀ sp : Nat → Bool, (∀ p ∈ before, sp p.block = true) → DataW.TrodAll enc P W' 0 sp true f.params.toList args.toList (s.fn H (ds ++ gs)).args pa)
    (hvars : ∀ sp : Nat → Bool, (∀ p ∈ before, sp p.block = true) → DataW.TrodVars enc P W' sp s.vars (s.fn H (ds ++ gs)).vars pv)
    (hps : before = pa ++ pv) (hb : Below W.heap.size W W')
    (hok : ∀ (j : Nat) (t : TypeId) (r : Value), f.resultTypes[j]? = some t → (v.resultList f.resultTypes.size)[j]? = some r → Value.okWide P W' .any 0 t r) :
    s.post enc P f apart fresh handsOn again W args v W' := by
  have hlt : ∀ p ∈ before, p.block < W.heap.size := fun p hp => hW.lt p hp
  have hold : ∀ p ∈ before, (fun b => decide (b < W.heap.size)) p.block = true := fun p hp => by simpa using hlt p hp
  refine ⟨ds, gs, before, [], pa, pv, hW, hres _ _ _, hargs _ hold, hvars _ hold, World.keptBut_mono (fun p hp => ⟨hp, ?_⟩) (hb.frame (· ∈ before)), fun _ => ?_⟩
  · rw [hps, List.mem_append] at hp
    exact Or.inr hp
  · obtain ⟨_, _, _, _, _, hz, hn⟩ := hW
    refine ⟨hok, _, _, ([] ++ pa) ++ pv, ⟨[] ++ pa, pv, trodAll_append (hargs _ (fun _ _ => rfl)) (hres _ _ _), hvars _ (fun _ _ => rfl), rfl, ?_, ?_⟩, ?_⟩
    · intro b off hp
      have hin : MemPlace.cell b off ∈ before := by rw [hps]; simpa using hp
      rw [hb.frozen (hlt _ hin)]
      exact hz b off hin
    · intro ha
      have := hn ha
      rw [hps] at this
      simpa using this
    · intro p hp _
      rw [hps]
      simpa using hp
end
end
end Go.Proofs.YtfeldadhbnmklaaGreat
namespace Go.Proofs.YtfeldadhbnmklaaGreat
noncomputable section
open Go
namespace VT
def has : VT → Nat → Prop
  | .mt, _ => False
  | .nd _ _ _, 0 => True
  | .nd _ l r, k + 1 => if k % 2 = 0 then l.has (k / 2) else r.has (k / 2)
theorem has_succ (v : Value) (l r : VT) (k : Nat) : (VT.nd v l r).has (k + 1) = if k % 2 = 0 then l.has (k / 2) else r.has (k / 2) := by rw [has]
theorem EB : ∀ (t : VT) (i : Nat) (x : Value), (∀ j, j < i → t.has j) → ∃ t', t.set i x = some t'
  | .mt, 0, x, _ => ⟨_, rfl⟩
  | .mt, i + 1, x, h => (h 0 (Nat.succ_pos i)).elim
  | .nd v l r, 0, x, _ => ⟨_, rfl⟩
  | .nd v l r, k + 1, x, h => by
    rw [Cs]
    by_cases hk : k % 2 = 0
    · rw [if_pos hk]
      obtain ⟨l', hl⟩ := EB l (k / 2) x fun j hj => by
        have := h (2 * j + 1) (by omega)
        rw [has_succ, if_pos (by omega)] at this
        have e : 2 * j / 2 = j := by omega
        rwa [e] at this
      rw [hl]; exact ⟨_, rfl⟩
    · rw [if_neg hk]
      obtain ⟨r', hr⟩ := EB r (k / 2) x fun j hj => by
        have := h (2 * j + 1 + 1) (by omega)
        rw [has_succ, if_neg (by omega)] at this
        have e : (2 * j + 1) / 2 = j := by omega
        rwa [e] at this
      rw [hr]; exact ⟨_, rfl⟩
theorem FN : ∀ (t : VT) (i : Nat) (x : Value) (t' : VT), t.set i x = some t' → ∀ j, (j = i ∨ t.has j) → t'.has j
  | .mt, 0, x, t', h, j, hj => by
    obtain rfl : VT.nd x .mt .mt = t' := Option.some.inj h
    rcases hj with rfl | hj
    · exact trivial
    · exact hj.elim
  | .mt, i + 1, x, t', h, j, hj => by cases h
  | .nd v l r, 0, x, t', h, j, hj => by
    obtain rfl : VT.nd x l r = t' := Option.some.inj h
    cases j with
    | zero => exact trivial
    | succ j =>
      rcases hj with hj | hj
      · cases hj
      · rw [has_succ] at hj ⊢; exact hj
  | .nd v l r, i + 1, x, t', h, j, hj => by
    rw [Cs] at h
    split at h
    · rename_i h0
      cases hs : l.set (i / 2) x with
      | none => rw [hs] at h; cases h
      | some l' =>
        rw [hs] at h
        obtain rfl : VT.nd v l' r = t' := Option.some.inj h
        cases j with
        | zero => exact trivial
        | succ j =>
          rw [has_succ]
          split
          · rename_i h1
            refine FN l _ x l' hs _ ?_
            rcases hj with hj | hj
            · left; have : j = i := by omega
              rw [this]
            · right; rw [has_succ, if_pos h1] at hj; exact hj
          · rename_i h1
            rcases hj with hj | hj
            · have : j = i := by omega
              exact absurd (this ▸ h0) h1
            · rw [has_succ, if_neg h1] at hj; exact hj
    · rename_i h0
      cases hs : r.set (i / 2) x with
      | none => rw [hs] at h; cases h
      | some r' =>
        rw [hs] at h
        obtain rfl : VT.nd v l r' = t' := Option.some.inj h
        cases j with
        | zero => exact trivial
        | succ j =>
          rw [has_succ]
          split
          · rename_i h1
            rcases hj with hj | hj
            · have : j = i := by omega
              exact absurd (this ▸ h1) h0
            · rw [has_succ, if_pos h1] at hj; exact hj
          · rename_i h1
            refine FN r _ x r' hs _ ?_
            rcases hj with hj | hj
            · left; have : j = i := by omega
              rw [this]
            · right; rw [has_succ, if_neg h1] at hj; exact hj
def lay (t : VT) (i : Nat) (x : Value) : VT := (t.set i x).getD t
theorem lay_is {t : VT} {i : Nat} {x : Value} (h : ∀ j, j < i → t.has j) : t.set i x = some (t.lay i x) := by
  obtain ⟨t', ht⟩ := EB t i x h
  unfold lay; rw [ht]; rfl
theorem lay_get {t : VT} {i : Nat} {x : Value} (h : ∀ j, j < i → t.has j) (j : Nat) : (t.lay i x).get j = if j = i then x else t.get j := get_set _ _ _ _ (lay_is h) j
theorem lay_has {t : VT} {i : Nat} {x : Value} (h : ∀ j, j < i → t.has j) (j : Nat) (hj : j = i ∨ t.has j) : (t.lay i x).has j := FN _ _ _ _ (lay_is h) j hj
end VT
namespace BT
def has : BT → Nat → Prop
  | .mt, _ => False
  | .nd _ _ _, 0 => True
  | .nd _ l r, k + 1 => if k % 2 = 0 then l.has (k / 2) else r.has (k / 2)
theorem has_succ (v : Blk) (l r : BT) (k : Nat) : (BT.nd v l r).has (k + 1) = if k % 2 = 0 then l.has (k / 2) else r.has (k / 2) := by rw [has]
theorem EB : ∀ (t : BT) (i : Nat) (x : Blk), (∀ j, j < i → t.has j) → ∃ t', t.set i x = some t'
  | .mt, 0, x, _ => ⟨_, rfl⟩
  | .mt, i + 1, x, h => (h 0 (Nat.succ_pos i)).elim
  | .nd v l r, 0, x, _ => ⟨_, rfl⟩
  | .nd v l r, k + 1, x, h => by
    rw [Cs]
    by_cases hk : k % 2 = 0
    · rw [if_pos hk]
      obtain ⟨l', hl⟩ := EB l (k / 2) x fun j hj => by
        have := h (2 * j + 1) (by omega)
        rw [has_succ, if_pos (by omega)] at this
        have e : 2 * j / 2 = j := by omega
        rwa [e] at this
      rw [hl]; exact ⟨_, rfl⟩
    · rw [if_neg hk]
      obtain ⟨r', hr⟩ := EB r (k / 2) x fun j hj => by
        have := h (2 * j + 1 + 1) (by omega)
        rw [has_succ, if_neg (by omega)] at this
        have e : (2 * j + 1) / 2 = j := by omega
        rwa [e] at this
      rw [hr]; exact ⟨_, rfl⟩
theorem FN : ∀ (t : BT) (i : Nat) (x : Blk) (t' : BT), t.set i x = some t' → ∀ j, (j = i ∨ t.has j) → t'.has j
  | .mt, 0, x, t', h, j, hj => by
    obtain rfl : BT.nd x .mt .mt = t' := Option.some.inj h
    rcases hj with rfl | hj
    · exact trivial
    · exact hj.elim
  | .mt, i + 1, x, t', h, j, hj => by cases h
  | .nd v l r, 0, x, t', h, j, hj => by
    obtain rfl : BT.nd x l r = t' := Option.some.inj h
    cases j with
    | zero => exact trivial
    | succ j =>
      rcases hj with hj | hj
      · cases hj
      · rw [has_succ] at hj ⊢; exact hj
  | .nd v l r, i + 1, x, t', h, j, hj => by
    rw [Cs] at h
    split at h
    · rename_i h0
      cases hs : l.set (i / 2) x with
      | none => rw [hs] at h; cases h
      | some l' =>
        rw [hs] at h
        obtain rfl : BT.nd v l' r = t' := Option.some.inj h
        cases j with
        | zero => exact trivial
        | succ j =>
          rw [has_succ]
          split
          · rename_i h1
            refine FN l _ x l' hs _ ?_
            rcases hj with hj | hj
            · left; have : j = i := by omega
              rw [this]
            · right; rw [has_succ, if_pos h1] at hj; exact hj
          · rename_i h1
            rcases hj with hj | hj
            · have : j = i := by omega
              exact absurd (this ▸ h0) h1
            · rw [has_succ, if_neg h1] at hj; exact hj
    · rename_i h0
      cases hs : r.set (i / 2) x with
      | none => rw [hs] at h; cases h
      | some r' =>
        rw [hs] at h
        obtain rfl : BT.nd v l r' = t' := Option.some.inj h
        cases j with
        | zero => exact trivial
        | succ j =>
          rw [has_succ]
          split
          · rename_i h1
            rcases hj with hj | hj
            · have : j = i := by omega
              exact absurd (this ▸ h1) h0
            · rw [has_succ, if_pos h1] at hj; exact hj
          · rename_i h1
            refine FN r _ x r' hs _ ?_
            rcases hj with hj | hj
            · left; have : j = i := by omega
              rw [this]
            · right; rw [has_succ, if_neg h1] at hj; exact hj
def lay (t : BT) (i : Nat) (x : Blk) : BT := (t.set i x).getD t
theorem lay_is {t : BT} {i : Nat} {x : Blk} (h : ∀ j, j < i → t.has j) : t.set i x = some (t.lay i x) := by
  obtain ⟨t', ht⟩ := EB t i x h
  unfold lay; rw [ht]; rfl
theorem lay_get {t : BT} {i : Nat} {x : Blk} (h : ∀ j, j < i → t.has j) (j : Nat) : (t.lay i x).get j = if j = i then x else t.get j := get_set _ _ _ _ (lay_is h) j
theorem lay_has {t : BT} {i : Nat} {x : Blk} (h : ∀ j, j < i → t.has j) (j : Nat) (hj : j = i ∨ t.has j) : (t.lay i x).has j := FN _ _ _ _ (lay_is h) j hj
end BT
end
end Go.Proofs.YtfeldadhbnmklaaGreat
set_option linter.unusedVariables false
set_option linter.unusedSimpArgs false
namespace Go.Proofs.YtfeldadhbnmklaaGreat
noncomputable section
open Go
section
variable {F : CallF} {e : Env} {h h' : Hp} {k a b : C} {f : OpF} {x y : O}
def opX (i : Nat) (r : R) (k : C) (F : CallF) (e : Env) : X := match r with
  | .ok v h => k F (Env.set i v e) h
  | .no => .no
def doX (r : R) (k : C) (F : CallF) (e : Env) : X := match r with
  | .ok _ h => k F e h
  | .no => .no
def Qv (x : X) (b : C) (F : CallF) : X := match x with
  | .norm e h => b F e h
  | x => x
def GQ (id : Nat) (x : X) : X := match x with
  | .exit i e h => bif Nat.beq i id then .norm e h else .exit i e h
  | x => x
def O4 (v : Value) (a b : C) (F : CallF) (e : Env) (h : Hp) : X := match v with
  | .bool c => (bif c then a else b) F e h
  | _ => .no
def Tc (i : Nat) (k : C) : C := fun F e h => k F (Env.set i noRes e) h
def GV (v : Value) (want : Bool) (a b : C) (F : CallF) (e : Env) (h : Hp) : X := match v with
  | .bool c => (bif want == c then a else b) F e h
  | .tuple _ => b F e h
  | _ => .no
theorem El {i : Nat} {v : Value} : opX i (.ok v h) k F e = k F (Env.set i v e) h := rfl
theorem SA {v : Value} : doX (.ok v h) k F e = k F e h := rfl
theorem Bd : Qv (.norm e h) b F = b F e h := rfl
theorem DL : Qv (.ret e h) b F = .ret e h := rfl
theorem Kh {i : Nat} : Qv (.exit i e h) b F = .exit i e h := rfl
theorem Dd {i : Nat} : GQ i (.norm e h) = .norm e h := rfl
theorem Bf {i : Nat} : GQ i (.ret e h) = .ret e h := rfl
theorem BN {i : Nat} : GQ i (.exit i e h) = .norm e h := by
  show (bif Nat.beq i i then _ else _) = _
  rw [Nat.beq_refl]; rfl
theorem GR : O4 (.bool true) a b F e h = a F e h := rfl
theorem ES : O4 (.bool false) a b F e h = b F e h := rfl
theorem KJ : GV (.bool true) true a b F e h = a F e h := rfl
theorem KI : GV (.bool true) false a b F e h = b F e h := rfl
theorem KH : GV (.bool false) true a b F e h = b F e h := rfl
theorem KG : GV (.bool false) false a b F e h = a F e h := rfl
theorem H5 {w : Bool} : GV noRes w a b F e h = b F e h := rfl
theorem NL {i : Nat} : Tc i k F e h = k F (Env.set i noRes e) h := rfl
theorem Ee {i : Nat} (hi : i < 320) : cOp (AD i) f k F e h = opX i (f F e h) k F e := by
  unfold cOp opX
  cases f F e h with
  | ok v h => exact C1 i hi _ v e
  | no => rfl
theorem Rg : cDo f k F e h = doX (f F e h) k F e := by
  unfold cDo doX
  cases f F e h <;> rfl
theorem Xt {g : O} {w : Bool} {i : Nat} (hi : i < 320) : cG g w (AD i) f k F e h = GV (g e) w (cOp (AD i) f k) (Tc i k) F e h := by
  unfold cG GV Tc
  cases g e with
  | bool c =>
    simp only
    cases w == c
    · exact C1 i hi _ _ e
    · rfl
  | tuple l => exact C1 i hi _ _ e
  | _ => rfl
theorem Bj : Al a b F e h = Qv (a F e h) b F := by
  unfold Al Qv
  cases a F e h <;> rfl
theorem BI {i : Nat} : AK i a F e h = GQ i (a F e h) := by
  unfold AK GQ
  cases a F e h <;> rfl
theorem Fa : AJ x a b F e h = O4 (x e) a b F e h := by
  unfold AJ O4
  cases x e with
  | bool c => cases c <;> rfl
  | _ => rfl
theorem In : AO F e h = .norm e h := rfl
theorem O3 : AU F e h = .ret e h := rfl
theorem Lt {i : Nat} : At i F e h = .exit i e h := rfl
theorem AF {i j : Nat} {v : Value} (hi : i < 320) (hj : j < 320) : AB j (Env.set i v e) = if j = i then v else AB j e := by
  rw [Bm j hj, Env.get_set _ _ _ _ hi hj, Bm j hj]
theorem GK {v : Value} : kV v e = v := rfl
theorem Ax : vals e [] = [] := rfl
theorem Ah {l : List O} : vals e (x :: l) = x e :: vals e l := rfl
theorem Ab {i : Nat} : Av e i [] = e := rfl
theorem Aa {i : Nat} {v : Value} {l : List Value} : Av e i (v :: l) = Av (Env.set i v e) (Nat.succ i) l := rfl
theorem Cz : AC x F e h = .ok (x e) h := Df _ _
theorem Da {j : IntKind} {n : Int} : B9 j (.int j n) = .ok n := by cases j <;> rfl
theorem V4 {j : IntKind} {n : Nat} : EL j (.int j (.ofNat n)) = .ok n := by cases j <;> rfl
theorem F1 {j : IntKind} {n : Nat} : EL j (.int j (n : Int)) = .ok n := V4
theorem Dv {j : IntKind} {n : Nat} : Cy (.int j (n : Int)) = .ok n := rfl
theorem Hs {c : Bool} : okB c h = .ok (.bool c) h := by cases c <;> rfl
theorem D3 (a b : Int) : iGt a b = decide (b < a) := CM b a
theorem N8 (a b : Int) : iLe a b = decide (a ≤ b) := by
  show (!iLt b a) = _
  rw [CM, ← decide_not]
  congr 1; simp
theorem SP (a b : Int) : iGe a b = decide (b ≤ a) := N8 b a
theorem GW (a b : Int) : iNe a b = !(a == b) := by
  show (!iEq a b) = _
  rw [Cp]
def Zz (f : Int → Int → Bool) (j : IntKind) (a b : Value) (h : Hp) : R := VI f (B9 j a) (B9 j b) h
def GD (f : Int → Int → Int) (j : IntKind) (a b : Value) (h : Hp) : R := YC f j (B9 j a) (B9 j b) h
theorem Ae {f : Int → Int → Bool} {j : IntKind} : AM f j x y F e h = Zz f j (x e) (y e) h := rfl
theorem C3 {f : Int → Int → Int} {j : IntKind} : As f j x y F e h = GD f j (x e) (y e) h := rfl
theorem Ad {f : Int → Int → Bool} {j : IntKind} {m n : Int} : Zz f j (.int j m) (.int j n) h = .ok (.bool (f m n)) h := by
  unfold Zz
  rw [Da, Da]; exact Hs
theorem Ct {f : Int → Int → Int} {j : IntKind} {m n : Int} : GD f j (.int j m) (.int j n) h = .ok (.int j (j.wrap (f m n))) h := by
  unfold GD
  rw [Da, Da]
  show okI j (DN j (f m n)) h = _
  rw [Dk, CR]
def FV (j : IntKind) (a b : Value) (h : Hp) : R := UO j (AQ j) (B9 j a) (B9 j b) h
theorem Bt {j : IntKind} : Ai j (AQ j) x y F e h = FV j (x e) (y e) h := rfl
theorem UF {j : IntKind} {n : Nat} (hn : Nat.ble n (AQ j) = true) : j.wrap (n : Int) = n := by
  rw [← CR]
  show Bool.rec (motive := fun _ => Int) (j.wrap (.ofNat n)) (.ofNat n) (Nat.ble n (AQ j)) = _
  rw [hn]; rfl
theorem CZ {j : IntKind} {m n : Int} : FV j (.int j m) (.int j n) h = .ok (.int j (j.wrap (m + n))) h := by
  unfold FV
  rw [Da, Da]
  cases m with
  | negSucc m => show okI j (DN j _) h = _; rw [Dk, CR]
  | ofNat m =>
    cases n with
    | negSucc n => show okI j (DN j _) h = _; rw [Dk, CR]
    | ofNat n =>
      show Bool.rec (motive := fun _ => R) (okI j (j.wrap (.ofNat m + .ofNat n)) h) (forceN (Nat.add m n) fun n => .ok (.int j (.ofNat n)) h) (Nat.ble (Nat.add m n) (AQ j)) = _
      cases hb : Nat.ble (Nat.add m n) (AQ j) with
      | false => simp only; rw [Dk]
      | true =>
        simp only
        rw [Ao]
        have := UF hb
        have e : (Int.ofNat m + Int.ofNat n : Int) = ((Nat.add m n : Nat) : Int) := by
          show ((m : Int) + (n : Int)) = ((m + n : Nat) : Int)
          omega
        rw [e, this]; rfl
def Iy (j : IntKind) (a b : Value) (h : Hp) : R := R7 j (B9 j a) (B9 j b) h
def Ob (j : IntKind) (a b : Value) (h : Hp) : R := TQ j (B9 j a) (B9 j b) h
theorem G7 {j : IntKind} : Ch j x y F e h = Iy j (x e) (y e) h := rfl
theorem HB {j : IntKind} : GF j x y F e h = Ob j (x e) (y e) h := rfl
theorem Gr {j : IntKind} {m n : Int} (hn : n ≠ 0) : Iy j (.int j m) (.int j n) h = .ok (.int j (j.wrap (m.tdiv n))) h := by
  unfold Iy
  rw [Da, Da]
  show (bif iEq n 0 then R.no else okI j (DN j (m.tdiv n)) h) = _
  rw [Cp, Dk, CR, beq_false_of_ne hn]; rfl
theorem IZ {j : IntKind} {m n : Int} (hn : n ≠ 0) : Ob j (.int j m) (.int j n) h = .ok (.int j (m.tmod n)) h := by
  unfold Ob
  rw [Da, Da]
  show (bif iEq n 0 then R.no else okI j (m.tmod n) h) = _
  rw [Cp, Dk, beq_false_of_ne hn]; rfl
def RW (f : Nat → Nat → Nat) (j : IntKind) (a b : Value) (h : Hp) : R := RU f j (EL j a) (EL j b) h
theorem Pj {f : Nat → Nat → Nat} {j : IntKind} : DP f j x y F e h = RW f j (x e) (y e) h := rfl
theorem O0 {f : Nat → Nat → Nat} {j : IntKind} {m n : Nat} (hm : m ≤ AQ j) (hn : n ≤ AQ j) : RW f j (.int j (m : Int)) (.int j (n : Int)) h = .ok (.int j (f m n : Nat)) h := by
  unfold RW
  rw [F1, F1]
  show (bif Nat.ble m (AQ j) then (bif Nat.ble n (AQ j) then okI j (.ofNat (f m n)) h else R.no) else R.no) = _
  rw [Ap.2 hm, Ap.2 hn, Dk]; rfl
def W8 (j : IntKind) (a b : Value) (h : Hp) : R := TZ j (EL j a) (Cy b) h
def Tb (j : IntKind) (a b : Value) (h : Hp) : R := Ta j (EL j a) (Cy b) h
theorem Pn {j : IntKind} : Ga j x y F e h = W8 j (x e) (y e) h := rfl
theorem Po {j : IntKind} : FE j x y F e h = Tb j (x e) (y e) h := rfl
theorem W9 {j q : IntKind} {m n : Nat} : W8 j (.int j (m : Int)) (.int q (n : Int)) h = .ok (.int j (j.wrap ((m * 2 ^ min n j.bits : Nat) : Int))) h := by
  unfold W8
  rw [F1, Dv]
  show okI j (DN j (.ofNat (Nat.mul m (Nat.pow 2 (Bh n j.bits))))) h = _
  rw [Dk, CR, BU]; rfl
theorem Ps {j q : IntKind} {m n : Nat} : Tb j (.int j (m : Int)) (.int q (n : Int)) h = .ok (.int j ((m / 2 ^ min n j.bits : Nat) : Int)) h := by
  unfold Tb
  rw [F1, Dv]
  show okI j (.ofNat (Nat.div m (Nat.pow 2 (Bh n j.bits)))) h = _
  rw [Dk, BU]; rfl
def CV (j : IntKind) (a : Value) (h : Hp) : R := match QN a with
  | .ok n => okI j (DN j n) h
  | .no => .no
theorem Ba {j : IntKind} : An j x F e h = CV j (x e) h := rfl
theorem Bp {j q : IntKind} {n : Int} : CV j (.int q n) h = .ok (.int j (j.wrap n)) h := by
  show okI j (DN j n) h = _
  rw [Dk, CR]
def ef (a : Value) (h : Hp) : R := match a with
  | .bool b => okB (!b) h
  | _ => .no
theorem Cl : Bo x F e h = ef (x e) h := rfl
theorem Ck {c : Bool} : ef (.bool c) h = .ok (.bool (!c)) h := Hs
def TL (c a b : Value) (h : Hp) : R := TM c a b h
theorem Mp {c : O} : AW c x y F e h = TL (c e) (x e) (y e) h := rfl
theorem JX {v u : Value} : TL (.bool true) v u h = .ok v h := Df _ _
theorem IA {v u : Value} : TL (.bool false) v u h = .ok u h := Df _ _
theorem Ay {g : Nat} {l : List O} : AL g l F e h = F g (vals e l) h := CN _ _
theorem BQ {bs : FT} {n f : Nat} {b : Body} (hb : bs.get f = some b) {args : List Value} : call bs (Nat.succ n) f args h = enter (call bs n) b args h := by
  show (match bs.get f with | some b => enter (call bs n) b args h | none => .no) = _
  rw [hb]
theorem BJ {rs : List RV} {c : C} {args : List Value} (hl : Nat.ble (BR args) 320 = true) (hx : Ov rs = none := by rfl) : enter F ⟨rs, c⟩ args h = Bs rs (c F (Av e0 0 args) h) := by
  unfold enter
  rw [hx]
  show (bif Nat.ble (BR args) 320 then Bs rs (c F (Av e0 0 args) h) else .no) = _
  rw [hl]; rfl
theorem Ak {rs : List RV} : Bs rs (.ret e h) = E8 rs e h := rfl
theorem A1 {g : O} : E8 [.t g] e h = .ok (g e) h := by
  show forceV (g e) _ = _
  rw [A7]; rfl
theorem D1 {g g' : O} : E8 [.t g, .t g'] e h = .ok (.tuple ⟨[g e, g' e]⟩) h := by
  show forceV (g e) (fun v => forceV (g' e) _) = _
  rw [A7, A7]; rfl
theorem I4 {g g' g'' : O} : E8 [.t g, .t g', .t g''] e h = .ok (.tuple ⟨[g e, g' e, g'' e]⟩) h := by
  show forceV (g e) (fun v => forceV (g' e) (fun v => forceV (g'' e) _)) = _
  rw [A7, A7, A7]; rfl
def Er (i : Nat) (a : Value) (h : Hp) : R := match a with
  | .tuple vs => match nth vs.toList i with
    | some v => .ok v h
    | none => .no
  | _ => .no
theorem Bw {i : Nat} : AN i x F e h = Er i (x e) h := by
  show (match x e with | .tuple vs => (match nth vs.toList i with | some v => forceV v fun v => .ok v h | none => .no) | _ => .no) = _
  unfold Er
  cases x e with
  | tuple vs =>
    simp only
    cases nth vs.toList i with
    | some v => exact A7 _ _
    | none => rfl
  | _ => rfl
theorem CD {v : Value} {l : List Value} : Er 0 (.tuple ⟨v :: l⟩) h = .ok v h := rfl
theorem CE {u v : Value} {l : List Value} : Er 1 (.tuple ⟨u :: v :: l⟩) h = .ok v h := rfl
theorem C4 {t u v : Value} {l : List Value} : Er 2 (.tuple ⟨t :: u :: v :: l⟩) h = .ok v h := rfl
end
end
end Go.Proofs.YtfeldadhbnmklaaGreat
set_option linter.unusedVariables false
set_option linter.unusedSimpArgs false
namespace Go.Proofs.YtfeldadhbnmklaaGreat
noncomputable section
open Go
section
variable {F : CallF} {e : Env} {h h' : Hp} {x y : O}
structure Hp.Wf (h : Hp) : Prop where
  big : 256 ≤ h.next
  has : ∀ i, i < h.next → h.bl.has i
  fresh : ∀ i, h.next ≤ i → h.bl.get i = .dead
def Hp.push (h : Hp) (o : Blk) : Hp := { next := Nat.succ h.next, low := h.low, high := h.high, mark := h.mark, bl := h.bl.lay h.next o }
def Hp.put (h : Hp) (b : Nat) (o : Blk) : Hp := { next := h.next, low := Bh h.low b, high := CS h.high b, mark := h.mark, bl := h.bl.lay b o }
theorem DX (W : h.Wf) {o : Blk} {K : Nat → Hp → R} : Ei h o K = K h.next (h.push o) := by
  unfold Ei
  rw [BT.lay_is fun j hj => W.has j hj]
  simp only [Ao]; rfl
theorem Ht (W : h.Wf) {b : Nat} (h256 : 256 ≤ b) (hb : b < h.next) {o : Blk} {K : Hp → R} : DI h b o K = K (h.put b o) := by
  unfold DI
  rw [BT.lay_is fun j hj => W.has j (Nat.lt_trans hj hb), Ap.2 h256]
  simp only [Ao]; rfl
theorem Hp.Wf.push_get (W : h.Wf) (o : Blk) (i : Nat) : (h.push o).bl.get i = if i = h.next then o else h.bl.get i := BT.lay_get (fun j hj => W.has j hj) i
theorem Hp.Wf.put_get (W : h.Wf) {b : Nat} (hb : b < h.next) (o : Blk) (i : Nat) : (h.put b o).bl.get i = if i = b then o else h.bl.get i := BT.lay_get (fun j hj => W.has j (Nat.lt_trans hj hb)) i
theorem Hp.Wf.push (W : h.Wf) (o : Blk) : (h.push o).Wf where
  big := Nat.le_succ_of_le W.big
  has := fun i hi => BT.lay_has (fun j hj => W.has j hj) i (by
    have hi : i < h.next + 1 := hi
    rcases Nat.lt_or_ge i h.next with h1 | h1
    · exact .inr (W.has i h1)
    · exact .inl (by omega))
  fresh := fun i hi => by
    have hi : h.next + 1 ≤ i := hi
    rw [W.push_get o i, if_neg (by omega)]
    exact W.fresh i (by omega)
theorem Hp.Wf.put (W : h.Wf) {b : Nat} (hb : b < h.next) (o : Blk) : (h.put b o).Wf where
  big := W.big
  has := fun i hi => BT.lay_has (fun j hj => W.has j (Nat.lt_trans hj hb)) i (.inr (W.has i hi))
  fresh := fun i hi => by
    have hi : h.next ≤ i := hi
    rw [W.put_get hb o i, if_neg (by omega)]
    exact W.fresh i hi
structure Hp.Ext (h h' : Hp) : Prop where
  next : h.next ≤ h'.next
  get : ∀ i, i < h.next → h'.bl.get i = h.bl.get i
  low : min h.low h.next ≤ h'.low
  wf : h'.Wf
theorem Hp.Ext.refl (W : h.Wf) : h.Ext h := ⟨Nat.le_refl _, fun _ _ => rfl, Nat.min_le_left _ _, W⟩
theorem Hp.Ext.trans {h₁ h₂ h₃ : Hp} (a : h₁.Ext h₂) (b : h₂.Ext h₃) : h₁.Ext h₃ where
  next := Nat.le_trans a.next b.next
  get := fun i hi => by rw [b.get i (Nat.lt_of_lt_of_le hi a.next), a.get i hi]
  low := by have := a.low; have := b.low; have := a.next; omega
  wf := b.wf
theorem Hp.Ext.push (a : h.Ext h') (o : Blk) : h.Ext (h'.push o) where
  next := Nat.le_succ_of_le a.next
  get := fun i hi => by rw [a.wf.push_get, if_neg (by have := a.next; omega), a.get i hi]
  low := a.low
  wf := a.wf.push o
theorem Hp.Ext.put (a : h.Ext h') {b : Nat} (h1 : h.next ≤ b) (hb : b < h'.next) (o : Blk) : h.Ext (h'.put b o) where
  next := a.next
  get := fun i hi => by rw [a.wf.put_get hb, if_neg (by omega), a.get i hi]
  low := by
    show _ ≤ Bh h'.low b
    rw [BU]
    have := a.low; omega
  wf := a.wf.put hb o
def VT.Is (t : VT) (l : List Value) : Prop := ∀ i, i < l.length → t.has i ∧ t.get i = l.getD i noRes
theorem Dz : ∀ (vs : List Value) (t : VT) (l : List Value) (i : Nat), t.Is l → i + vs.length ≤ l.length ∨ i = l.length → ∃ t', CH t i vs = some t' ∧ t'.Is (l.take i ++ vs ++ l.drop (i + vs.length))
  | [], t, l, i, ht, hi => ⟨t, rfl, by simpa using ht⟩
  | v :: vs, t, l, i, ht, hi => by
    have hi' : i ≤ l.length := by simp only [List.length_cons] at hi; omega
    have hh : ∀ j, j < i → t.has j := fun j hj => (ht j (by omega)).1
    have h1 : (t.lay i v).Is (l.take i ++ [v] ++ l.drop (i + 1)) := fun j hj => by
      have hl : (l.take i).length = i := by simp; omega
      refine ⟨VT.lay_has hh j ?_, ?_⟩
      · by_cases hji : j = i
        · exact .inl hji
        · right
          refine (ht j ?_).1
          simp only [List.length_append, List.length_cons, List.length_nil, List.length_drop, List.length_take] at hj
          omega
      · rw [VT.lay_get hh]
        by_cases hji : j = i
        · rw [if_pos hji, hji, List.getD_eq_getElem?_getD, List.append_assoc, List.getElem?_append_right (by omega)]
          simp [hl]
        · rw [if_neg hji]
          have hjl : j < l.length := by
            simp only [List.length_append, List.length_cons, List.length_nil, List.length_drop, List.length_take] at hj
            omega
          rw [(ht j hjl).2, List.getD_eq_getElem?_getD, List.getD_eq_getElem?_getD]
          congr 1
          rcases Nat.lt_or_ge j i with h2 | h2
          · rw [List.append_assoc, List.getElem?_append_left (by omega), List.getElem?_take, if_pos h2]
          · rw [List.getElem?_append_right (by simp only [List.length_append, hl, List.length_cons, List.length_nil]; omega), List.getElem?_drop]
            congr 1
            simp only [List.length_append, hl, List.length_cons, List.length_nil]; omega
    have hlen : (l.take i ++ [v] ++ l.drop (i + 1)).length = max l.length (i + 1) := by
      simp only [List.length_append, List.length_cons, List.length_nil, List.length_drop, List.length_take]; omega
    obtain ⟨t', h2, h3⟩ := Dz vs (t.lay i v) _ (i + 1) h1 (by simp only [List.length_cons] at hi; omega)
    refine ⟨t', ?_, ?_⟩
    · show (match t.set i v with | some t' => CH t' (Nat.succ i) vs | none => none) = _
      rw [VT.lay_is hh]; exact h2
    · have e : (l.take i ++ [v] ++ l.drop (i + 1)).take (i + 1) ++ vs ++ (l.take i ++ [v] ++ l.drop (i + 1)).drop (i + 1 + vs.length) = l.take i ++ (v :: vs) ++ l.drop (i + (v :: vs).length) := by
        have hl : (l.take i ++ [v]).length = i + 1 := by simp; omega
        rw [List.take_left' hl]
        have e2 : i + 1 + vs.length = (l.take i ++ [v]).length + vs.length := by rw [hl]
        rw [e2, List.drop_length_add_append, List.drop_drop]
        have e3 : i + 1 + vs.length = i + (v :: vs).length := by simp only [List.length_cons]; omega
        rw [e3]; simp
      rw [e] at h3; exact h3
theorem ed : VT.mt.Is [] := fun i h => by cases h
def ofL (l : List Value) : VT := (CH .mt 0 l).getD .mt
theorem Gb (l : List Value) : CH .mt 0 l = some (ofL l) ∧ (ofL l).Is l := by
  obtain ⟨t', h1, h2⟩ := Dz l .mt [] 0 ed (.inr rfl)
  unfold ofL
  rw [h1]
  refine ⟨rfl, ?_⟩
  simpa using h2
theorem VT.Is.of {t : VT} {l : List Value} (h : CH .mt 0 l = some t) : t.Is l := by
  have := Gb l
  rw [h] at this
  rw [Option.some.inj this.1]; exact this.2
def Hp.Row (h : Hp) (b el : Nat) (l : List Value) : Prop := ∃ c, h.bl.get b = .cells c l.length el ∧ c.Is l
def Hp.pushRow (h : Hp) (el : Nat) (l : List Value) : Hp := h.push (.cells (ofL l) l.length el)
theorem DA (W : h.Wf) {el : Nat} {l : List Value} {K : Nat → Hp → R} : newRow h el l K = K h.next (h.pushRow el l) := by
  unfold newRow
  rw [(Gb l).1]
  show CJ h el (ofL l) (BR l) K = _
  unfold CJ
  rw [Ao, DX W, BD]; rfl
theorem Hp.Row.lt (W : h.Wf) {b el : Nat} {l : List Value} (r : h.Row b el l) : b < h.next := by
  obtain ⟨c, hc, _⟩ := r
  rcases Nat.lt_or_ge b h.next with h1 | h1
  · exact h1
  · rw [W.fresh b h1] at hc; cases hc
theorem Hp.Row.new (W : h.Wf) (el : Nat) (l : List Value) : (h.pushRow el l).Row h.next el l := ⟨ofL l, by unfold Hp.pushRow; rw [W.push_get, if_pos rfl], (Gb l).2⟩
theorem Hp.Row.ext {b el : Nat} {l : List Value} (r : h.Row b el l) (W : h.Wf) (x : h.Ext h') : h'.Row b el l := by
  have := r.lt W
  obtain ⟨c, hc, hl⟩ := r
  exact ⟨c, (x.get b this).trans hc, hl⟩
theorem Hp.Row.push {b el : Nat} {l : List Value} (r : h.Row b el l) (W : h.Wf) (o : Blk) : (h.push o).Row b el l := r.ext W ((Hp.Ext.refl W).push o)
theorem Hp.Ext.pushRow (a : h.Ext h') (el : Nat) (l : List Value) : h.Ext (h'.pushRow el l) := a.push _
theorem Hp.Row.rowOf {b el : Nat} {l : List Value} (r : h.Row b el l) : ∃ c, rowOf h b = .ok c l.length el ∧ c.Is l := by
  obtain ⟨c, hc, hl⟩ := r
  exact ⟨c, by unfold Go.Proofs.YtfeldadhbnmklaaGreat.rowOf; rw [hc]; rfl, hl⟩
theorem Hp.Row.load1 {b el off : Nat} {l : List Value} (r : h.Row b el l) (ho : off < l.length) : load1 ⟨b, off, none⟩ h = .ok (l.getD off noRes) h := by
  obtain ⟨c, hc, hl⟩ := r.rowOf
  unfold Go.Proofs.YtfeldadhbnmklaaGreat.load1
  simp only [hc]
  rw [A3.2 ho]
  simp only [A7, (hl off ho).2]
theorem Is.rowL {c : VT} {l : List Value} (hl : c.Is l) (off n : Nat) (ho : off + n ≤ l.length) : rowL c off n = (l.drop off).take n := by
  refine List.ext_getElem? fun i => ?_
  unfold Go.Proofs.YtfeldadhbnmklaaGreat.rowL
  rw [List.getElem?_map, List.getElem?_take, List.getElem?_drop]
  by_cases hi : i < n
  · rw [if_pos hi, List.getElem?_range hi]
    have := (hl (off + i) (by omega)).2
    rw [List.getD_eq_getElem?_getD, List.getElem?_eq_getElem (by omega)] at this
    show some (c.get (off + i)) = _
    rw [this, List.getElem?_eq_getElem (by omega)]; rfl
  · rw [if_neg hi, List.getElem?_eq_none (by simpa using hi)]; rfl
theorem Hp.Row.loadN {b el off n : Nat} {l : List Value} (r : h.Row b el l) (ho : off + n ≤ l.length) : loadN n ⟨b, off, none⟩ h = .ok (.agg ⟨(l.drop off).take n⟩) h := by
  obtain ⟨c, hc, hl⟩ := r.rowOf
  unfold Go.Proofs.YtfeldadhbnmklaaGreat.loadN
  simp only [hc, Nat.add_eq]
  rw [Ap.2 ho]
  simp only [cond_true, E9, List.append_nil, Is.rowL hl off n ho]
theorem Hp.Row.src {b el off n c : Nat} {l : List Value} (r : h.Row b el l) (ho : off + n ≤ l.length) {sl : Nat} {k : List Value → R} : BX h 1 (.slice (some ⟨b, off, none⟩) sl c) n k = k ((l.drop off).take n) := by
  obtain ⟨cc, hc, hl⟩ := r.rowOf
  unfold BX
  simp only [hc]
  have e : Nat.mul n 1 = n := Nat.mul_one n
  rw [e]
  simp only [Nat.add_eq]
  rw [Ap.2 ho]
  simp only [cond_true, E9, List.append_nil, Is.rowL hl off n ho]
def Hp.wr (h : Hp) (b off : Nat) (vs : List Value) : Hp := match rowOf h b with
  | .ok c s e => h.put b (.cells ((CH c off vs).getD c) s e)
  | .no => h
def over (l : List Value) (off : Nat) (vs : List Value) : List Value := l.take off ++ vs ++ l.drop (off + vs.length)
theorem Mw {l vs : List Value} {off : Nat} (ho : off + vs.length ≤ l.length) : (over l off vs).length = l.length := by
  unfold over
  simp only [List.length_append, List.length_take, List.length_drop]; omega
theorem Hp.Row.wr_is {b el off : Nat} {l vs : List Value} (r : h.Row b el l) (ho : off + vs.length ≤ l.length) : ∃ c, c.Is (over l off vs) ∧ h.wr b off vs = h.put b (.cells c (over l off vs).length el) ∧
    ∀ (W : h.Wf) (h256 : 256 ≤ b) (h1 : B6 vs = true) (K : Hp → R), Ci ⟨b, off, none⟩ vs h K = K (h.wr b off vs) := by
  obtain ⟨c, hc, hl⟩ := r.rowOf
  obtain ⟨c', h2, h3⟩ := Dz vs c l off hl (.inl ho)
  have e : h.wr b off vs = h.put b (.cells c' l.length el) := by
    unfold Hp.wr
    rw [hc]
    simp only [h2, Option.getD_some]
  refine ⟨c', h3, by rw [Mw ho]; exact e, fun W h256 h1 K => ?_⟩
  unfold Ci
  simp only [hc, Nat.add_eq]
  rw [BD, Ap.2 ho, h1]
  simp only [cond_true, h2]
  rw [e, Ht W h256 (r.lt W)]
theorem Hp.Row.store {b el off : Nat} {l vs : List Value} (r : h.Row b el l) (W : h.Wf) (h256 : 256 ≤ b) (ho : off + vs.length ≤ l.length) (h1 : B6 vs = true) (K : Hp → R) : Ci ⟨b, off, none⟩ vs h K = K (h.wr b off vs) := by
  obtain ⟨_, _, _, h4⟩ := r.wr_is ho
  exact h4 W h256 h1 K
theorem Hp.Row.wr_self {b el off : Nat} {l vs : List Value} (r : h.Row b el l) (W : h.Wf) (ho : off + vs.length ≤ l.length) : (h.wr b off vs).Row b el (over l off vs) := by
  obtain ⟨c, h3, e, _⟩ := r.wr_is ho
  exact ⟨c, by rw [e, W.put_get (r.lt W), if_pos rfl], h3⟩
theorem Hp.Row.wr_ext {h0 : Hp} {b el off : Nat} {l vs : List Value} (r : h.Row b el l) (x : h0.Ext h) (hb : h0.next ≤ b) (ho : off + vs.length ≤ l.length) : h0.Ext (h.wr b off vs) := by
  obtain ⟨c, h3, e, _⟩ := r.wr_is ho
  rw [e]; exact x.put hb (r.lt x.wf) _
theorem Hp.Row.wr_next {b el off : Nat} {l vs : List Value} (r : h.Row b el l) (ho : off + vs.length ≤ l.length) : (h.wr b off vs).next = h.next := by
  obtain ⟨c, h3, e, _⟩ := r.wr_is ho
  rw [e]; rfl
def G4 (v : Value) (h : Hp) : R := match DD v with
  | .ok a => load1 a h
  | .no => .no
theorem Au : AG x F e h = G4 (x e) h := by
  unfold AG G4
  cases DD (x e) <;> rfl
theorem A5 {a : Addr} : G4 (.pointer (some a)) h = load1 a h := rfl
def OK (n : Nat) (v : Value) (h : Hp) : R := match DD v with
  | .ok a => loadN n a h
  | .no => .no
theorem B4 {n : Nat} : Ac n x F e h = OK n (x e) h := rfl
theorem B3 {n : Nat} {a : Addr} : OK n (.pointer (some a)) h = loadN n a h := rfl
def storeR (n : Nat) (p v : Value) (h : Hp) : R := match DD p with
  | .ok a => bif Nat.beq (BR (cellsOf v)) n then Ci a (cellsOf v) h D7 else .no
  | .no => .no
theorem BL {n : Nat} : AP n x y F e h = storeR n (x e) (y e) h := by
  unfold AP storeR
  simp only [A7]
  cases DD (x e) <;> rfl
theorem Hp.Row.storeR {n b el off : Nat} {l : List Value} {v : Value} (r : h.Row b el l) (W : h.Wf) (h256 : 256 ≤ b) (hn : (cellsOf v).length = n) (ho : off + (cellsOf v).length ≤ l.length) (h1 : B6 (cellsOf v) = true) :
    storeR n (.pointer (some ⟨b, off, none⟩)) v h = .ok noRes (h.wr b off (cellsOf v)) := by
  show (bif Nat.beq (BR (cellsOf v)) n then Ci ⟨b, off, none⟩ (cellsOf v) h D7 else .no) = _
  rw [BD, AZ.2 hn, r.store W h256 ho h1]; rfl
def VE (v : Value) (h : Hp) : R := bif known v then newRow h 0 (cellsOf v) Gd else .no
theorem WH : CG x F e h = VE (x e) h := by
  unfold CG VE
  simp only [A7]
theorem VF (W : h.Wf) {v : Value} (hk : known v = true := by rfl) : VE v h = .ok (.pointer (some ⟨h.next, 0, none⟩)) (h.pushRow 0 (cellsOf v)) := by
  unfold VE
  rw [hk, cond_true, DA W]; rfl
theorem DB (W : h.Wf) {n : Nat} {t : VT} : A9 n t F e h = .ok (.pointer (some ⟨h.next, 0, none⟩)) (h.push (.cells t n 0)) := by
  unfold A9
  rw [DX W]; rfl
theorem Hp.Row.alloc (W : h.Wf) {n : Nat} {t : VT} {l : List Value} (ht : CH .mt 0 l = some t) (hn : l.length = n) : (h.push (.cells t n 0)).Row h.next 0 l := ⟨t, by rw [W.push_get, if_pos rfl, hn], .of ht⟩
theorem Jt {n : Nat} : AE n x F e h = match DD (x e) with | .ok a => .ok (.pointer (some ⟨a.block, a.off + n, none⟩)) h | .no => .no := by
  unfold AE
  cases DD (x e) with
  | ok a => exact Ao _ _
  | no => rfl
def PD (n : Nat) (v : Value) (h : Hp) : R := match DD v with
  | .ok a => .ok (.pointer (some ⟨a.block, a.off + n, none⟩)) h
  | .no => .no
theorem A2 {n : Nat} : AE n x F e h = PD n (x e) h := Jt
theorem BO {n b off : Nat} : PD n (.pointer (some ⟨b, off, none⟩)) h = .ok (.pointer (some ⟨b, off + n, none⟩)) h := rfl
def Js (n es : Nat) (p i : Value) (h : Hp) : R := I9 n es (DD p) (Cy i) h
theorem CT {n es : Nat} : A4 n es x y F e h = Js n es (x e) (y e) h := rfl
theorem PQ {n es b off i : Nat} (hi : i < n) : I9 n es (.ok ⟨b, off, none⟩) (.ok i) h = .ok (.pointer (some ⟨b, off + i * es, none⟩)) h := by
  show Bool.rec (motive := fun _ => R) .no (Kf ⟨b, off, none⟩ (Nat.mul i es) h) (Nat.blt i n) = _
  rw [A3.2 hi]
  exact Ao _ _
theorem PT {n es b off i : Nat} {k : IntKind} (hi : i < n) : Js n es (.pointer (some ⟨b, off, none⟩)) (.int k (i : Int)) h = .ok (.pointer (some ⟨b, off + i * es, none⟩)) h := PQ hi
def D4 (es : Nat) (s i : Value) (h : Hp) : R := match s with
  | .slice (some a) n _ => I9 n es (.ok a) (Cy i) h
  | _ => .no
theorem CO {es : Nat} : AY es x y F e h = D4 es (x e) (y e) h := rfl
theorem Et {n c es b off i : Nat} {k : IntKind} (hi : i < n) : D4 es (.slice (some ⟨b, off, none⟩) n c) (.int k (i : Int)) h = .ok (.pointer (some ⟨b, off + i * es, none⟩)) h := PQ hi
def FS (v : Value) (h : Hp) : R := match v with
  | .slice _ n _ => .ok (.int .i64 (.ofNat n)) h
  | .chan (some _) => .ok (.int .i64 (.ofNat 0)) h
  | _ => .no
theorem Az : Aw x F e h = FS (x e) h := rfl
theorem MR {o : Option Addr} {n c : Nat} : FS (.slice o n c) h = .ok (.int .i64 (n : Int)) h := rfl
end
end
end Go.Proofs.YtfeldadhbnmklaaGreat
set_option linter.unusedVariables false
set_option linter.unusedSimpArgs false
namespace Go.Proofs.YtfeldadhbnmklaaGreat
noncomputable section
open Go
section
variable {F : CallF} {e : Env} {h h' : Hp} {x y : O}
def Xz : X → Bool
  | .norm _ _ => false
  | .no => false
  | _ => true
theorem ML {body : C} {I : Nat → Env → Hp → Prop} {Q : X → Prop} (N : Nat)
    (step : ∀ i e h, I i e h → (i < N ∧ ∃ e' h', body F e h = .norm e' h' ∧ I (i + 1) e' h') ∨ (Xz (body F e h) = true ∧ Q (body F e h))) :
    ∀ n i e h, N - i < n → I i e h → Q (iter body n F e h)
  | 0, i, e, h, hn, _ => absurd hn (Nat.not_lt_zero _)
  | n + 1, i, e, h, hn, hi => by
    unfold iter
    rcases step i e h hi with ⟨h1, e', h', h2, h3⟩ | ⟨h1, h2⟩
    · rw [h2]
      exact ML N step n (i + 1) e' h' (by omega) h3
    · cases hb : body F e h with
      | norm e' h' => rw [hb] at h1; cases h1
      | no => rw [hb] at h1; cases h1
      | exit i e' h' => rw [hb] at h2; exact h2
      | ret e' h' => rw [hb] at h2; exact h2
theorem CF {body : C} (I : Nat → Env → Hp → Prop) (Q : X → Prop) (N : Nat) (hN : N < 1000000)
    (step : ∀ i e h, I i e h → (i < N ∧ ∃ e' h', body F e h = .norm e' h' ∧ I (i + 1) e' h') ∨ (Xz (body F e h) = true ∧ Q (body F e h))) (h0 : I 0 e h) : Q (Aj body F e h) :=
  ML N step rounds 0 e h (by show N - 0 < 1000000; omega) h0
theorem Bc {n : Nat} (h : n ≤ 9223372036854775807) : IntKind.i64.wrap (n : Int) = n := HS h
theorem Cg {n : Nat} (h : n ≤ 18446744073709551615) : IntKind.u64.wrap (n : Int) = n := Cc .u64 n h
theorem DO (n : Nat) : IntKind.u8.wrap (n : Int) = ((n % 256 : Nat) : Int) := by
  have : IntKind.u8.wrap (n : Int) = (n : Int) % 256 := rfl
  rw [this]; omega
def bv (n : Nat) : Value := .int .u8 (n : Int)
theorem Il : ∀ l : List Nat, DZ (l.map bv) = some (l.map UInt8.ofNat)
  | [] => rfl
  | n :: l => by
    show (match DZ (l.map bv) with | some bs => forceN n fun n => some (UInt8.ofNat n :: bs) | none => none) = _
    rw [Il l]
    exact Ao _ _
theorem HU : ∀ l : List Nat, B6 (l.map bv) = true
  | [] => rfl
  | n :: l => HU l
def Hp.Bytes (h : Hp) (v : Value) (l : List Nat) : Prop := (v = .slice none 0 0 ∧ l = []) ∨ ∃ b off c el L, v = .slice (some ⟨b, off, none⟩) l.length c ∧ h.Row b el L ∧ off + l.length ≤ L.length ∧ (L.drop off).take l.length = l.map bv
theorem Hp.Bytes.ext {v : Value} {l : List Nat} (b : h.Bytes v l) (W : h.Wf) (x : h.Ext h') : h'.Bytes v l := by
  rcases b with ⟨h1, h2⟩ | ⟨b, off, c, el, L, h1, h2, h3, h4⟩
  · exact .inl ⟨h1, h2⟩
  · exact .inr ⟨b, off, c, el, L, h1, h2.ext W x, h3, h4⟩
theorem Hp.Bytes.src {v : Value} {l : List Nat} (b : h.Bytes v l) {n : Nat} (hn : n = l.length) (k : List Value → R) : BX h 1 v n k = k (l.map bv) := by
  subst hn
  rcases b with ⟨h1, h2⟩ | ⟨b, off, c, el, L, h1, h2, h3, h4⟩
  · rw [h1, h2]; rfl
  · rw [h1, h2.src h3, h4]
theorem Hp.Bytes.shape {v : Value} {l : List Nat} (b : h.Bytes v l) : ∃ a c, v = .slice a l.length c := by
  rcases b with ⟨h1, h2⟩ | ⟨b, off, c, el, L, h1, h2, h3, h4⟩
  · exact ⟨none, 0, by rw [h1, h2]; rfl⟩
  · exact ⟨_, _, h1⟩
def fO (v : Value) (h : Hp) : R := match v with
  | .slice a n c => BX h 1 (.slice a n c) n fun cs => match DZ cs with
    | some bs => .ok (.string ⟨⟨bs⟩⟩) h
    | none => .no
  | _ => .no
theorem F8 : Cb x F e h = fO (x e) h := rfl
theorem Hp.Bytes.str {v : Value} {l : List Nat} (b : h.Bytes v l) : fO v h = .ok (.string ⟨⟨l.map UInt8.ofNat⟩⟩) h := by
  obtain ⟨a, c, rfl⟩ := b.shape
  show BX h 1 (.slice a l.length c) l.length (fun cs => match DZ cs with
    | some bs => .ok (.string ⟨⟨bs⟩⟩) h
    | none => .no) = _
  rw [b.src rfl, Il]
def dv (f : List UInt8 → List UInt8 → Bool) (a b : Value) (h : Hp) : R := Tj f a b h
theorem LM {f : List UInt8 → List UInt8 → Bool} : GG f x y F e h = dv f (x e) (y e) h := rfl
theorem Kw {f : List UInt8 → List UInt8 → Bool} {a b : List UInt8} : dv f (.string ⟨⟨a⟩⟩) (.string ⟨⟨b⟩⟩) h = .ok (.bool (f a b)) h := Hs
theorem Hp.Bytes.len {v : Value} {l : List Nat} (b : h.Bytes v l) : FS v h = .ok (.int .i64 (l.length : Int)) h := by
  obtain ⟨a, c, rfl⟩ := b.shape; rfl
theorem Hp.Bytes.at {v : Value} {l : List Nat} (b : h.Bytes v l) {i : Nat} (hi : i < l.length) : ∃ a, D4 1 v (.int .i64 (i : Int)) h = .ok (.pointer (some a)) h ∧ G4 (.pointer (some a)) h = .ok (bv (l.getD i 0)) h := by
  rcases b with ⟨h1, h2⟩ | ⟨b, off, c, el, L, h1, h2, h3, h4⟩
  · rw [h2] at hi; cases hi
  · refine ⟨⟨b, off + i * 1, none⟩, by rw [h1]; exact Et hi, ?_⟩
    rw [A5, h2.load1 (by omega)]
    have := congrArg (fun m => m[i]?) h4
    simp only [List.getElem?_take, List.getElem?_drop, if_pos hi, List.getElem?_map] at this
    rw [List.getD_eq_getElem?_getD, Nat.mul_one, this, List.getD_eq_getElem?_getD, List.getElem?_eq_getElem hi]; rfl
theorem XD {v : Value} {l : List Nat} (b : h.Bytes v l) : lenV v = .ok l.length := by
  obtain ⟨a, c, rfl⟩ := b.shape; rfl
theorem Ll {eb en b n c el : Nat} {l : List Value} {v : Value} (W : h.Wf) (h256 : 256 ≤ b) (r : h.Row b el l) (hx : h.Bytes v []) (hc : n ≤ c) (hn : n ≤ l.length) :
    EO 1 eb en (.slice (some ⟨b, 0, none⟩) n c) v h = .ok (.slice (some ⟨b, 0, none⟩) n c) (h.wr b n []) := by
  unfold EO
  simp only [XD hx, hx.src rfl, Ao, Nat.add_eq]
  have e1 : Nat.ble n c = true := Ap.2 hc
  have e0 : n + ([] : List Nat).length = n := rfl
  simp only [e0, e1, List.map_nil]
  have e2 : E3 ⟨b, 0, none⟩ (Nat.mul n 1) = ⟨b, n, none⟩ := by
    rw [show Nat.mul n 1 = n from Nat.mul_one n]
    cases n with
    | zero => rfl
    | succ n => show (⟨b, Nat.add 0 (Nat.succ n), none⟩ : Addr) = _; rw [Nat.add_eq, Nat.zero_add]
  rw [e2, r.store W h256 (by simpa using hn) rfl]
def Lk (es eb en : Nat) (s v : Value) (h : Hp) : R := EO es eb en s v h
theorem Cq {es eb en : Nat} : BB es eb en x y F e h = Lk es eb en (x e) (y e) h := rfl
theorem C7 {cs : List Value} {k : List Value → R} : DQ cs e k [] = k cs := CN _ _
theorem BV {cs : List Value} {k : List Value → R} {off size : Nat} {rest : List (Nat × Nat × O)} (hk : known (x e) = true := by rfl) : DQ cs e k ((off, size, x) :: rest) = (if (cellsOf (x e)).length = size then (if off + size ≤ cs.length then DQ (over cs off (cellsOf (x e))) e k rest else .no) else .no) := by
  have e0 : DQ cs e k ((off, size, x) :: rest) = (bif known (x e) then (bif Nat.beq (BR (cellsOf (x e))) size then (bif Nat.ble (Nat.add off size) (BR cs) then DQ (lay cs off (cellsOf (x e))) e k rest else .no) else .no) else .no) := A7 _ _
  have e1 : DQ cs e k ((off, size, x) :: rest) = (bif Nat.beq (BR (cellsOf (x e))) size then (bif Nat.ble (Nat.add off size) (BR cs) then DQ (lay cs off (cellsOf (x e))) e k rest else .no) else .no) := by rw [e0, hk]; rfl
  rw [e1, BD, BD, lay_is]
  by_cases h1 : (cellsOf (x e)).length = size
  · rw [if_pos h1, AZ.2 h1]
    by_cases h2 : off + size ≤ cs.length
    · rw [if_pos h2, show Nat.ble (Nat.add off size) cs.length = true from Ap.2 h2]; rfl
    · rw [if_neg h2]
      have : Nat.ble (Nat.add off size) cs.length = false := by
        cases e : Nat.ble (Nat.add off size) cs.length
        · rfl
        · exact absurd (Ap.1 e) h2
      rw [this]; rfl
  · rw [if_neg h1]
    have : Nat.beq (cellsOf (x e)).length size = false := by
      cases e : Nat.beq (cellsOf (x e)).length size
      · rfl
      · exact absurd (AZ.1 e) h1
    rw [this]; rfl
theorem Hc {k : IntKind} {n : Int} : cellsOf (.int k n) = [.int k n] := rfl
theorem Rp {n : Nat} : cellsOf (bv n) = [bv n] := rfl
theorem TG {l vs : List Value} (hl : l.length = vs.length) : over l 0 vs = vs := by
  unfold over
  rw [List.take_zero, List.nil_append, List.drop_of_length_le (by omega), List.append_nil]
theorem Ho {zero : List Value} {ps : List (Nat × Nat × O)} : BA zero ps F e h = DQ zero e (fun cs => .ok (.agg ⟨cs⟩) h) ps := rfl
theorem Cr {n : Nat} {zero : List Value} {ps : List (Nat × Nat × O)} : AX n zero ps F e h = DQ zero e (fun cs => newRow h 0 cs (Dl n n)) ps := rfl
def Hp.marked (h : Hp) : Hp := { next := h.next, low := h.low, high := h.high, mark := h.next, bl := h.bl }
def Hp.quiet (h : Hp) : Hp := { next := h.next, low := h.next, high := 0, mark := h.mark, bl := h.bl }
def Hp.back (h h' : Hp) : Hp := { next := h'.next, low := Bh h.low h'.low, high := CS h.high h'.high, mark := h.mark, bl := h'.bl }
theorem CU {k : C} : Ar k F e h = k F e h.marked := rfl
theorem Hp.Wf.marked (W : h.Wf) : h.marked.Wf := ⟨W.big, W.has, W.fresh⟩
theorem Hp.Wf.quiet (W : h.Wf) : h.quiet.Wf := ⟨W.big, W.has, W.fresh⟩
theorem Hp.Ext.marked {h0 : Hp} (x : h0.Ext h) : h0.Ext h.marked := ⟨x.next, x.get, x.low, x.wf.marked⟩
theorem Hp.Row.same {b el : Nat} {l : List Value} (r : h.Row b el l) (hb : h'.bl = h.bl) : h'.Row b el l := by
  obtain ⟨c, hc, hl⟩ := r
  exact ⟨c, by rw [hb]; exact hc, hl⟩
theorem Hp.Ext.back (x : h.quiet.Ext h') : h.Ext (h.back h') where
  next := x.next
  get := x.get
  low := by
    show _ ≤ Bh h.low h'.low
    rw [BU]
    have h1 : min h.next h.next ≤ h'.low := x.low
    omega
  wf := ⟨x.wf.big, x.wf.has, x.wf.fresh⟩
theorem Fp {f : OpF} {m : Qm} {v : Value} (hf : f F e h.quiet = .ok v h') (x : h.quiet.Ext h') (hm : h.mark ≤ h.next) : AS m f F e h = .ok v (h.back h') := by
  have h1 : min h.next h.next ≤ h'.low := x.low
  have hq : qOk m h h'.low = true := by
    cases m with
    | strong => exact Ap.2 (by omega)
    | weak => exact Ap.2 (by omega)
    | free => rfl
  show (match f F e h.quiet with | .ok v h' => bif qOk m h h'.low then D0 h v h' else .no | .no => .no) = _
  rw [hf]
  simp only [hq, cond_true]
  unfold D0
  simp only [Ao]; rfl
theorem EA {f : OpF} {v : Value} (hf : f F e h.quiet = .ok v h') : AS .free f F e h = .ok v (h.back h') := by
  show (match f F e h.quiet with | .ok v h' => bif qOk .free h h'.low then D0 h v h' else .no | .no => .no) = _
  rw [hf]
  show D0 h v h' = _
  unfold D0
  simp only [Ao]; rfl
def Qo (v : Value) (k : C) (F : CallF) (e : Env) (h : Hp) : X := match blkOf v with
  | .ok b => bif Nat.blt b h.mark then k F e h else .no
  | .no => k F e h
theorem IO {k : C} : Cn x k F e h = Qo (x e) k F e h := rfl
theorem Mu {b off : Nat} {k : C} (hb : b < h.mark) : Qo (.pointer (some ⟨b, off, none⟩)) k F e h = k F e h := by
  show (bif Nat.blt b h.mark then k F e h else .no) = _
  rw [A3.2 hb]; rfl
theorem Gl {k : C} : B7 x [] k F e h = k F e h := by
  unfold B7
  cases blkOf (x e) <;> rfl
theorem Hp.Ext.quiet {h0 : Hp} (x : h0.Ext h) : h0.Ext h.quiet := ⟨x.next, x.get, by show _ ≤ h.next; have := x.next; omega, x.wf.quiet⟩
theorem Hp.Ext.back2 {h0 : Hp} (x : h0.Ext h) (y : h0.Ext h') : h0.Ext (h.back h') where
  next := y.next
  get := y.get
  low := by
    show _ ≤ Bh h.low h'.low
    rw [BU]
    have := x.low
    have := y.low
    omega
  wf := ⟨y.wf.big, y.wf.has, y.wf.fresh⟩
end
end
end Go.Proofs.YtfeldadhbnmklaaGreat
