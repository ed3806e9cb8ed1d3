/-
  A region whose order is open: its laws, out of what 'drawC' has looked for and the machine's run.
-/
import Derived.Test.YtkafejncffinmaaDraw
set_option linter.unusedSimpArgs false
set_option linter.unusedVariables false
namespace Go.Proofs.Ytkafejncffinmaa
open Go

section
variable {P : Program} {ty : TTy} {N : Nat} {all : List Oper} {ρ : Nat → Rho} {H : Nat → Hp} {V : Nat → Value} {T : Nat → Nat → Prop} {run : Nat → Bool} {ahs : List Ahead} {bs : List Nat}

theorem step_bounds (hah : ∀ j o, all[j]? = some o → ∃ xs, apart ty all bs j o all.zipIdx = some xs ∧ AhIs ty all bs j o xs (ahs.getD j .plain)) (tr : Tr P ty all ahs all ρ H V run T) {j : Nat} (hj : j < all.length) :
    (H (j + 1)).low ≤ (H j).low ∧ (H j).high ≤ (H (j + 1)).high ∧ (∀ c, T j c → (H (j + 1)).low ≤ c ∧ c ≤ (H (j + 1)).high) ∧ (H (j + 1)).mark = (H j).mark := by
  have ho : all[j]? = some all[j] := List.getElem?_eq_getElem hj
  obtain ⟨xs, _, ha⟩ := hah j _ ho
  rcases (tr.sf j _ ho).core with ⟨_, core⟩ | ⟨_, _, hh, hT⟩
  · exact core.tame ha.tame
  · rw [hh]; exact ⟨Nat.le_refl _, Nat.le_refl _, fun c hc => absurd hc (hT c), rfl⟩
theorem chain_bounds (hah : ∀ j o, all[j]? = some o → ∃ xs, apart ty all bs j o all.zipIdx = some xs ∧ AhIs ty all bs j o xs (ahs.getD j .plain)) (tr : Tr P ty all ahs all ρ H V run T) {i : Nat} :
    ∀ {k : Nat}, i ≤ k → k ≤ all.length → (H k).low ≤ (H i).low ∧ (H i).high ≤ (H k).high ∧ (H k).mark = (H i).mark := by
  intro k h hk
  induction k with
  | zero => have : i = 0 := Nat.le_zero.1 h; subst this; exact ⟨Nat.le_refl _, Nat.le_refl _, rfl⟩
  | succ k ih =>
    rcases Nat.lt_or_ge k i with h2 | h2
    · have : i = k + 1 := by omega
      subst this; exact ⟨Nat.le_refl _, Nat.le_refl _, rfl⟩
    · obtain ⟨a1, a2, a3⟩ := ih h2 (by omega)
      obtain ⟨b1, b2, _, b3⟩ := step_bounds hah tr (j := k) (by omega)
      exact ⟨Nat.le_trans b1 a1, Nat.le_trans a2 b2, b3.trans a3⟩

theorem evR_back (tr : Tr P ty all ahs all ρ H V run T) {t : Nat} {u : Value} {i k : Nat} (h : i ≤ k) (hk : k ≤ all.length) (hs : ∀ m o, i ≤ m → m < k → all[m]? = some o → o.dst ≠ some t) (hu : evR (ρ k) (.tmp t) = some u) : evR (ρ i) (.tmp t) = some u :=
  tr.backward h hk hs hu

theorem laws_ok (hbs : bs = bsFrom [] all) (he : edgesOk all = true) (hs : slotsOk all bs = true)
    (hah : ∀ j o, all[j]? = some o → ∃ xs, apart ty all bs j o all.zipIdx = some xs ∧ AhIs ty all bs j o xs (ahs.getD j .plain)) (tr : Tr P ty all ahs all ρ H V run T) :
    Laws ty all ρ H T (fun i j => isB bs i j = true) := by
  have len : ∀ {i : Nat} {o : Oper}, all[i]? = some o → i < all.length := fun h => (List.getElem?_eq_some_iff.1 h).1
  have coreOf : ∀ j oj c, all[j]? = some oj → T j c → Core P ty oj (ahs.getD j .plain) (ρ j) (H j) (H (j + 1)) (V j) (T j) := by
    intro j oj c hj hc
    rcases (tr.sf j oj hj).core with ⟨_, core⟩ | ⟨_, _, _, hT⟩
    · exact core
    · exact absurd hc (hT c)
  have kinds : ∀ j oj c, all[j]? = some oj → T j c → (∃ x, kd ty oj.op = .w x) ∨ (kd ty oj.op = .q ∧ strongQ ty all bs j = false) := by
    intro j oj c hj hc
    have core := coreOf j oj c hj hc
    obtain ⟨xs, _, ha⟩ := hah j oj hj
    generalize ahs.getD j .plain = ah at ha core
    cases ha with
    | strong hk _ => exact absurd hc (core.strong rfl c)
    | weak hk h => exact .inr ⟨hk, h⟩
    | free hk h _ => exact .inr ⟨hk, h⟩
    | alloc hk => exact absurd hc (core.strong rfl c)
    | read hk => exact absurd hc ((core.tp (.inr ⟨_, hk⟩)).1 c)
    | write hk => exact .inl ⟨_, hk⟩
    | wfree hk _ => exact .inl ⟨_, hk⟩
    | plain hk => exact absurd hc ((core.tp (.inl hk)).1 c)
  -- two whose order is open
  have held : ∀ {i j oi oj}, all[i]? = some oi → all[j]? = some oj → i < j → ¬ isB bs i j = true → ∃ xs, AhIs ty all bs j oj xs (ahs.getD j .plain) ∧ Held ty all xs i j oi oj := by
    intro i j oi oj hi hj hij hB
    obtain ⟨xs, hx, ha⟩ := hah j oj hj
    exact ⟨xs, ha, apart_ok hx oi i (mem_zip.2 hi) hij (by cases h : isB bs i j <;> first | rfl | exact absurd h hB)⟩
  refine { lt := fun i j h => isB_lt hbs he j i h, slots := fun i j oi oj d hij hi hj hd hn => slots_ok hs hij hi hj hd hn, kinds := fun j oj c hj hc => (kinds j oj c hj hc).imp id (·.1), fixed := ?_, reads := ?_, tlt := ?_, tout := ?_, low := ?_, high := ?_ }
  · -- fixed
    intro i j oi c hij hi hjn hc hki
    have hj : all[j]? = some all[j] := List.getElem?_eq_getElem hjn
    by_cases h1 : isB bs i j = true
    · exact .inl h1
    by_cases h2 : isB bs j i = true
    · exact .inr h2
    exfalso
    have hQQ : ∀ {i j : Nat} {oi : Oper}, all[i]? = some oi → i ≠ j → ¬ isB bs i j = true → ¬ isB bs j i = true → kd ty oi.op = .q → strongQ ty all bs j = true := fun hi hij h1 h2 hk => by
      unfold strongQ
      exact loose_of hi hij h1 h2 (by rw [hk]; rfl)
    rcases kinds j _ c hj hc with ⟨xj, hkj⟩ | ⟨hkj, hns⟩
    · rcases Nat.lt_or_gt_of_ne hij with h | h
      · obtain ⟨xs, _, hh⟩ := held hi hj h h1
        rcases hki with ⟨x, hki⟩ | hki
        · exact hh.ww x xj hki hkj
        · exact hh.qw xj hki hkj
      · obtain ⟨xs, _, hh⟩ := held hj hi h h2
        rcases hki with ⟨x, hki⟩ | hki
        · exact hh.ww xj x hkj hki
        · exact hh.wq xj hkj hki
    · rcases hki with ⟨x, hki⟩ | hki
      · rcases Nat.lt_or_gt_of_ne hij with h | h
        · obtain ⟨xs, _, hh⟩ := held hi hj h h1
          exact hh.wq x hki hkj
        · obtain ⟨xs, _, hh⟩ := held hj hi h h2
          exact hh.qw x hkj hki
      · rw [hQQ hi hij h1 h2 hki] at hns; cases hns
  · -- reads
    intro i j oi x c u hij hi hjn hc hki hu hb
    have hj : all[j]? = some all[j] := List.getElem?_eq_getElem hjn
    by_cases h1 : isB bs i j = true
    · exact .inl h1
    by_cases h2 : isB bs j i = true
    · exact .inr h2
    exfalso
    have core := coreOf j _ c hj hc
    have hin := len hi
    have si := (tr.sf i oi hi).side (by rw [hki]; intro h; cases h)
    rcases kinds j _ c hj hc with ⟨xj, hkj⟩ | ⟨hkj, hns⟩
    · -- a writer
      have hah_j : ∃ xs, ahs.getD j .plain = .wr xj xs ∧ apart ty all bs j all[j] all.zipIdx = some xs := by
        obtain ⟨xs, hx, ha⟩ := hah j _ hj
        generalize ahs.getD j .plain = ah at ha
        cases ha with
        | write hk => rw [hkj] at hk; cases hk; exact ⟨xs, rfl, hx⟩
        | wfree hk hl =>
          have := loose_of (ty := ty) (ask := fun _ k => isR k) hi hij h1 h2 (by simp only [hki]; rfl)
          rw [hl] at this; cases this
        | strong hk _ => rw [hkj] at hk; cases hk
        | weak hk _ => rw [hkj] at hk; cases hk
        | free hk _ _ => rw [hkj] at hk; cases hk
        | alloc hk => rw [hkj] at hk; cases hk
        | read hk => rw [hkj] at hk; cases hk
        | plain hk => rw [hkj] at hk; cases hk
      obtain ⟨xsj, hej, hxj⟩ := hah_j
      obtain ⟨u', hu', hb'⟩ := core.wr xj xsj hej c hc
      have sj := (tr.sf j _ hj).side (by rw [hkj]; intro h; cases h)
      rcases Nat.lt_or_gt_of_ne hij with h | h
      · -- the reader stands ahead
        have hh := apart_ok hxj oi i (mem_zip.2 hi) h (by cases h : isB bs i j <;> first | rfl | exact absurd h h1)
        obtain ⟨hm, t, rfl, hw⟩ := hh.rw' x xj hki hkj
        obtain ⟨_, hkn⟩ := sj.known xj xsj (.inl hej)
        obtain ⟨u2, hu2⟩ := hkn _ hm
        have hback := evR_back tr (Nat.le_of_lt h) (Nat.le_of_lt hjn) (fun m o a1 a2 a3 => hw m o a1 a2 a3) hu2
        rw [hu] at hback; cases hback
        exact sj.wrx xj xsj hej _ hm u' u c hu' hu2 hb' hb
      · -- the writer stands ahead
        obtain ⟨xs, ha, hh⟩ := held hj hi h h2
        obtain ⟨hm, t, rfl, hw⟩ := hh.wr xj x hkj hki
        have hchk : ∃ old, ahs.getD i .plain = .chk old x xs := by
          generalize ahs.getD i .plain = ah at ha
          cases ha with
          | read hk =>
            rw [hki] at hk; cases hk
            rcases chkOf_is (x := x) (old := loose ty all bs i fun i k => isQ k && !(strongQ ty all bs i)) (xs := xs) with ⟨_, _, h⟩ | h
            · subst h; cases hm
            · exact ⟨_, h⟩
          | strong hk _ => rw [hki] at hk; cases hk
          | weak hk _ => rw [hki] at hk; cases hk
          | free hk _ _ => rw [hki] at hk; cases hk
          | alloc hk => rw [hki] at hk; cases hk
          | write hk => rw [hki] at hk; cases hk
          | wfree hk _ => rw [hki] at hk; cases hk
          | plain hk => rw [hki] at hk; cases hk
        obtain ⟨old, hei⟩ := hchk
        obtain ⟨_, hkn⟩ := si.known x xs (.inr ⟨old, hei⟩)
        obtain ⟨u2, hu2⟩ := hkn _ hm
        have hback := evR_back tr (Nat.le_of_lt h) (Nat.le_of_lt hin) (fun m o a1 a2 a3 => hw m o a1 a2 a3) hu2
        rw [hu'] at hback; cases hback
        exact si.chk old x xs hei _ hm u u' c hu hu2 hb hb'
    · -- a call
      have hwk : ∀ c, T j c → (H j).mark ≤ c := by
        obtain ⟨xs, hx, ha⟩ := hah j _ hj
        generalize ahs.getD j .plain = ah at ha core
        cases ha with
        | weak hk _ => exact core.weak rfl
        | free hk _ hl =>
          have : looseQ ty all bs j = true := by
            unfold looseQ
            exact loose_of (ty := ty) (ask := fun _ k => !isP k) hi hij h1 h2 (by simp only [hki]; rfl)
          rw [hl] at this; cases this
        | strong hk h => rw [hns] at h; cases h
        | alloc hk => rw [hkj] at hk; cases hk
        | read hk => rw [hkj] at hk; cases hk
        | write hk => rw [hkj] at hk; cases hk
        | wfree hk _ => rw [hkj] at hk; cases hk
        | plain hk => rw [hkj] at hk; cases hk
      have hold : ∃ xs, ahs.getD i .plain = .chk true x xs := by
        obtain ⟨xs, hx, ha⟩ := hah i oi hi
        generalize ahs.getD i .plain = ah at ha
        cases ha with
        | read hk =>
          rw [hki] at hk; cases hk
          have hl : (loose ty all bs i fun i k => isQ k && !(strongQ ty all bs i)) = true :=
            loose_of hj (fun h => hij h.symm) h2 h1 (by rw [hkj, hns]; rfl)
          rw [hl]
          rcases chkOf_is (x := x) (old := true) (xs := xs) with ⟨_, h, _⟩ | h
          · cases h
          · exact ⟨xs, h⟩
        | strong hk _ => rw [hki] at hk; cases hk
        | weak hk _ => rw [hki] at hk; cases hk
        | free hk _ _ => rw [hki] at hk; cases hk
        | alloc hk => rw [hki] at hk; cases hk
        | write hk => rw [hki] at hk; cases hk
        | wfree hk _ => rw [hki] at hk; cases hk
        | plain hk => rw [hki] at hk; cases hk
      obtain ⟨xs, hei⟩ := hold
      have h3 := si.old x xs hei u c hu hb
      have h4 := hwk c hc
      have m1 := (chain_bounds hah tr (Nat.zero_le i) (Nat.le_of_lt hin)).2.2
      have m2 := (chain_bounds hah tr (Nat.zero_le j) (Nat.le_of_lt hjn)).2.2
      omega
  · intro j c hjn hc
    exact (coreOf j _ c (List.getElem?_eq_getElem hjn) hc).tlt c hc
  · intro j c hjn hc
    obtain ⟨_, _, h3, _⟩ := step_bounds hah tr hjn
    obtain ⟨h4, h5⟩ := h3 c hc
    obtain ⟨h6, h7, _⟩ := chain_bounds hah tr (i := j + 1) hjn (Nat.le_refl _)
    omega
  · exact (chain_bounds hah tr (Nat.zero_le _) (Nat.le_refl _)).1
  · exact (chain_bounds hah tr (Nat.zero_le _) (Nat.le_refl _)).2.1

/-- what 'drawC' has found -/
theorem drawC_ok (h : drawC ty all = some ahs) : ∃ bs, bs = bsFrom [] all ∧ edgesOk all = true ∧ slotsOk all bs = true ∧ ∀ j o, all[j]? = some o → ∃ xs, apart ty all bs j o all.zipIdx = some xs ∧ AhIs ty all bs j o xs (ahs.getD j .plain) := by
  unfold drawC at h
  rw [befs_is] at h
  split at h
  · rename_i hc
    simp only [Bool.and_eq_true] at hc
    refine ⟨_, rfl, hc.1, hc.2.2, fun j o ho => ?_⟩
    have := aheads_ok h j o ho
    rw [Nat.zero_add] at this
    exact aheadOf_ok this
  · cases h
end
end Go.Proofs.Ytkafejncffinmaa
