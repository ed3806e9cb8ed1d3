/-
  A region whose order is open: its laws, out of what 'drawC' has looked for and the machine's run.
  Values, blocks and heaps that are the same but for the numbers of some blocks; what holds of the one holds of the other.
  A walk through a map that searches: each round by itself, from the same memory; whatever the order, what it comes to is the same.
  Code: what the machine makes of it is what the model does.
  Functions: what the machine's call says is what the model's call does.
  A closed run: what the kernel has reckoned holds of every memory and every tape.
  Which places of a tree are there; a next place can be set. Printed by program (genfull.py).
  Steps of the machine as equations, for runs whose values are open: what an operation gives, what code goes on with.
  The machine's heap, for runs whose values are open: new blocks, rows as lists, what is read of them and written into them.
  Loops, appends, bytes, for runs whose values are open.
  A run whose arguments are handed on, and never looked at.
  Runs upon what came in: rows that the run only reads, each in a block of its own below number 256; what the machine has shown of it holds of every memory and every tape.
  Slices as the values that they hold, rows that the run owns and appends to, a function that is known to answer true as one step: for runs whose values are open.
  Numbers of seven bits to a byte, and a move's bytes: what is written is read, and what is read is what is written.
  A table of types, held against the program by the kernel.
  THE TABLES OF THE CANONICAL MACHINE for this seat: what each type is, and the functions, each in a tree. Printed by program (tables.py).
-/
import Derived.Test.YtkafejncffinmaaZC
import Derived.LoopN
import Derived.Scope
import Derived.Below
import Derived.ChangeSame
import Derived.ChangeSlices
import Derived.ChangeArms
import Derived.Test.YtkafejncffinmaaProg
set_option linter.unusedSimpArgs false
set_option linter.unusedVariables false
namespace Go.Proofs.Ytkafejncffinmaa
noncomputable section
open Go
section
variable {P : Program} {ty : TTy} {N : Nat} {all : List Oper} {ρ : Nat → Rho} {H : Nat → Hp} {V : Nat → Value} {T : Nat → Nat → Prop} {run : Nat → Bool} {ahs : List Ahead} {bs : List Nat}
theorem Hx (hah : ∀ j o, all[j]? = some o → ∃ xs, apart ty all bs j o all.zipIdx = some xs ∧ AhIs ty all bs j o xs (ahs.getD j .plain)) (tr : Tr P ty all ahs all ρ H V run T) {j : Nat} (hj : j < all.length) :
    (H (j + 1)).low ≤ (H j).low ∧ (H j).high ≤ (H (j + 1)).high ∧ (∀ c, T j c → (H (j + 1)).low ≤ c ∧ c ≤ (H (j + 1)).high) ∧ (H (j + 1)).mark = (H j).mark := by
  have ho : all[j]? = some all[j] := List.getElem?_eq_getElem hj
  obtain ⟨xs, _, ha⟩ := hah j _ ho
  rcases (tr.sf j _ ho).core with ⟨_, core⟩ | ⟨_, _, hh, hT⟩
  · exact core.tame ha.tame
  · rw [hh]; exact ⟨Nat.le_refl _, Nat.le_refl _, fun c hc => absurd hc (hT c), rfl⟩
theorem DU (hah : ∀ j o, all[j]? = some o → ∃ xs, apart ty all bs j o all.zipIdx = some xs ∧ AhIs ty all bs j o xs (ahs.getD j .plain)) (tr : Tr P ty all ahs all ρ H V run T) {i : Nat} :
    ∀ {k : Nat}, i ≤ k → k ≤ all.length → (H k).low ≤ (H i).low ∧ (H i).high ≤ (H k).high ∧ (H k).mark = (H i).mark := by
  intro k h hk
  induction k with
  | zero => have : i = 0 := Nat.le_zero.1 h; subst this; exact ⟨Nat.le_refl _, Nat.le_refl _, rfl⟩
  | succ k ih =>
    rcases Nat.lt_or_ge k i with h2 | h2
    · have : i = k + 1 := by omega
      subst this; exact ⟨Nat.le_refl _, Nat.le_refl _, rfl⟩
    · obtain ⟨a1, a2, a3⟩ := ih h2 (by omega)
      obtain ⟨b1, b2, _, b3⟩ := Hx hah tr (j := k) (by omega)
      exact ⟨Nat.le_trans b1 a1, Nat.le_trans a2 b2, b3.trans a3⟩
theorem LV (tr : Tr P ty all ahs all ρ H V run T) {t : Nat} {u : Value} {i k : Nat} (h : i ≤ k) (hk : k ≤ all.length) (hs : ∀ m o, i ≤ m → m < k → all[m]? = some o → o.dst ≠ some t) (hu : evR (ρ k) (.tmp t) = some u) : evR (ρ i) (.tmp t) = some u :=
  tr.backward h hk hs hu
theorem Ut (hbs : bs = DA [] all) (he : F4 all = true) (hs : HE all bs = true)
    (hah : ∀ j o, all[j]? = some o → ∃ xs, apart ty all bs j o all.zipIdx = some xs ∧ AhIs ty all bs j o xs (ahs.getD j .plain)) (tr : Tr P ty all ahs all ρ H V run T) :
    Laws ty all ρ H T (fun i j => isB bs i j = true) := by
  have len : ∀ {i : Nat} {o : Oper}, all[i]? = some o → i < all.length := fun h => (List.getElem?_eq_some_iff.1 h).1
  have coreOf : ∀ j oj c, all[j]? = some oj → T j c → Core P ty oj (ahs.getD j .plain) (ρ j) (H j) (H (j + 1)) (V j) (T j) := by
    intro j oj c hj hc
    rcases (tr.sf j oj hj).core with ⟨_, core⟩ | ⟨_, _, _, hT⟩
    · exact core
    · exact absurd hc (hT c)
  have kinds : ∀ j oj c, all[j]? = some oj → T j c → (∃ x, kd ty oj.op = .w x) ∨ (kd ty oj.op = .q ∧ strongQ ty all bs j = false) := by
    intro j oj c hj hc
    have core := coreOf j oj c hj hc
    obtain ⟨xs, _, ha⟩ := hah j oj hj
    generalize ahs.getD j .plain = ah at ha core
    cases ha with
    | strong hk _ => exact absurd hc (core.strong rfl c)
    | weak hk h => exact .inr ⟨hk, h⟩
    | free hk h _ => exact .inr ⟨hk, h⟩
    | alloc hk => exact absurd hc (core.strong rfl c)
    | read hk => exact absurd hc ((core.tp (.inr ⟨_, hk⟩)).1 c)
    | write hk => exact .inl ⟨_, hk⟩
    | wfree hk _ => exact .inl ⟨_, hk⟩
    | plain hk => exact absurd hc ((core.tp (.inl hk)).1 c)
  have held : ∀ {i j oi oj}, all[i]? = some oi → all[j]? = some oj → i < j → ¬ isB bs i j = true → ∃ xs, AhIs ty all bs j oj xs (ahs.getD j .plain) ∧ Held ty all xs i j oi oj := by
    intro i j oi oj hi hj hij hB
    obtain ⟨xs, hx, ha⟩ := hah j oj hj
    exact ⟨xs, ha, Dv hx oi i (FW.2 hi) hij (by cases h : isB bs i j <;> first | rfl | exact absurd h hB)⟩
  refine { lt := fun i j h => Z9 hbs he j i h, slots := fun i j oi oj d hij hi hj hd hn => TG hs hij hi hj hd hn, kinds := fun j oj c hj hc => (kinds j oj c hj hc).imp id (·.1), fixed := ?_, reads := ?_, tlt := ?_, tout := ?_, low := ?_, high := ?_ }
  ·
    intro i j oi c hij hi hjn hc hki
    have hj : all[j]? = some all[j] := List.getElem?_eq_getElem hjn
    by_cases h1 : isB bs i j = true
    · exact .inl h1
    by_cases h2 : isB bs j i = true
    · exact .inr h2
    exfalso
    have hQQ : ∀ {i j : Nat} {oi : Oper}, all[i]? = some oi → i ≠ j → ¬ isB bs i j = true → ¬ isB bs j i = true → kd ty oi.op = .q → strongQ ty all bs j = true := fun hi hij h1 h2 hk => by
      unfold strongQ
      exact Gy hi hij h1 h2 (by rw [hk]; rfl)
    rcases kinds j _ c hj hc with ⟨xj, hkj⟩ | ⟨hkj, hns⟩
    · rcases Nat.lt_or_gt_of_ne hij with h | h
      · obtain ⟨xs, _, hh⟩ := held hi hj h h1
        rcases hki with ⟨x, hki⟩ | hki
        · exact hh.ww x xj hki hkj
        · exact hh.qw xj hki hkj
      · obtain ⟨xs, _, hh⟩ := held hj hi h h2
        rcases hki with ⟨x, hki⟩ | hki
        · exact hh.ww xj x hkj hki
        · exact hh.wq xj hkj hki
    · rcases hki with ⟨x, hki⟩ | hki
      · rcases Nat.lt_or_gt_of_ne hij with h | h
        · obtain ⟨xs, _, hh⟩ := held hi hj h h1
          exact hh.wq x hki hkj
        · obtain ⟨xs, _, hh⟩ := held hj hi h h2
          exact hh.qw x hkj hki
      · rw [hQQ hi hij h1 h2 hki] at hns; cases hns
  ·
    intro i j oi x c u hij hi hjn hc hki hu hb
    have hj : all[j]? = some all[j] := List.getElem?_eq_getElem hjn
    by_cases h1 : isB bs i j = true
    · exact .inl h1
    by_cases h2 : isB bs j i = true
    · exact .inr h2
    exfalso
    have core := coreOf j _ c hj hc
    have hin := len hi
    have si := (tr.sf i oi hi).side (by rw [hki]; intro h; cases h)
    rcases kinds j _ c hj hc with ⟨xj, hkj⟩ | ⟨hkj, hns⟩
    ·
      have hah_j : ∃ xs, ahs.getD j .plain = .wr xj xs ∧ apart ty all bs j all[j] all.zipIdx = some xs := by
        obtain ⟨xs, hx, ha⟩ := hah j _ hj
        generalize ahs.getD j .plain = ah at ha
        cases ha with
        | write hk => rw [hkj] at hk; cases hk; exact ⟨xs, rfl, hx⟩
        | wfree hk hl =>
          have := Gy (ty := ty) (ask := fun _ k => isR k) hi hij h1 h2 (by simp only [hki]; rfl)
          rw [hl] at this; cases this
        | strong hk _ => rw [hkj] at hk; cases hk
        | weak hk _ => rw [hkj] at hk; cases hk
        | free hk _ _ => rw [hkj] at hk; cases hk
        | alloc hk => rw [hkj] at hk; cases hk
        | read hk => rw [hkj] at hk; cases hk
        | plain hk => rw [hkj] at hk; cases hk
      obtain ⟨xsj, hej, hxj⟩ := hah_j
      obtain ⟨u', hu', hb'⟩ := core.wr xj xsj hej c hc
      have sj := (tr.sf j _ hj).side (by rw [hkj]; intro h; cases h)
      rcases Nat.lt_or_gt_of_ne hij with h | h
      ·
        have hh := Dv hxj oi i (FW.2 hi) h (by cases h : isB bs i j <;> first | rfl | exact absurd h h1)
        obtain ⟨hm, t, rfl, hw⟩ := hh.rw' x xj hki hkj
        obtain ⟨_, hkn⟩ := sj.known xj xsj (.inl hej)
        obtain ⟨u2, hu2⟩ := hkn _ hm
        have hback := LV tr (Nat.le_of_lt h) (Nat.le_of_lt hjn) (fun m o a1 a2 a3 => hw m o a1 a2 a3) hu2
        rw [hu] at hback; cases hback
        exact sj.wrx xj xsj hej _ hm u' u c hu' hu2 hb' hb
      ·
        obtain ⟨xs, ha, hh⟩ := held hj hi h h2
        obtain ⟨hm, t, rfl, hw⟩ := hh.wr xj x hkj hki
        have hchk : ∃ old, ahs.getD i .plain = .chk old x xs := by
          generalize ahs.getD i .plain = ah at ha
          cases ha with
          | read hk =>
            rw [hki] at hk; cases hk
            rcases Ib (x := x) (old := loose ty all bs i fun i k => isQ k && !(strongQ ty all bs i)) (xs := xs) with ⟨_, _, h⟩ | h
            · subst h; cases hm
            · exact ⟨_, h⟩
          | strong hk _ => rw [hki] at hk; cases hk
          | weak hk _ => rw [hki] at hk; cases hk
          | free hk _ _ => rw [hki] at hk; cases hk
          | alloc hk => rw [hki] at hk; cases hk
          | write hk => rw [hki] at hk; cases hk
          | wfree hk _ => rw [hki] at hk; cases hk
          | plain hk => rw [hki] at hk; cases hk
        obtain ⟨old, hei⟩ := hchk
        obtain ⟨_, hkn⟩ := si.known x xs (.inr ⟨old, hei⟩)
        obtain ⟨u2, hu2⟩ := hkn _ hm
        have hback := LV tr (Nat.le_of_lt h) (Nat.le_of_lt hin) (fun m o a1 a2 a3 => hw m o a1 a2 a3) hu2
        rw [hu'] at hback; cases hback
        exact si.chk old x xs hei _ hm u u' c hu hu2 hb hb'
    ·
      have hwk : ∀ c, T j c → (H j).mark ≤ c := by
        obtain ⟨xs, hx, ha⟩ := hah j _ hj
        generalize ahs.getD j .plain = ah at ha core
        cases ha with
        | weak hk _ => exact core.weak rfl
        | free hk _ hl =>
          have : looseQ ty all bs j = true := by
            unfold looseQ
            exact Gy (ty := ty) (ask := fun _ k => !isP k) hi hij h1 h2 (by simp only [hki]; rfl)
          rw [hl] at this; cases this
        | strong hk h => rw [hns] at h; cases h
        | alloc hk => rw [hkj] at hk; cases hk
        | read hk => rw [hkj] at hk; cases hk
        | write hk => rw [hkj] at hk; cases hk
        | wfree hk _ => rw [hkj] at hk; cases hk
        | plain hk => rw [hkj] at hk; cases hk
      have hold : ∃ xs, ahs.getD i .plain = .chk true x xs := by
        obtain ⟨xs, hx, ha⟩ := hah i oi hi
        generalize ahs.getD i .plain = ah at ha
        cases ha with
        | read hk =>
          rw [hki] at hk; cases hk
          have hl : (loose ty all bs i fun i k => isQ k && !(strongQ ty all bs i)) = true :=
            Gy hj (fun h => hij h.symm) h2 h1 (by rw [hkj, hns]; rfl)
          rw [hl]
          rcases Ib (x := x) (old := true) (xs := xs) with ⟨_, h, _⟩ | h
          · cases h
          · exact ⟨xs, h⟩
        | strong hk _ => rw [hki] at hk; cases hk
        | weak hk _ => rw [hki] at hk; cases hk
        | free hk _ _ => rw [hki] at hk; cases hk
        | alloc hk => rw [hki] at hk; cases hk
        | write hk => rw [hki] at hk; cases hk
        | wfree hk _ => rw [hki] at hk; cases hk
        | plain hk => rw [hki] at hk; cases hk
      obtain ⟨xs, hei⟩ := hold
      have h3 := si.old x xs hei u c hu hb
      have h4 := hwk c hc
      have m1 := (DU hah tr (Nat.zero_le i) (Nat.le_of_lt hin)).2.2
      have m2 := (DU hah tr (Nat.zero_le j) (Nat.le_of_lt hjn)).2.2
      omega
  · intro j c hjn hc
    exact (coreOf j _ c (List.getElem?_eq_getElem hjn) hc).tlt c hc
  · intro j c hjn hc
    obtain ⟨_, _, h3, _⟩ := Hx hah tr hjn
    obtain ⟨h4, h5⟩ := h3 c hc
    obtain ⟨h6, h7, _⟩ := DU hah tr (i := j + 1) hjn (Nat.le_refl _)
    omega
  · exact (DU hah tr (Nat.zero_le _) (Nat.le_refl _)).1
  · exact (DU hah tr (Nat.zero_le _) (Nat.le_refl _)).2.1
theorem RI (h : OK ty all = some ahs) : ∃ bs, bs = DA [] all ∧ F4 all = true ∧ HE all bs = true ∧ ∀ j o, all[j]? = some o → ∃ xs, apart ty all bs j o all.zipIdx = some xs ∧ AhIs ty all bs j o xs (ahs.getD j .plain) := by
  unfold OK at h
  rw [N9] at h
  split at h
  · rename_i hc
    simp only [Bool.and_eq_true] at hc
    refine ⟨_, rfl, hc.1, hc.2.2, fun j o ho => ?_⟩
    have := Jd h j o ho
    rw [Nat.zero_add] at this
    exact Mp this
  · cases h
end
end
end Go.Proofs.Ytkafejncffinmaa
set_option linter.unusedSimpArgs false
set_option linter.unusedVariables false
namespace Go.Proofs.Ytkafejncffinmaa
noncomputable section
open Go
def Ag (S : List Nat) (e e' : Env) : Prop := ∀ t, t < 320 → t ∉ S → e'.get t = e.get t
theorem Ag.refl (S : List Nat) (e : Env) : Ag S e e := fun _ _ _ => rfl
theorem Ag.trans {S : List Nat} {e e1 e2 : Env} (h : Ag S e e1) (h2 : Ag S e1 e2) : Ag S e e2 := fun t ht hn => (h2 t ht hn).trans (h t ht hn)
def QN (S : List Nat) (e : Env) : X → Prop
  | .no => True
  | .norm e' _ => Ag S e e'
  | .exit _ e' _ => Ag S e e'
  | .ret e' _ => Ag S e e'
theorem QN.of {S : List Nat} {e e1 : Env} {x : X} (h : Ag S e e1) (h2 : QN S e1 x) : QN S e x := by
  cases x with
  | no => trivial
  | norm _ _ => exact h.trans h2
  | exit _ _ _ => exact h.trans h2
  | ret _ _ => exact h.trans h2
section
variable {S : List Nat}
end
structure WalkIs (A : List Nat) (a : Code) (k : Walk) (id : Nat) (o1 o2 : Oper) (r2 : Code) : Prop where
  code : a = .seq (.region id #[o1, o2] false) (.seq (.cond (.tmp k.more) .skip (.exit k.out)) r2)
  op1 : o1.op = .next (.tmp k.it) false
  dst1 : o1.dst = some k.nx
  grd1 : o1.guard = none
  op2 : o2.op = .extract (.tmp k.nx) 0
  dst2 : o2.dst = some k.more
  grd2 : o2.guard = none
  ne : k.nx ≠ k.more
  itA : memN k.it A = false
  nxA : memN k.nx A = false
  moA : memN k.more A = false
  itL : k.it < 320
  nxL : k.nx < 320
  moL : k.more < 320
  ws : k.ws = wrs a
  itW : k.it ∉ k.ws
  few : ∀ d ∈ k.ws, d < 320
  rs : ∀ d ∈ k.rs, d ∈ k.ws
section
variable {ty : TTy} {A S : List Nat}
end
structure Good (ty : TTy) (A : List Nat) (N : Nat) (φ : Phi) (h : Hp) (w : World) (σ : Sg) (e : Env) (h' : Hp) (ψ : Phi) (a : Act) (w' : World) : Prop where
  sg : SgOk A σ
  rel : RelW ty ψ nil h' w'
  ar : AR N ψ (rhoOf A σ e) a
  evo : Evo φ h w ψ h' w'
section
variable {P : Program} {ty : TTy} {F : CallF} {A : List Nat} {N : Nat}
theorem WI {σ : Sg} (hS : SgOk A σ) {e : Env} {t : Nat} {u : Value} (h : rhoOf A [] e t = some u) : rhoOf A σ e t = some u := by
  rw [D6] at h ⊢
  have h : (match memN t A with | true => none | false => match Nat.blt t 320 with | true => some (AB t e) | false => none) = some u := h
  cases hf : Cx t σ with
  | some s =>
    have := hS.mem _ (Dg hf)
    simp only at this
    rw [this] at h; cases h
  | none => exact h
theorem AR.nil {φ : Phi} {σ : Sg} {e : Env} {a : Act} (hS : SgOk A σ) (h : AR N φ (rhoOf A σ e) a) : AR N φ (rhoOf A [] e) a := ⟨h.size, h.defs, fun t u hu => h.rel t u (WI hS hu)⟩
theorem Good.nil {φ ψ : Phi} {h h' : Hp} {w w' : World} {σ : Sg} {e : Env} {a : Act} (g : Good ty A N φ h w σ e h' ψ a w') : Good ty A N φ h w [] e h' ψ a w' := ⟨.nil A, g.rel, g.ar.nil g.sg, g.evo⟩
theorem Good.trans {φ ψ χ : Phi} {h h' h2 : Hp} {w w' w2 : World} {σ σ2 : Sg} {e e2 : Env} {a a2 : Act} (g : Good ty A N φ h w σ e h' ψ a w') (g2 : Good ty A N ψ h' w' σ2 e2 h2 χ a2 w2) : Good ty A N φ h w σ2 e2 h2 χ a2 w2 :=
  ⟨g2.sg, g2.rel, g2.ar, g.evo.trans g2.evo⟩
structure Post (ty : TTy) (A : List Nat) (N : Nat) (F : CallF) (φ : Phi) (h : Hp) (w : World) (k : Option (Sg → C)) (X : X) (Q : Exit → Act → World → Prop) : Prop where
  go : ∀ k', k = some k' → ∀ σ e h' ψ a' w', Good ty A N φ h w σ e h' ψ a' w' → k' σ F e h' = X → Q .normal a' w'
  norm : k = none → ∀ e h' ψ a' w', Good ty A N φ h w [] e h' ψ a' w' → X = .norm e h' → Q .normal a' w'
  exit : ∀ id e h' ψ a' w', Good ty A N φ h w [] e h' ψ a' w' → X = .exit id e h' → Q (.exit id) a' w'
  ret : ∀ e h' ψ a' w', Good ty A N φ h w [] e h' ψ a' w' → X = .ret e h' → Q .ret a' w'
theorem Post.then {φ : Phi} {h : Hp} {w : World} {k : Option (Sg → C)} {X : X} {Q : Exit → Act → World → Prop} (p : Post ty A N F φ h w k X Q) {σ : Sg} {e : Env} {h' : Hp} {ψ : Phi} {a' : Act} {w' : World} (g : Good ty A N φ h w σ e h' ψ a' w') (hx : KH k σ F e h' = X) : Q .normal a' w' := by
  cases k with
  | none => exact p.norm rfl e h' ψ a' w' g.nil hx.symm
  | some k' => exact p.go k' rfl σ e h' ψ a' w' g hx
structure Rd (A : List Nat) (N : Nat) (φ : Phi) (ws : List Nat) (e : Env) (w : World) (pb qb c : Nat) (seen : List Nat) (ak : Act) (wk : World) : Prop where
  size : ak.tmps.size = N
  defs : ak.defers = []
  slots : ∀ t, t < 320 → memN t A = false → t ∉ ws → RelV φ (e.get t) (ak.tmps.getD t undef)
  grow : w.heap.size ≤ wk.heap.size
  same : ∀ j, j < w.heap.size → j ≠ pb → wk.heap[j]? = w.heap[j]?
  tape : wk.tape = w.tape
  os : wk.os = w.os
  output : wk.output = w.output
  iter : wk.heap[pb]? = some (.mapIter (some qb) c ⟨seen⟩ c)
theorem RelW.one {φ : Phi} {h : Hp} {w w' : World} {b : Nat} {pb : Pl} {o : Blk} {bl : BT} (H : RelW ty φ nil h w) (hpb : φ b = some pb) (hin : pb.inp = false) (hlive : Live h b) (hbl : ∀ i, bl.get i = if i = b then o else h.bl.get i)
    (hs : w.heap.size ≤ w'.heap.size) (hsame : ∀ j, j < w.heap.size → j ≠ pb.blk → w'.heap[j]? = w.heap[j]?) (hB : RelB ty φ pb o w'.heap[pb.blk]?) (hoc : ∀ cc s el, o ≠ .cells cc s el) (lo hi mk : Nat) :
    RelW ty φ nil { next := h.next, low := lo, high := hi, mark := mk, bl := bl } w' where
  dom := fun i p hp => ⟨(H.dom i p hp).1, Nat.lt_of_lt_of_le (H.dom i p hp).2 hs⟩
  inj := fun i j p q hp hq _ _ hi hj hio hpq => by
    have lv : ∀ i, bl.get i ≠ .dead → Live h i := fun i hi => by
      by_cases hib : i = b
      · rw [hib]; exact hlive
      · rw [hbl, if_neg hib] at hi; exact hi
    exact H.inj i j p q hp hq (fun h => h) (fun h => h) (lv i hi) (lv j hj) hio hpq
  row := fun i p hp _ => by
    show RelB ty φ p (bl.get i) _
    rw [hbl]
    by_cases hib : i = b
    · rw [if_pos hib]
      subst hib
      rw [hpb] at hp; cases hp
      exact hB
    · rw [if_neg hib]
      by_cases hdd : h.bl.get i = .dead
      · rw [hdd]; exact .dead
      · rw [hsame p.blk (H.dom i p hp).2 (fun hb => hib (H.inj i b p pb hp hpb (fun h => h) (fun h => h) hdd hlive (.inr hin) hb))]
        exact H.row i p hp (fun h => h)
  fresh := fun i hi => by
    have hi : h.next ≤ i := hi
    show bl.get i = _
    have := (H.dom _ _ hpb).1
    rw [hbl, if_neg (by omega)]; exact H.fresh i hi
  kind := fun i p cc s el hp he => by
    have he : bl.get i = .cells cc s el := he
    rw [hbl] at he
    by_cases hib : i = b
    · rw [if_pos hib] at he; exact absurd he (hoc _ _ _)
    · rw [if_neg hib] at he; exact H.kind i p cc s el hp he
  inp := H.inp
theorem Evo.one {φ : Phi} {h : Hp} {w w' : World} {b : Nat} {pb : Pl} {o : Blk} {bl : BT} (hpb : φ b = some pb) (hin : pb.inp = false) (hlive : Live h b) (hbl : ∀ i, bl.get i = if i = b then o else h.bl.get i)
    (hs : w.heap.size ≤ w'.heap.size) (hsame : ∀ j, j < w.heap.size → j ≠ pb.blk → w'.heap[j]? = w.heap[j]?) (ht : w'.tape = w.tape) (hos : w'.os = w.os) (hou : w'.output = w.output) (ho : ShapeLe (h.bl.get b) o) (mk : Nat) :
    Evo φ h w φ { next := h.next, low := Ch h.low b, high := D0 h.high b, mark := mk, bl := bl } w' where
  le := .refl φ
  new := fun _ _ e => .inl e
  next := Nat.le_refl _
  size := hs
  tape := ht
  os := hos
  output := hou
  frame := fun j hj hf => hsame j hj fun hjp => hf b pb hpb hin (by show Ch _ _ ≤ _; rw [CG]; exact Nat.min_le_right _ _) (by show _ ≤ D0 _ _; rw [C7]; exact Nat.le_max_right _ _) hlive hjp.symm
  back := fun i p hp hl _ => by
    refine ⟨i, p, hp, ?_, rfl, rfl, .inl rfl⟩
    by_cases hib : i = b
    · rw [hib]; exact hlive
    · have hl : bl.get i ≠ .dead := hl
      rw [hbl, if_neg hib] at hl; exact hl
  kept := fun i _ hi => by
    show bl.get i = _
    have hi : i < Ch h.low b ∨ D0 h.high b < i := hi
    rw [CG, C7] at hi
    rw [hbl, if_neg (by omega)]
  low := by show Ch _ _ ≤ _; rw [CG]; exact Nat.min_le_left _ _
  high := by show _ ≤ D0 _ _; rw [C7]; exact Nat.le_max_left _ _
  shape := fun i _ => by
    show ShapeLe _ (bl.get i)
    rw [hbl]
    by_cases hib : i = b
    · rw [if_pos hib, hib]; exact ho
    · rw [if_neg hib]; exact .refl _
  only := fun i _ h0 => by
    show bl.get i = _
    rw [hbl, if_neg (fun e => by rw [e, hpb] at h0; cases h0)]
  all := fun _ h1 h2 => absurd h2 (Nat.not_lt.2 h1)
end
end
end Go.Proofs.Ytkafejncffinmaa
set_option linter.unusedSimpArgs false
set_option linter.unusedVariables false
namespace Go.Proofs.Ytkafejncffinmaa
noncomputable section
open Go
section
variable {P : Program} {ty : TTy} {F : CallF} {A : List Nat} {N : Nat}
theorem Evo.of_low {φ ψ : Phi} {h g h' : Hp} {w w' : World} (ev : Evo φ g w ψ h' w') (h1 : g.bl = h.bl) (h2 : g.next = h.next) (h3 : g.low = h.low) (h4 : g.high = h.high) : Evo φ h w ψ h' w' where
  le := ev.le
  new := by rw [← h2]; exact ev.new
  next := by rw [← h2]; exact ev.next
  size := ev.size
  tape := ev.tape
  os := ev.os
  output := ev.output
  frame := by unfold Live; rw [← h1]; exact ev.frame
  back := by
    have := ev.back
    unfold Live at this ⊢
    rw [h1] at this; exact this
  kept := by rw [← h1, ← h2]; exact ev.kept
  low := by rw [← h3]; exact ev.low
  high := by rw [← h4]; exact ev.high
  shape := by rw [← h1, ← h2]; exact ev.shape
  only := by rw [← h1, ← h2]; exact ev.only
  all := by rw [← h2]; exact ev.all
theorem QB (hT : CY P ty) (hF : Cq P ty F) (hm : P.follows .mixedOrders = true) {id : Nat} {ops : Array Oper} {draw : Bool} {σ : Sg} {k : Option (Sg → C)} {e : Env} {h : Hp} {X : X} (hr : Cf ty A (.region id ops draw) σ k F e h = X) (hn : X ≠ .no)
    (hd : CZ N (.region id ops draw) = true) {φ : Phi} {w : World} {a : Act} (hS : SgOk A σ) (HW : RelW ty φ nil h w) (HA : AR N φ (rhoOf A σ e) a) {Q : Exit → Act → World → Prop} (p : Post ty A N F φ h w k X Q) : (Code.region id ops draw).wp P Q a w := by
  have hN : ∀ o ∈ ops.toList, ∀ d, o.dst = some d → d < N := by
    intro o ho d hod
    unfold CZ at hd
    rw [List.all_eq_true] at hd
    have := hd o ho
    rw [hod] at this
    exact B1.1 this
  unfold Cf at hr
  cases draw with
  | false =>
    simp only at hr
    obtain ⟨ρ, H, V, run, T, σ', e', tr, q1, q2, q3, q4, q5⟩ := K4 hT hF ops.toList [] σ e h X (fun j o _ => .plain ty o) hS hr hn
    refine wp_region_list ?_
    have := K9 (Q := Q) (a := a) (w := w) (φ := φ) ops.toList tr hN (by rw [q2]; exact HW) (by rw [q1]; exact HA) fun _ ψ a' w' r1 r2 r3 => p.then ⟨q4, r1, by rw [← q3]; exact r2, by rw [← q2]; exact r3⟩ q5
    simpa using this
  | true =>
    simp only at hr
    cases hdr : OK ty ops.toList with
    | none => rw [hdr] at hr; exact absurd hr.symm hn
    | some ahs =>
      rw [hdr] at hr
      obtain ⟨bs, hbs, he, hs, hah⟩ := RI hdr
      have hr : H4 ty A ops.toList (KH k) ahs ops.toList σ F e { next := h.next, low := h.low, high := h.high, mark := h.next, bl := h.bl } = X := hr
      obtain ⟨ρ, H, V, run, T, σ', e', tr, q1, q2, q3, q4, q5⟩ := K4 hT hF ops.toList ahs σ e _ X (fun j o ho => by obtain ⟨xs, _, h⟩ := hah j o ho; exact h.ok) hS hr hn
      have := W6 (id := id) (Q := Q) (a := a) (w := w) (φ0 := φ) hm (LS hbs he) (Ut hbs he hs hah tr) tr hN (by rw [q2]; exact HW.of_bl rfl rfl) (by rw [q1]; exact HA)
        fun ψ a' w' r1 r2 r3 => p.then ⟨q4, r1, by rw [← q3]; exact r2, by rw [q2] at r3; exact r3.of_low rfl rfl rfl rfl⟩ q5
      simpa using this
theorem Oe (hm : P.follows .mixedOrders = true) {c : Code} {body : C} (ih : ∀ {e : Env} {h : Hp} {X : X}, body F e h = X → X ≠ .no → ∀ (φ : Phi) (w : World) (a : Act), RelW ty φ nil h w → AR N φ (rhoOf A [] e) a → ∀ (Q : Exit → Act → World → Prop), Post ty A N F φ h w none X Q → c.wp P Q a w) :
    ∀ (n : Nat) {e : Env} {h : Hp} {X : X}, iter body n F e h = X → X ≠ .no → ∀ (φ : Phi) (w : World) (a : Act), RelW ty φ nil h w → AR N φ (rhoOf A [] e) a → ∀ (Q : Exit → Act → World → Prop), Post ty A N F φ h w none X Q → Code.rounds P c Q n a w
  | 0, e, h, X, hr, hn => by exact absurd hr.symm hn
  | n + 1, e, h, X, hr, hn => by
    intro φ w a HW HA Q p
    unfold iter at hr
    cases hb : body F e h with
    | no => rw [hb] at hr; exact absurd hr.symm hn
    | norm e1 h1 =>
      rw [hb] at hr
      simp only at hr
      refine ih hb (fun h => by cases h) φ w a HW HA _ { go := (fun _ h => by cases h), norm := fun _ e' h' ψ a' w' g hx => ?_, exit := (fun _ _ _ _ _ _ _ hx => by cases hx), ret := (fun _ _ _ _ _ _ hx => by cases hx) }
      cases hx
      exact Oe hm ih n hr hn _ _ _ g.rel g.ar _ { go := (fun _ h => by cases h), norm := fun h e2 h2 χ a2 w2 g2 hx => p.norm h e2 h2 χ a2 w2 (g.trans g2) hx, exit := fun id e2 h2 χ a2 w2 g2 hx => p.exit id e2 h2 χ a2 w2 (g.trans g2) hx, ret := fun e2 h2 χ a2 w2 g2 hx => p.ret e2 h2 χ a2 w2 (g.trans g2) hx }
    | exit i e1 h1 =>
      rw [hb] at hr
      refine ih hb (fun h => by cases h) φ w a HW HA _ { go := (fun _ h => by cases h), norm := (fun _ _ _ _ _ _ _ hx => by cases hx), exit := fun id e2 h2 χ a2 w2 g2 hx => p.exit id e2 h2 χ a2 w2 g2 (hr.symm.trans hx), ret := (fun _ _ _ _ _ _ hx => by cases hx) }
    | ret e1 h1 =>
      rw [hb] at hr
      refine ih hb (fun h => by cases h) φ w a HW HA _ { go := (fun _ h => by cases h), norm := (fun _ _ _ _ _ _ _ hx => by cases hx), exit := (fun _ _ _ _ _ _ _ hx => by cases hx), ret := fun e2 h2 χ a2 w2 g2 hx => p.ret e2 h2 χ a2 w2 g2 (hr.symm.trans hx) }
theorem Md {φ : Phi} {h : Hp} {w : World} {k' : Sg → C} {X : X} {Q : Exit → Act → World → Prop} (p : Post ty A N F φ h w (some k') X Q) {a : C} {e : Env} (hr : Ar a (k' []) F e h = X) (hn : X ≠ .no) :
    ∃ X1, a F e h = X1 ∧ X1 ≠ .no ∧ Post ty A N F φ h w none X1 Q := by
  unfold Ar at hr
  cases hb : a F e h with
  | no => rw [hb] at hr; exact absurd hr.symm hn
  | norm e1 h1 =>
    rw [hb] at hr
    exact ⟨_, rfl, (fun h => by cases h), { go := (fun _ h => by cases h), norm := fun _ e2 h2 χ a2 w2 g2 hx => by cases hx; exact p.go k' rfl [] _ _ χ a2 w2 g2 hr, exit := (fun _ _ _ _ _ _ _ hx => by cases hx), ret := (fun _ _ _ _ _ _ hx => by cases hx) }⟩
  | exit i e1 h1 =>
    rw [hb] at hr
    exact ⟨_, rfl, (fun h => by cases h), { go := (fun _ h => by cases h), norm := (fun _ _ _ _ _ _ _ hx => by cases hx), exit := fun id e2 h2 χ a2 w2 g2 hx => p.exit id e2 h2 χ a2 w2 g2 (hr.symm.trans hx), ret := (fun _ _ _ _ _ _ hx => by cases hx) }⟩
  | ret e1 h1 =>
    rw [hb] at hr
    exact ⟨_, rfl, (fun h => by cases h), { go := (fun _ h => by cases h), norm := (fun _ _ _ _ _ _ _ hx => by cases hx), exit := (fun _ _ _ _ _ _ _ hx => by cases hx), ret := fun e2 h2 χ a2 w2 g2 hx => p.ret e2 h2 χ a2 w2 g2 (hr.symm.trans hx) }⟩
theorem Mr {φ : Phi} {h : Hp} {w : World} {X : X} {Q : Exit → Act → World → Prop} (p : Post ty A N F φ h w none X Q) {id : Nat} {a : C} {e : Env} (hr : AX id a F e h = X) (hn : X ≠ .no) :
    ∃ X1, a F e h = X1 ∧ X1 ≠ .no ∧ Post ty A N F φ h w none X1 (Exit.inBlock id Q) := by
  unfold AX at hr
  cases hb : a F e h with
  | no => rw [hb] at hr; exact absurd hr.symm hn
  | norm e1 h1 =>
    rw [hb] at hr
    exact ⟨_, rfl, (fun h => by cases h), { go := (fun _ h => by cases h), norm := fun h e2 h2 χ a2 w2 g2 hx => p.norm h e2 h2 χ a2 w2 g2 (hr.symm.trans hx), exit := (fun _ _ _ _ _ _ _ hx => by cases hx), ret := (fun _ _ _ _ _ _ hx => by cases hx) }⟩
  | exit i e1 h1 =>
    rw [hb] at hr
    simp only at hr
    refine ⟨_, rfl, (fun h => by cases h), { go := (fun _ h => by cases h), norm := fun _ _ _ _ _ _ _ hx => (by cases hx), exit := fun j e2 h2 χ a2 w2 g2 hx => ?_, ret := fun _ _ _ _ _ _ hx => (by cases hx) }⟩
    cases hx
    unfold Exit.inBlock
    cases hq : Nat.beq i id with
    | true =>
      rw [hq] at hr
      simp only [A8.1 hq, if_true]
      exact p.norm rfl _ _ χ a2 w2 g2 hr.symm
    | false =>
      rw [hq] at hr
      simp only [E8 hq, if_false]
      exact p.exit i _ _ χ a2 w2 g2 hr.symm
  | ret e1 h1 =>
    rw [hb] at hr
    exact ⟨_, rfl, (fun h => by cases h), { go := (fun _ h => by cases h), norm := (fun _ _ _ _ _ _ _ hx => by cases hx), exit := (fun _ _ _ _ _ _ _ hx => by cases hx), ret := fun e2 h2 χ a2 w2 g2 hx => p.ret e2 h2 χ a2 w2 g2 (hr.symm.trans hx) }⟩
theorem Dw (hT : CY P ty) (hF : Cq P ty F) (hm : P.follows .mixedOrders = true) : ∀ (c : Code) {σ : Sg} {k : Option (Sg → C)} {e : Env} {h : Hp} {X : X}, Cf ty A c σ k F e h = X → X ≠ .no → CZ N c = true →
    ∀ (φ : Phi) (w : World) (a : Act), SgOk A σ → RelW ty φ nil h w → AR N φ (rhoOf A σ e) a → ∀ (Q : Exit → Act → World → Prop), Post ty A N F φ h w k X Q → c.wp P Q a w
  | .skip, σ, k, e, h, X, hr, hn, hd => by
    intro φ w a hS HW HA Q p
    exact wp_skip (p.then ⟨hS, HW, HA, .refl _ _ _⟩ hr)
  | .region id ops draw, σ, k, e, h, X, hr, hn, hd => by
    intro φ w a hS HW HA Q p
    exact QB hT hF hm hr hn hd hS HW HA p
  | .seq x y, σ, k, e, h, X, hr, hn, hd => by
    intro φ w a hS HW HA Q p
    have hd : (CZ N x && CZ N y) = true := hd
    rw [Bool.and_eq_true] at hd
    have hr : Cf ty A x σ (some fun σ => Cf ty A y σ k) F e h = X := hr
    refine wp_seq (Dw hT hF hm x hr hn hd.1 _ _ _ hS HW HA _ { go := fun k' hk σ' e' h' ψ a' w' g hx => ?_, norm := fun h => (by cases h), exit := p.exit, ret := p.ret })
    cases hk
    exact Dw hT hF hm y hx hn hd.2 _ _ _ g.sg g.rel g.ar _ { go := fun k' hk σ2 e2 h2 χ a2 w2 g2 hx => p.go k' hk σ2 e2 h2 χ a2 w2 (g.trans g2) hx, norm := fun h e2 h2 χ a2 w2 g2 hx => p.norm h e2 h2 χ a2 w2 (g.trans g2) hx, exit := fun id e2 h2 χ a2 w2 g2 hx => p.exit id e2 h2 χ a2 w2 (g.trans g2) hx, ret := fun e2 h2 χ a2 w2 g2 hx => p.ret e2 h2 χ a2 w2 (g.trans g2) hx }
  | .cond c x y, σ, k, e, h, X, hr, hn, hd => by
    intro φ w a hS HW HA Q p
    have hd : (CZ N x && CZ N y) = true := hd
    rw [Bool.and_eq_true] at hd
    unfold Cf at hr
    cases hc : cO ⟨A, σ⟩ c with
    | none => rw [hc] at hr; exact absurd hr.symm hn
    | some cc =>
      rw [hc] at hr
      simp only at hr
      have hrel := HA.ev (Ei hc e)
      have two : ∀ {kx : Option (Sg → C)} {Y : Go.Proofs.Ytkafejncffinmaa.X}, AP cc (Cf ty A x σ kx) (Cf ty A y σ kx) F e h = Y → Y ≠ .no → Post ty A N F φ h w kx Y Q → (Code.cond c x y).wp P Q a w := by
        intro kx Y hr hn p
        unfold AP at hr
        cases hv : cc e with
        | bool t =>
          rw [hv] at hr hrel
          have hev := hrel.bool_inv
          cases t with
          | true => exact wp_cond_true hev (Dw hT hF hm x hr hn hd.1 _ _ _ hS HW HA _ p)
          | false => exact wp_cond_false hev (Dw hT hF hm y hr hn hd.2 _ _ _ hS HW HA _ p)
        | _ => rw [hv] at hr; exact absurd hr.symm hn
      cases k with
      | none => exact two hr hn p
      | some k' =>
        simp only at hr
        cases hf : (Hr x && Hr y) with
        | false => rw [hf] at hr; exact two hr hn p
        | true =>
          rw [hf] at hr
          obtain ⟨X1, h1, h2, p1⟩ := Md p hr hn
          exact two h1 h2 p1
  | .block id x, σ, k, e, h, X, hr, hn, hd => by
    intro φ w a hS HW HA Q p
    have hd : CZ N x = true := hd
    have one : ∀ {Y : Go.Proofs.Ytkafejncffinmaa.X}, AX id (Cf ty A x [] none) F e h = Y → Y ≠ .no → Post ty A N F φ h w none Y Q → (Code.block id x).wp P Q a w := by
      intro Y hr hn p
      obtain ⟨X1, h1, h2, p1⟩ := Mr p hr hn
      exact wp_block (Dw hT hF hm x h1 h2 hd _ _ _ (.nil A) HW (HA.nil hS) _ p1)
    unfold Cf at hr
    cases k with
    | none => exact one hr hn p
    | some k' =>
      simp only at hr
      obtain ⟨X1, h1, h2, p1⟩ := Md p hr hn
      exact one h1 h2 p1
  | .loop x, σ, k, e, h, X, hr, hn, hd => by
    intro φ w a hS HW HA Q p
    have hd : CZ N x = true := hd
    have plain : iter (Cf ty A x [] none) rounds F e h = X → (Code.loop x).wp P Q a w := by
      intro hr
      refine wp_loop_rounds rounds (Oe hm (fun h1 h2 φ w a HW HA Q p => Dw hT hF hm x h1 h2 hd _ _ _ (.nil A) HW HA _ p) rounds hr hn _ _ _ HW (HA.nil hS) _ { go := fun _ h => (by cases h), norm := fun _ e2 h2 χ a2 w2 g2 hx => ?_, exit := p.exit, ret := p.ret })
      exfalso
      subst hx
      have : ∀ (n : Nat) (e : Env) (h : Hp), iter (Cf ty A x [] none) n F e h ≠ .norm e2 h2 := by
        intro n
        induction n with
        | zero => intro e h hq; cases hq
        | succ n ih =>
          intro e h hq
          unfold iter at hq
          cases hb : Cf ty A x [] none F e h with
          | norm e1 h1 => rw [hb] at hq; exact ih e1 h1 hq
          | no => rw [hb] at hq; cases hq
          | exit _ _ _ => rw [hb] at hq; cases hq
          | ret _ _ => rw [hb] at hq; cases hq
      exact this _ e h hr
    unfold Cf at hr
    cases hw : XN A x with
    | none => rw [hw] at hr; exact plain hr
    | some kw => exact nomatch (show (none : Option Walk) = some kw from hw)
  | .exit id, σ, k, e, h, X, hr, hn, hd => by
    intro φ w a hS HW HA Q p
    have hr : (.exit id e h : Go.Proofs.Ytkafejncffinmaa.X) = X := hr
    exact wp_exit (p.exit id e h φ a w ⟨.nil A, HW, HA.nil hS, .refl _ _ _⟩ hr.symm)
  | .ret, σ, k, e, h, X, hr, hn, hd => by
    intro φ w a hS HW HA Q p
    have hr : (.ret e h : Go.Proofs.Ytkafejncffinmaa.X) = X := hr
    exact wp_ret (p.ret e h φ a w ⟨.nil A, HW, HA.nil hS, .refl _ _ _⟩ hr.symm)
  | .rangeFunc _ _ _ _, _, _, _, _, X, hr, hn, _ => by exact absurd hr.symm hn
  | .scope x, σ, k, e, h, X, hr, hn, hd => by
    intro φ w a hS HW HA Q p
    have hd : CZ N x = true := hd
    have hr : Cf ty A x σ k F e h = X := hr
    exact wp_scope_straight (Dw hT hF hm x hr hn hd _ _ _ hS HW HA _ { go := p.go, norm := p.norm, exit := p.exit, ret := p.ret })
  | .label _, σ, k, e, h, X, hr, hn, hd => by
    intro φ w a hS HW HA Q p
    exact wp_label (p.then ⟨hS, HW, HA, .refl _ _ _⟩ hr)
  | .goto _, _, _, _, _, X, hr, hn, _ => by exact absurd hr.symm hn
  | .refuse _, _, _, _, _, X, hr, hn, _ => by exact absurd hr.symm hn
termination_by c => SizeOf.sizeOf c
decreasing_by
  all_goals simp_wf
  all_goals first | omega | (simp_all; omega)
end
end
end Go.Proofs.Ytkafejncffinmaa
set_option linter.unusedSimpArgs false
set_option linter.unusedVariables false
namespace Go.Proofs.Ytkafejncffinmaa
noncomputable section
open Go
section
variable {P : Program} {ty : TTy} {A : List Nat} {N : Nat} {φ : Phi} {h h' : Hp} {w : World} {e : Env} {a : Act} {v : Value}
theorem J5 {t : Nat} (h : K3 A t = true) (e : Env) : rhoOf A [] e t = some (AB t e) := by
  unfold K3 at h
  rw [D6]
  show (match memN t A with | true => none | false => match Nat.blt t 320 with | true => some (AB t e) | false => none) = _
  cases hm : memN t A with
  | true => rw [hm] at h; cases h
  | false =>
    rw [hm] at h
    have h : Nat.blt t 320 = true := h
    simp only [h]
def MZ (tmps : Array Value) : ResultVar → Sem Value
  | .tmp t => pure (tmps.getD t undef)
  | .cell a t => do loadVar t (← asAddr (tmps.getD a undef))
theorem Nu (fn : Func) (tmps : Array Value) : Go.results fn tmps = (do let vs ← fn.results.mapM (MZ tmps); pure (if h : vs.size = 1 then vs[0] else .tuple vs)) := by
  unfold Go.results
  congr 2
theorem QR (f : ResultVar → Sem Value) (l : Array ResultVar) {vs : List Value} (h : (l.toList.mapM f).run P w = .ok vs w) : (l.mapM f).run P w = .ok ⟨vs⟩ w := by
  have : l.mapM f = List.toArray <$> l.toList.mapM f := by
    conv => lhs; rw [← Array.toArray_toList (xs := l)]
    rw [List.mapM_toArray]
  rw [this, map_eq_pure_bind, Sem.run_bind, h, Result.andThen_ok, Sem.run_pure]
theorem Fb (hT : CY P ty) (H : RelW ty φ nil h w) (HA : AR N φ (rhoOf A [] e) a) : ∀ {l : List ResultVar} {rs : List RV} {k : List Value → R}, rsC ty A l = some rs → Go.Proofs.Ytkafejncffinmaa.results e h k rs = .ok v h' →
    ∃ vs vs', RelL φ vs vs' ∧ k vs = .ok v h' ∧ (l.mapM (MZ a.tmps)).run P w = .ok vs' w
  | [], rs, k, hc, hr => by
    cases hc
    exact ⟨[], [], .nil, hr, by simp⟩
  | .tmp t :: l, rs, k, hc, hr => by
    unfold rsC at hc
    split at hc
    · cases hc
    rename_i ht
    split at hc
    case h_2 => cases hc
    rename_i r hrs
    cases hc
    unfold Go.Proofs.Ytkafejncffinmaa.results at hr
    have hr : forceV (AB t e) (fun v => Go.Proofs.Ytkafejncffinmaa.results e h (fun vs => k (v :: vs)) r) = .ok v h' := hr
    rw [BF] at hr
    obtain ⟨vs, vs', h1, h2, h3⟩ := Fb hT H HA hrs hr
    have h4 := HA.rel t _ (J5 ht e)
    exact ⟨_, _, .cons h4 h1, h2, by simp [List.mapM_cons, MZ, h3]⟩
  | .cell c t :: l, rs, k, hc, hr => by
    unfold rsC at hc
    split at hc
    · cases hc
    rename_i ht
    split at hc
    case h_2 => cases hc
    rename_i ti hti
    split at hc
    case h_2 => cases hc
    rename_i r hrs
    have T := hT t ti hti
    have h4 := HA.rel c _ (J5 ht e)
    cases hag : ti.k.agg with
    | true =>
      rw [hag] at hc
      cases hc
      unfold Go.Proofs.Ytkafejncffinmaa.results EK at hr
      simp only at hr
      cases hadr : DH (AB c e) with
      | no => rw [hadr] at hr; cases hr
      | ok ad =>
        rw [hadr] at hr
        simp only at hr
        cases hl : loadN ti.size ad h with
        | no => rw [hl] at hr; cases hr
        | ok u h2 =>
          rw [hl] at hr
          simp only [BF] at hr
          rw [F0 hadr] at h4
          obtain ⟨a', ha', hra⟩ := h4.ptr_inv
          obtain ⟨_, l', hv, hrun⟩ := Lw (P := P) H hl hra (fun h => h)
          obtain ⟨vs, vs', h1, h5, h3⟩ := Fb hT H HA hrs hr
          refine ⟨_, _, .cons hv h1, h5, ?_⟩
          have : (MZ a.tmps (.cell c t)).run P w = .ok (.agg l'.toArray) w := by
            unfold MZ
            simp only [ha', asAddr, Sem.run_bind, Sem.run_pure, Result.andThen_ok, loadVar, T.agg, hag, if_true, T.size, hrun]
          simp [List.mapM_cons, this, h3]
    | false =>
      rw [hag] at hc
      cases hc
      unfold Go.Proofs.Ytkafejncffinmaa.results EK at hr
      simp only at hr
      cases hadr : DH (AB c e) with
      | no => rw [hadr] at hr; cases hr
      | ok ad =>
        rw [hadr] at hr
        simp only at hr
        cases hl : load1 ad h with
        | no => rw [hl] at hr; cases hr
        | ok u h2 =>
          rw [hl] at hr
          simp only [BF] at hr
          rw [F0 hadr] at h4
          obtain ⟨a', ha', hra⟩ := h4.ptr_inv
          obtain ⟨_, v', hcell, hv⟩ := Lv H hl hra (fun h => h)
          obtain ⟨vs, vs', h1, h5, h3⟩ := Fb hT H HA hrs hr
          refine ⟨_, _, .cons hv h1, h5, ?_⟩
          have : (MZ a.tmps (.cell c t)).run P w = .ok v' w := by
            unfold MZ
            simp only [ha', asAddr, Sem.run_bind, Sem.run_pure, Result.andThen_ok, loadVar, T.agg, hag, Bool.false_eq_true, if_false, run_load, hcell]
          simp [List.mapM_cons, this, h3]
theorem Jk (hT : CY P ty) (H : RelW ty φ nil h w) (HA : AR N φ (rhoOf A [] e) a) {fn : Func} {rs : List RV} (hc : rsC ty A fn.results.toList = some rs) (hr : EC rs e h = .ok v h') :
    h' = h ∧ ∃ v', RelV φ v v' ∧ (Go.results fn a.tmps).run P w = .ok v' w := by
  unfold EC at hr
  obtain ⟨vs, vs', h1, h2, h3⟩ := Fb hT H HA hc hr
  have hrun := QR (P := P) (w := w) (MZ a.tmps) fn.results h3
  rw [Nu]
  simp only [Sem.run_bind, hrun, Result.andThen_ok, Sem.run_pure]
  unfold F5 at h2
  split at h2
  · cases h2
    cases h1 with
    | cons hv ht => cases ht; exact ⟨rfl, _, hv, rfl⟩
  · rename_i hne
    cases h2
    refine ⟨rfl, _, .tuple h1, ?_⟩
    have : vs'.length ≠ 1 := by
      rw [h1.length]
      intro hl
      cases vs with
      | nil => cases hl
      | cons x l =>
        cases l with
        | nil => exact hne x rfl
        | cons _ _ => simp at hl
    have hs : ¬ (Array.mk vs').size = 1 := this
    rw [dif_neg hs]
theorem Me : ∀ (args : List Value) (e : Env) (i t : Nat), i + args.length ≤ 320 → t < 320 → (Ak e i args).get t = if i ≤ t ∧ t < i + args.length then args.getD (t - i) noRes else e.get t
  | [], e, i, t, _, _ => by
    rw [if_neg (by simp)]; rfl
  | v :: l, e, i, t, hn, ht => by
    simp only [List.length_cons] at hn
    unfold Ak
    rw [Me l _ (i + 1) t (by omega) ht]
    by_cases h1 : i + 1 ≤ t ∧ t < i + 1 + l.length
    · rw [if_pos h1, if_pos (by simp only [List.length_cons]; omega)]
      have : t - i = (t - (i + 1)) + 1 := by omega
      rw [this, List.getD_cons_succ]
    · rw [if_neg h1, Env.get_set _ _ _ _ (by omega) ht]
      by_cases h2 : t = i
      · subst h2
        rw [if_pos rfl, if_pos (by simp only [List.length_cons]; omega)]
        simp
      · rw [if_neg h2, if_neg (by simp only [List.length_cons]; omega)]
set_option maxRecDepth 100000 in
theorem Y8 {t : Nat} (ht : t < 320) : e0.get t = noRes := by
  have H : IL (fun i => e0.get i = noRes) 320 := by
    repeat' (first | exact trivial | refine ⟨rfl, ?_⟩)
  exact H.at t ht
theorem Tf {args args' : List Value} (hr : RelL φ args args') (hn : args.length ≤ 320) (n : Nat) :
    AR (max args.length n) φ (rhoOf A [] (Ak e0 0 args)) { tmps := (⟨args'⟩ : Array Value) ++ Array.replicate (n - (⟨args'⟩ : Array Value).size) undef, defers := [] } where
  size := by
    have := hr.length
    simp only [Array.size_append, Array.size_replicate, List.size_toArray]
    omega
  defs := rfl
  rel := fun t u hu => by
    rw [D6] at hu
    have hu : (match memN t A with | true => none | false => match Nat.blt t 320 with | true => some (AB t (Ak e0 0 args)) | false => none) = some u := hu
    cases hm : memN t A with
    | true => rw [hm] at hu; cases hu
    | false =>
      rw [hm] at hu
      simp only at hu
      cases hb : Nat.blt t 320 with
      | false => rw [hb] at hu; cases hu
      | true =>
        rw [hb] at hu
        cases hu
        have ht := B1.1 hb
        rw [Ec t ht, Me args e0 0 t (by omega) ht, Y8 ht]
        have hlen := hr.length
        simp only [Array.getD_eq_getD_getElem?]
        by_cases h1 : t < args.length
        · rw [if_pos (by omega), Nat.sub_zero, Array.getElem?_append_left (by simp only [List.size_toArray]; omega)]
          obtain ⟨v', h2, h3⟩ := hr.get t args[t] (List.getElem?_eq_getElem h1)
          have : args.getD t noRes = args[t] := by rw [List.getD_eq_getElem?_getD, List.getElem?_eq_getElem h1]; rfl
          rw [this]
          have e2 : (⟨args'⟩ : Array Value)[t]? = some v' := by simpa using h2
          rw [e2]; exact h3
        · rw [if_neg (by omega), Array.getElem?_append_right (by simp only [List.size_toArray]; omega), Array.getElem?_replicate]
          split <;> exact .tuple .nil
theorem QD {l : List ResultVar} {rs : List RV} (hc : rsC ty A l = some rs) : N5 rs = none := by
  cases l with
  | nil => cases hc; rfl
  | cons x l =>
    cases x with
    | tmp t =>
      unfold rsC at hc
      split at hc
      · cases hc
      · split at hc
        · cases hc; rfl
        · cases hc
    | cell c t =>
      unfold rsC at hc
      split at hc
      · cases hc
      · split at hc
        · split at hc
          · split at hc
            · cases hc; rfl
            · cases hc; rfl
          · cases hc
        · cases hc
def cI (P : Program) (ty : TTy) (g : Nat) (b : Body) : Prop := ∃ fn A, P.funcs[g]? = some fn ∧ fn.name ≠ "runtime.NumGoroutine" ∧ Bm ty A fn = some b
def CA : Body := ⟨[], cNo⟩
theorem C3 {n m : Nat} (h : n ≤ m) : ∀ {c : Code}, CZ n c = true → CZ m c = true
  | .region _ ops _, hd => by
    unfold CZ at hd ⊢
    rw [List.all_eq_true] at hd ⊢
    intro o ho
    have := hd o ho
    split at this
    · have := B1.1 this
      exact B1.2 (by omega)
    · rfl
  | .seq a b, hd => by
    have hd : (CZ n a && CZ n b) = true := hd
    rw [Bool.and_eq_true] at hd
    show (CZ m a && CZ m b) = true
    rw [C3 h hd.1, C3 h hd.2]; rfl
  | .cond _ a b, hd => by
    have hd : (CZ n a && CZ n b) = true := hd
    rw [Bool.and_eq_true] at hd
    show (CZ m a && CZ m b) = true
    rw [C3 h hd.1, C3 h hd.2]; rfl
  | .block _ a, hd => C3 (c := a) h hd
  | .loop a, hd => C3 (c := a) h hd
  | .skip, _ => rfl
  | .exit _, _ => rfl
  | .ret, _ => rfl
  | .rangeFunc _ _ _ _, _ => rfl
  | .scope a, hd => C3 (c := a) h hd
  | .label _, _ => rfl
  | .goto _, _ => rfl
  | .refuse _, _ => rfl
theorem RJ (hT : CY P ty) {F : CallF} (hF : Cq P ty F) (hm : P.follows .mixedOrders = true) {g : Nat} {b : Body} (hb : cI P ty g b) {args : List Value} (hr : enter F b args h = .ok v h') :
    (∃ fn, P.funcs[g]? = some fn ∧ fn.name ≠ "runtime.NumGoroutine" ∧ fn.body.isNone = false) ∧
    ∀ φ w args', RelL φ args args' → RelW ty φ nil h w →
      Calls P g ⟨args'⟩ w fun en w' => ∃ v' ψ, en = .returned v' ∧ RelV ψ v v' ∧ RelW ty ψ nil h' w' ∧ Evo φ h w ψ h' w' := by
  obtain ⟨fn, A, hfn, hname, hbody⟩ := hb
  unfold Bm at hbody
  cases hc : fn.body with
  | none => rw [hc] at hbody; cases hbody
  | some c =>
    rw [hc] at hbody
    simp only at hbody
    cases hrs : rsC ty A fn.results.toList with
    | none => rw [hrs] at hbody; cases hbody
    | some rs =>
      rw [hrs] at hbody
      simp only at hbody
      cases hd : CZ fn.ntmps c with
      | false => rw [hd] at hbody; cases hbody
      | true =>
        rw [hd] at hbody
        cases hbody
        refine ⟨⟨fn, hfn, hname, by rw [hc]; rfl⟩, fun φ w args' hrel HW => ?_⟩
        unfold enter at hr
        dsimp only at hr
        rw [QD hrs] at hr
        obtain ⟨hlen, hr⟩ := Bn hr
        have hlen : args.length ≤ 320 := by rw [← Bh]; exact A0.1 hlen
        have hAR := Tf (A := A) hrel hlen fn.ntmps
        refine calls_of_wp hfn hc ?_
        have hn : Cf ty A c [] none F (Ak e0 0 args) h ≠ .no := by
          intro hx; rw [hx] at hr; cases hr
        refine Dw hT hF hm c (e := Ak e0 0 args) (h := h) rfl hn (C3 (Nat.le_max_right _ _) hd) _ _ _ (.nil A) HW hAR _ { go := fun _ h => (by cases h), norm := fun _ e1 h1 ψ a1 w1 g1 hx => ?_, exit := fun id e1 h1 ψ a1 w1 g1 hx => ?_, ret := fun e1 h1 ψ a1 w1 g1 hx => ?_ }
        · rw [hx] at hr
          obtain ⟨rfl, v', hv, hrun⟩ := Jk hT g1.rel g1.ar hrs hr
          exact ⟨g1.ar.defs, v', hrun, v', ψ, rfl, hv, g1.rel, g1.evo⟩
        · rw [hx] at hr; cases hr
        · rw [hx] at hr
          obtain ⟨rfl, v', hv, hrun⟩ := Jk hT g1.rel g1.ar hrs hr
          exact ⟨g1.ar.defs, v', hrun, v', ψ, rfl, hv, g1.rel, g1.evo⟩
def Mo (P : Program) (ty : TTy) (g : Nat) (b : Body) : Prop := ∀ (F : CallF) (args : List Value) (h : Hp) (v : Value) (h' : Hp), Cq P ty F → enter F b args h = .ok v h' →
    (∃ fn, P.funcs[g]? = some fn ∧ fn.name ≠ "runtime.NumGoroutine" ∧ fn.body.isNone = false) ∧
    ∀ φ w args', RelL φ args args' → RelW ty φ nil h w →
      Calls P g ⟨args'⟩ w fun en w' => ∃ v' ψ, en = .returned v' ∧ RelV ψ v v' ∧ RelW ty ψ nil h' w' ∧ Evo φ h w ψ h' w'
def B8 (P : Program) (ty : TTy) (g : Nat) (b : Body) : Prop := cI P ty g b ∨ b = CA ∨ Mo P ty g b
def FT.All (p : Nat → Body → Prop) : FT → (Nat → Nat) → Prop
  | .mt, _ => True
  | .nd b l r, ix => p (ix 0) b ∧ FT.All p l (fun k => ix (2 * k + 1)) ∧ FT.All p r (fun k => ix (2 * k + 2))
theorem FT.All.get {p : Nat → Body → Prop} : ∀ {t : FT} {ix : Nat → Nat}, FT.All p t ix → ∀ {i : Nat} {b : Body}, t.get i = some b → p (ix i) b
  | .mt, ix, _, i, b, h => by cases h
  | .nd c l r, ix, ⟨h0, hl, hr⟩, 0, b, h => by cases h; exact h0
  | .nd c l r, ix, ⟨h0, hl, hr⟩, k + 1, b, h => by
    unfold FT.get at h
    have e1 : Nat.mod k 2 = k % 2 := rfl
    have e2 : Nat.div k 2 = k / 2 := rfl
    rw [e1, e2] at h
    rcases Nat.mod_two_eq_zero_or_one k with hk | hk
    · rw [hk] at h
      have := hl.get (i := k / 2) h
      have e : 2 * (k / 2) + 1 = k + 1 := by omega
      simp only [e] at this; exact this
    · rw [hk] at h
      have := hr.get (i := k / 2) h
      have e : 2 * (k / 2) + 2 = k + 1 := by omega
      simp only [e] at this; exact this
theorem Gh (hT : CY P ty) (hm : P.follows .mixedOrders = true) {bs : FT} (hb : FT.All (B8 P ty) bs id) : ∀ n, Cq P ty (call bs n)
  | 0 => fun g args h v h' hr => by cases hr
  | n + 1 => fun g args h v h' hr => by
    have hr : (match bs.get g with | some b => enter (call bs n) b args h | none => .no) = .ok v h' := hr
    cases hg : bs.get g with
    | none => rw [hg] at hr; cases hr
    | some b =>
      rw [hg] at hr
      rcases hb.get hg with hok | rfl | hdo
      · exact RJ hT (Gh hT hm hb n) hm hok hr
      · exfalso
        have hr : (bif Nat.ble (Bk args) 320 then Bs [] .no else .no) = .ok v h' := hr
        obtain ⟨_, hr⟩ := Bn hr
        cases hr
      · exact hdo _ args h v h' (Gh hT hm hb n) hr
end
end
end Go.Proofs.Ytkafejncffinmaa
set_option linter.unusedVariables false
namespace Go.Proofs.Ytkafejncffinmaa
noncomputable section
open Go Go.RowKit Go.WideShapes Go.ChangeShapes
def Sf : R → Bool
  | .ok (.bool b) _ => b
  | _ => false
def eg : Phi := fun _ => none
theorem QG (ty : TTy) (w : World) : RelW ty eg nil Mk w where
  dom := fun i p h => by cases h
  inj := fun i j p q h => by cases h
  row := fun i p h => by cases h
  fresh := fun i _ => HV 9 i
  kind := fun i p c s e h => by cases h
  inp := fun i p h => by cases h
theorem Sy {P : Program} {ty : TTy} {bs : FT} (hC : ∀ n, Cq P ty (call bs n)) {n f : Nat} (h : Sf (call bs n f [] Mk) = true) (w : World) :
    Calls P f #[] w fun e w' => e = .returned (.bool true) ∧ Below w.heap.size w w' := by
  cases hr : call bs n f [] Mk with
  | no => rw [hr] at h; cases h
  | ok v h' =>
    rw [hr] at h
    obtain ⟨_, hc⟩ := hC n f [] Mk v h' hr
    refine (hc eg w [] .nil (QG ty w)).mono fun e w' ⟨v', ψ, he, hv, _, ev⟩ => ?_
    cases v with
    | bool b =>
      have h : b = true := h
      subst h
      have := hv.bool_inv
      subst this
      exact ⟨he, ⟨ev.os, ev.tape, ev.output, ev.size, fun k hk => ev.frame k hk fun i p hp => by cases hp⟩⟩
    | _ => cases h
section
variable {H : Type} {enc : TypeId × Value → H} {P : Program}
theorem Ja {f : Func} {s : ChangeSpec} {apart fresh handsOn again : Bool} {W W' : World} {args : Array Value} {v : Value} {ds gs : List (DataW H)} {before pa pv : List MemPlace}
    (hW : DataW.Whole enc P f.params.toList s.vars apart W args.toList ds gs before)
    (hres : ∀ (b : Nat) (sp : Nat → Bool) (hd : Bool), DataW.TrodAll enc P W' b sp hd f.resultTypes.toList (v.resultList f.resultTypes.size) (s.fn H (ds ++ gs)).results [])
    (hargs : ∀ sp : Nat → Bool, (∀ p ∈ before, sp p.block = true) → DataW.TrodAll enc P W' 0 sp true f.params.toList args.toList (s.fn H (ds ++ gs)).args pa)
    (hvars : ∀ sp : Nat → Bool, (∀ p ∈ before, sp p.block = true) → DataW.TrodVars enc P W' sp s.vars (s.fn H (ds ++ gs)).vars pv)
    (hps : before = pa ++ pv) (hb : Below W.heap.size W W')
    (hok : ∀ (j : Nat) (t : TypeId) (r : Value), f.resultTypes[j]? = some t → (v.resultList f.resultTypes.size)[j]? = some r → Value.okWide P W' .any 0 t r) :
    s.post enc P f apart fresh handsOn again W args v W' := by
  have hlt : ∀ p ∈ before, p.block < W.heap.size := fun p hp => hW.lt p hp
  have hold : ∀ p ∈ before, (fun b => decide (b < W.heap.size)) p.block = true := fun p hp => by simpa using hlt p hp
  refine ⟨ds, gs, before, [], pa, pv, hW, hres _ _ _, hargs _ hold, hvars _ hold, World.keptBut_mono (fun p hp => ⟨hp, ?_⟩) (hb.frame (· ∈ before)), fun _ => ?_⟩
  · rw [hps, List.mem_append] at hp
    exact Or.inr hp
  · obtain ⟨_, _, _, _, _, hz, hn⟩ := hW
    refine ⟨hok, _, _, ([] ++ pa) ++ pv, ⟨[] ++ pa, pv, trodAll_append (hargs _ (fun _ _ => rfl)) (hres _ _ _), hvars _ (fun _ _ => rfl), rfl, ?_, ?_⟩, ?_⟩
    · intro b off hp
      have hin : MemPlace.cell b off ∈ before := by rw [hps]; simpa using hp
      rw [hb.frozen (hlt _ hin)]
      exact hz b off hin
    · intro ha
      have := hn ha
      rw [hps] at this
      simpa using this
    · intro p hp _
      rw [hps]
      simpa using hp
end
end
end Go.Proofs.Ytkafejncffinmaa
namespace Go.Proofs.Ytkafejncffinmaa
noncomputable section
open Go
namespace VT
def has : VT → Nat → Prop
  | .mt, _ => False
  | .nd _ _ _, 0 => True
  | .nd _ l r, k + 1 => if k % 2 = 0 then l.has (k / 2) else r.has (k / 2)
theorem has_succ (v : Value) (l r : VT) (k : Nat) : (VT.nd v l r).has (k + 1) = if k % 2 = 0 then l.has (k / 2) else r.has (k / 2) := by rw [has]
theorem Eb : ∀ (t : VT) (i : Nat) (x : Value), (∀ j, j < i → t.has j) → ∃ t', t.set i x = some t'
  | .mt, 0, x, _ => ⟨_, rfl⟩
  | .mt, i + 1, x, h => (h 0 (Nat.succ_pos i)).elim
  | .nd v l r, 0, x, _ => ⟨_, rfl⟩
  | .nd v l r, k + 1, x, h => by
    rw [C5]
    by_cases hk : k % 2 = 0
    · rw [if_pos hk]
      obtain ⟨l', hl⟩ := Eb l (k / 2) x fun j hj => by
        have := h (2 * j + 1) (by omega)
        rw [has_succ, if_pos (by omega)] at this
        have e : 2 * j / 2 = j := by omega
        rwa [e] at this
      rw [hl]; exact ⟨_, rfl⟩
    · rw [if_neg hk]
      obtain ⟨r', hr⟩ := Eb r (k / 2) x fun j hj => by
        have := h (2 * j + 1 + 1) (by omega)
        rw [has_succ, if_neg (by omega)] at this
        have e : (2 * j + 1) / 2 = j := by omega
        rwa [e] at this
      rw [hr]; exact ⟨_, rfl⟩
theorem Fd : ∀ (t : VT) (i : Nat) (x : Value) (t' : VT), t.set i x = some t' → ∀ j, (j = i ∨ t.has j) → t'.has j
  | .mt, 0, x, t', h, j, hj => by
    obtain rfl : VT.nd x .mt .mt = t' := Option.some.inj h
    rcases hj with rfl | hj
    · exact trivial
    · exact hj.elim
  | .mt, i + 1, x, t', h, j, hj => by cases h
  | .nd v l r, 0, x, t', h, j, hj => by
    obtain rfl : VT.nd x l r = t' := Option.some.inj h
    cases j with
    | zero => exact trivial
    | succ j =>
      rcases hj with hj | hj
      · cases hj
      · rw [has_succ] at hj ⊢; exact hj
  | .nd v l r, i + 1, x, t', h, j, hj => by
    rw [C5] at h
    split at h
    · rename_i h0
      cases hs : l.set (i / 2) x with
      | none => rw [hs] at h; cases h
      | some l' =>
        rw [hs] at h
        obtain rfl : VT.nd v l' r = t' := Option.some.inj h
        cases j with
        | zero => exact trivial
        | succ j =>
          rw [has_succ]
          split
          · rename_i h1
            refine Fd l _ x l' hs _ ?_
            rcases hj with hj | hj
            · left; have : j = i := by omega
              rw [this]
            · right; rw [has_succ, if_pos h1] at hj; exact hj
          · rename_i h1
            rcases hj with hj | hj
            · have : j = i := by omega
              exact absurd (this ▸ h0) h1
            · rw [has_succ, if_neg h1] at hj; exact hj
    · rename_i h0
      cases hs : r.set (i / 2) x with
      | none => rw [hs] at h; cases h
      | some r' =>
        rw [hs] at h
        obtain rfl : VT.nd v l r' = t' := Option.some.inj h
        cases j with
        | zero => exact trivial
        | succ j =>
          rw [has_succ]
          split
          · rename_i h1
            rcases hj with hj | hj
            · have : j = i := by omega
              exact absurd (this ▸ h1) h0
            · rw [has_succ, if_pos h1] at hj; exact hj
          · rename_i h1
            refine Fd r _ x r' hs _ ?_
            rcases hj with hj | hj
            · left; have : j = i := by omega
              rw [this]
            · right; rw [has_succ, if_neg h1] at hj; exact hj
def lay (t : VT) (i : Nat) (x : Value) : VT := (t.set i x).getD t
theorem lay_is {t : VT} {i : Nat} {x : Value} (h : ∀ j, j < i → t.has j) : t.set i x = some (t.lay i x) := by
  obtain ⟨t', ht⟩ := Eb t i x h
  unfold lay; rw [ht]; rfl
theorem lay_get {t : VT} {i : Nat} {x : Value} (h : ∀ j, j < i → t.has j) (j : Nat) : (t.lay i x).get j = if j = i then x else t.get j := get_set _ _ _ _ (lay_is h) j
theorem lay_has {t : VT} {i : Nat} {x : Value} (h : ∀ j, j < i → t.has j) (j : Nat) (hj : j = i ∨ t.has j) : (t.lay i x).has j := Fd _ _ _ _ (lay_is h) j hj
end VT
namespace BT
def has : BT → Nat → Prop
  | .mt, _ => False
  | .nd _ _ _, 0 => True
  | .nd _ l r, k + 1 => if k % 2 = 0 then l.has (k / 2) else r.has (k / 2)
theorem has_succ (v : Blk) (l r : BT) (k : Nat) : (BT.nd v l r).has (k + 1) = if k % 2 = 0 then l.has (k / 2) else r.has (k / 2) := by rw [has]
theorem Eb : ∀ (t : BT) (i : Nat) (x : Blk), (∀ j, j < i → t.has j) → ∃ t', t.set i x = some t'
  | .mt, 0, x, _ => ⟨_, rfl⟩
  | .mt, i + 1, x, h => (h 0 (Nat.succ_pos i)).elim
  | .nd v l r, 0, x, _ => ⟨_, rfl⟩
  | .nd v l r, k + 1, x, h => by
    rw [C5]
    by_cases hk : k % 2 = 0
    · rw [if_pos hk]
      obtain ⟨l', hl⟩ := Eb l (k / 2) x fun j hj => by
        have := h (2 * j + 1) (by omega)
        rw [has_succ, if_pos (by omega)] at this
        have e : 2 * j / 2 = j := by omega
        rwa [e] at this
      rw [hl]; exact ⟨_, rfl⟩
    · rw [if_neg hk]
      obtain ⟨r', hr⟩ := Eb r (k / 2) x fun j hj => by
        have := h (2 * j + 1 + 1) (by omega)
        rw [has_succ, if_neg (by omega)] at this
        have e : (2 * j + 1) / 2 = j := by omega
        rwa [e] at this
      rw [hr]; exact ⟨_, rfl⟩
theorem Fd : ∀ (t : BT) (i : Nat) (x : Blk) (t' : BT), t.set i x = some t' → ∀ j, (j = i ∨ t.has j) → t'.has j
  | .mt, 0, x, t', h, j, hj => by
    obtain rfl : BT.nd x .mt .mt = t' := Option.some.inj h
    rcases hj with rfl | hj
    · exact trivial
    · exact hj.elim
  | .mt, i + 1, x, t', h, j, hj => by cases h
  | .nd v l r, 0, x, t', h, j, hj => by
    obtain rfl : BT.nd x l r = t' := Option.some.inj h
    cases j with
    | zero => exact trivial
    | succ j =>
      rcases hj with hj | hj
      · cases hj
      · rw [has_succ] at hj ⊢; exact hj
  | .nd v l r, i + 1, x, t', h, j, hj => by
    rw [C5] at h
    split at h
    · rename_i h0
      cases hs : l.set (i / 2) x with
      | none => rw [hs] at h; cases h
      | some l' =>
        rw [hs] at h
        obtain rfl : BT.nd v l' r = t' := Option.some.inj h
        cases j with
        | zero => exact trivial
        | succ j =>
          rw [has_succ]
          split
          · rename_i h1
            refine Fd l _ x l' hs _ ?_
            rcases hj with hj | hj
            · left; have : j = i := by omega
              rw [this]
            · right; rw [has_succ, if_pos h1] at hj; exact hj
          · rename_i h1
            rcases hj with hj | hj
            · have : j = i := by omega
              exact absurd (this ▸ h0) h1
            · rw [has_succ, if_neg h1] at hj; exact hj
    · rename_i h0
      cases hs : r.set (i / 2) x with
      | none => rw [hs] at h; cases h
      | some r' =>
        rw [hs] at h
        obtain rfl : BT.nd v l r' = t' := Option.some.inj h
        cases j with
        | zero => exact trivial
        | succ j =>
          rw [has_succ]
          split
          · rename_i h1
            rcases hj with hj | hj
            · have : j = i := by omega
              exact absurd (this ▸ h1) h0
            · rw [has_succ, if_pos h1] at hj; exact hj
          · rename_i h1
            refine Fd r _ x r' hs _ ?_
            rcases hj with hj | hj
            · left; have : j = i := by omega
              rw [this]
            · right; rw [has_succ, if_neg h1] at hj; exact hj
def lay (t : BT) (i : Nat) (x : Blk) : BT := (t.set i x).getD t
theorem lay_is {t : BT} {i : Nat} {x : Blk} (h : ∀ j, j < i → t.has j) : t.set i x = some (t.lay i x) := by
  obtain ⟨t', ht⟩ := Eb t i x h
  unfold lay; rw [ht]; rfl
theorem lay_get {t : BT} {i : Nat} {x : Blk} (h : ∀ j, j < i → t.has j) (j : Nat) : (t.lay i x).get j = if j = i then x else t.get j := get_set _ _ _ _ (lay_is h) j
theorem lay_has {t : BT} {i : Nat} {x : Blk} (h : ∀ j, j < i → t.has j) (j : Nat) (hj : j = i ∨ t.has j) : (t.lay i x).has j := Fd _ _ _ _ (lay_is h) j hj
end BT
end
end Go.Proofs.Ytkafejncffinmaa
set_option linter.unusedVariables false
set_option linter.unusedSimpArgs false
namespace Go.Proofs.Ytkafejncffinmaa
noncomputable section
open Go
section
variable {F : CallF} {e : Env} {h h' : Hp} {k a b : C} {f : OpF} {x y : O}
def opX (i : Nat) (r : R) (k : C) (F : CallF) (e : Env) : X := match r with
  | .ok v h => k F (Env.set i v e) h
  | .no => .no
def doX (r : R) (k : C) (F : CallF) (e : Env) : X := match r with
  | .ok _ h => k F e h
  | .no => .no
def Hi (x : X) (b : C) (F : CallF) : X := match x with
  | .norm e h => b F e h
  | x => x
def DT (id : Nat) (x : X) : X := match x with
  | .exit i e h => bif Nat.beq i id then .norm e h else .exit i e h
  | x => x
def OD (v : Value) (a b : C) (F : CallF) (e : Env) (h : Hp) : X := match v with
  | .bool c => (bif c then a else b) F e h
  | _ => .no
def TC (i : Nat) (k : C) : C := fun F e h => k F (Env.set i noRes e) h
def GT (v : Value) (want : Bool) (a b : C) (F : CallF) (e : Env) (h : Hp) : X := match v with
  | .bool c => (bif want == c then a else b) F e h
  | .tuple _ => b F e h
  | _ => .no
theorem BZ {i : Nat} {v : Value} : opX i (.ok v h) k F e = k F (Env.set i v e) h := rfl
theorem EB {v : Value} : doX (.ok v h) k F e = k F e h := rfl
theorem BH : Hi (.norm e h) b F = b F e h := rfl
theorem Bw : Hi (.ret e h) b F = .ret e h := rfl
theorem KD {i : Nat} : Hi (.exit i e h) b F = .exit i e h := rfl
theorem Ce {i : Nat} : DT i (.norm e h) = .norm e h := rfl
theorem BL {i : Nat} : DT i (.ret e h) = .ret e h := rfl
theorem BA {i : Nat} : DT i (.exit i e h) = .norm e h := by
  show (bif Nat.beq i i then _ else _) = _
  rw [Nat.beq_refl]; rfl
theorem CM : OD (.bool true) a b F e h = a F e h := rfl
theorem Ba : OD (.bool false) a b F e h = b F e h := rfl
theorem Ju : GT (.bool true) true a b F e h = a F e h := rfl
theorem Jt : GT (.bool true) false a b F e h = b F e h := rfl
theorem Js : GT (.bool false) true a b F e h = b F e h := rfl
theorem Jr : GT (.bool false) false a b F e h = a F e h := rfl
theorem Ht {w : Bool} : GT noRes w a b F e h = b F e h := rfl
theorem Mf {i : Nat} : TC i k F e h = k F (Env.set i noRes e) h := rfl
theorem BX {i : Nat} (hi : i < 320) : cOp (AC i) f k F e h = opX i (f F e h) k F e := by
  unfold cOp opX
  cases f F e h with
  | ok v h => exact FL i hi _ v e
  | no => rfl
theorem D9 : cDo f k F e h = doX (f F e h) k F e := by
  unfold cDo doX
  cases f F e h <;> rfl
theorem XA {g : O} {w : Bool} {i : Nat} (hi : i < 320) : cG g w (AC i) f k F e h = GT (g e) w (cOp (AC i) f k) (TC i k) F e h := by
  unfold cG GT TC
  cases g e with
  | bool c =>
    simp only
    cases w == c
    · exact FL i hi _ _ e
    · rfl
  | tuple l => exact FL i hi _ _ e
  | _ => rfl
theorem BI : Ar a b F e h = Hi (a F e h) b F := by
  unfold Ar Hi
  cases a F e h <;> rfl
theorem Aq {i : Nat} : AX i a F e h = DT i (a F e h) := by
  unfold AX DT
  cases a F e h <;> rfl
theorem Bj : AP x a b F e h = OD (x e) a b F e h := by
  unfold AP OD
  cases x e with
  | bool c => cases c <;> rfl
  | _ => rfl
theorem FA : Ac F e h = .norm e h := rfl
theorem H8 : Ae F e h = .ret e h := rfl
theorem LM {i : Nat} : A7 i F e h = .exit i e h := rfl
theorem AE {i j : Nat} {v : Value} (hi : i < 320) (hj : j < 320) : AB j (Env.set i v e) = if j = i then v else AB j e := by
  rw [Ec j hj, Env.get_set _ _ _ _ hi hj, Ec j hj]
theorem CO {i j : Nat} {v : Value} (hij : j ≠ i) (hi : i < 320) (hj : j < 320) : AB j (Env.set i v e) = AB j e := by rw [AE hi hj, if_neg hij]
theorem Br {v : Value} : kV v e = v := rfl
theorem Ad : vals e [] = [] := rfl
theorem AV {l : List O} : vals e (x :: l) = x e :: vals e l := rfl
theorem AM {i : Nat} : Ak e i [] = e := rfl
theorem AK {i : Nat} {v : Value} {l : List Value} : Ak e i (v :: l) = Ak (Env.set i v e) (Nat.succ i) l := rfl
theorem A5 : AD x F e h = .ok (x e) h := D3 _ _
theorem Dr {j : IntKind} {n : Int} : CP j (.int j n) = .ok n := by cases j <;> rfl
theorem VB {j : IntKind} {n : Nat} : FX j (.int j (.ofNat n)) = .ok n := by cases j <;> rfl
theorem Pf {j : IntKind} {n : Nat} : FX j (.int j (n : Int)) = .ok n := VB
theorem DN {j : IntKind} {n : Nat} : C4 (.int j (n : Int)) = .ok n := rfl
theorem JC {c : Bool} : okB c h = .ok (.bool c) h := by cases c <;> rfl
theorem BS (a b : Int) : iGt a b = decide (b < a) := As b a
theorem HZ (a b : Int) : iLe a b = decide (a ≤ b) := by
  show (!iLt b a) = _
  rw [As, ← decide_not]
  congr 1; simp
theorem Cl (a b : Int) : iGe a b = decide (b ≤ a) := HZ b a
theorem DB (a b : Int) : iNe a b = !(a == b) := by
  show (!iEq a b) = _
  rw [B6]
def Yr (f : Int → Int → Bool) (j : IntKind) (a b : Value) (h : Hp) : R := Ts f (CP j a) (CP j b) h
def GR (f : Int → Int → Int) (j : IntKind) (a b : Value) (h : Hp) : R := XR f j (CP j a) (CP j b) h
theorem AO {f : Int → Int → Bool} {j : IntKind} : AL f j x y F e h = Yr f j (x e) (y e) h := rfl
theorem EJ {f : Int → Int → Int} {j : IntKind} : CQ f j x y F e h = GR f j (x e) (y e) h := rfl
theorem AN {f : Int → Int → Bool} {j : IntKind} {m n : Int} : Yr f j (.int j m) (.int j n) h = .ok (.bool (f m n)) h := by
  unfold Yr
  rw [Dr, Dr]; exact JC
theorem Do {f : Int → Int → Int} {j : IntKind} {m n : Int} : GR f j (.int j m) (.int j n) h = .ok (.int j (j.wrap (f m n))) h := by
  unfold GR
  rw [Dr, Dr]
  show okI j (DY j (f m n)) h = _
  rw [Ey, Cg]
def Ci (j : IntKind) (a b : Value) (h : Hp) : R := Tb j (Ai j) (CP j a) (CP j b) h
theorem Bb {j : IntKind} : A4 j (Ai j) x y F e h = Ci j (x e) (y e) h := rfl
theorem TY {j : IntKind} {n : Nat} (hn : Nat.ble n (Ai j) = true) : j.wrap (n : Int) = n := by
  rw [← Cg]
  show Bool.rec (motive := fun _ => Int) (j.wrap (.ofNat n)) (.ofNat n) (Nat.ble n (Ai j)) = _
  rw [hn]; rfl
theorem Bc {j : IntKind} {m n : Int} : Ci j (.int j m) (.int j n) h = .ok (.int j (j.wrap (m + n))) h := by
  unfold Ci
  rw [Dr, Dr]
  cases m with
  | negSucc m => show okI j (DY j _) h = _; rw [Ey, Cg]
  | ofNat m =>
    cases n with
    | negSucc n => show okI j (DY j _) h = _; rw [Ey, Cg]
    | ofNat n =>
      show Bool.rec (motive := fun _ => R) (okI j (j.wrap (.ofNat m + .ofNat n)) h) (forceN (Nat.add m n) fun n => .ok (.int j (.ofNat n)) h) (Nat.ble (Nat.add m n) (Ai j)) = _
      cases hb : Nat.ble (Nat.add m n) (Ai j) with
      | false => simp only; rw [Ey]
      | true =>
        simp only
        rw [Av]
        have := TY hb
        have e : (Int.ofNat m + Int.ofNat n : Int) = ((Nat.add m n : Nat) : Int) := by
          show ((m : Int) + (n : Int)) = ((m + n : Nat) : Int)
          omega
        rw [e, this]; rfl
def RH (j : IntKind) (a b : Value) (h : Hp) : R := RG j (CP j a) (CP j b) h
def MX (j : IntKind) (a b : Value) (h : Hp) : R := Su j (CP j a) (CP j b) h
theorem On {j : IntKind} : Kz j x y F e h = RH j (x e) (y e) h := rfl
theorem Ep {j : IntKind} : C8 j x y F e h = MX j (x e) (y e) h := rfl
theorem OJ {j : IntKind} {m n : Int} (hn : n ≠ 0) : RH j (.int j m) (.int j n) h = .ok (.int j (j.wrap (m.tdiv n))) h := by
  unfold RH
  rw [Dr, Dr]
  show (bif iEq n 0 then R.no else okI j (DY j (m.tdiv n)) h) = _
  rw [B6, Ey, Cg, beq_false_of_ne hn]; rfl
theorem HD {j : IntKind} {m n : Int} (hn : n ≠ 0) : MX j (.int j m) (.int j n) h = .ok (.int j (m.tmod n)) h := by
  unfold MX
  rw [Dr, Dr]
  show (bif iEq n 0 then R.no else okI j (m.tmod n) h) = _
  rw [B6, Ey, beq_false_of_ne hn]; rfl
def WK (j : IntKind) (a b : Value) (h : Hp) : R := TB j (FX j a) (C4 b) h
theorem Ot {j : IntKind} : K1 j x y F e h = WK j (x e) (y e) h := rfl
theorem WL {j q : IntKind} {m n : Nat} : WK j (.int j (m : Int)) (.int q (n : Int)) h = .ok (.int j (j.wrap ((m * 2 ^ min n j.bits : Nat) : Int))) h := by
  unfold WK
  rw [Pf, DN]
  show okI j (DY j (.ofNat (Nat.mul m (Nat.pow 2 (Ch n j.bits))))) h = _
  rw [Ey, Cg, CG]; rfl
def C2 (j : IntKind) (a : Value) (h : Hp) : R := match Pb a with
  | .ok n => okI j (DY j n) h
  | .no => .no
theorem B4 {j : IntKind} : BO j x F e h = C2 j (x e) h := rfl
theorem B0 {j q : IntKind} {n : Int} : C2 j (.int q n) h = .ok (.int j (j.wrap n)) h := by
  show okI j (DY j n) h = _
  rw [Ey, Cg]
def eY (a : Value) (h : Hp) : R := match a with
  | .bool b => okB (!b) h
  | _ => .no
theorem Bf : B7 x F e h = eY (x e) h := rfl
theorem Be {c : Bool} : eY (.bool c) h = .ok (.bool (!c)) h := JC
def Si (c a b : Value) (h : Hp) : R := Sj c a b h
theorem MB {c : O} : AS c x y F e h = Si (c e) (x e) (y e) h := rfl
theorem JE {v u : Value} : Si (.bool true) v u h = .ok v h := D3 _ _
theorem Hw {v u : Value} : Si (.bool false) v u h = .ok u h := D3 _ _
theorem Ah {g : Nat} {l : List O} : AQ g l F e h = F g (vals e l) h := CJ _ _
theorem BM {bs : FT} {n f : Nat} {b : Body} (hb : bs.get f = some b) {args : List Value} : call bs (Nat.succ n) f args h = enter (call bs n) b args h := by
  show (match bs.get f with | some b => enter (call bs n) b args h | none => .no) = _
  rw [hb]
theorem BC {rs : List RV} {c : C} {args : List Value} (hl : Nat.ble (Bk args) 320 = true) (hx : N5 rs = none := by rfl) : enter F ⟨rs, c⟩ args h = Bs rs (c F (Ak e0 0 args) h) := by
  unfold enter
  rw [hx]
  show (bif Nat.ble (Bk args) 320 then Bs rs (c F (Ak e0 0 args) h) else .no) = _
  rw [hl]; rfl
theorem AZ {rs : List RV} : Bs rs (.ret e h) = EC rs e h := rfl
theorem Ap {g : O} : EC [.t g] e h = .ok (g e) h := by
  show forceV (g e) _ = _
  rw [BF]; rfl
theorem Gq {g g' : O} : EC [.t g, .t g'] e h = .ok (.tuple ⟨[g e, g' e]⟩) h := by
  show forceV (g e) (fun v => forceV (g' e) _) = _
  rw [BF, BF]; rfl
theorem CW {g g' g'' : O} : EC [.t g, .t g', .t g''] e h = .ok (.tuple ⟨[g e, g' e, g'' e]⟩) h := by
  show forceV (g e) (fun v => forceV (g' e) (fun v => forceV (g'' e) _)) = _
  rw [BF, BF, BF]; rfl
def Fl (i : Nat) (a : Value) (h : Hp) : R := match a with
  | .tuple vs => match nth vs.toList i with
    | some v => .ok v h
    | none => .no
  | _ => .no
theorem BK {i : Nat} : AJ i x F e h = Fl i (x e) h := by
  show (match x e with | .tuple vs => (match nth vs.toList i with | some v => forceV v fun v => .ok v h | none => .no) | _ => .no) = _
  unfold Fl
  cases x e with
  | tuple vs =>
    simp only
    cases nth vs.toList i with
    | some v => exact BF _ _
    | none => rfl
  | _ => rfl
theorem BP {v : Value} {l : List Value} : Fl 0 (.tuple ⟨v :: l⟩) h = .ok v h := rfl
theorem BQ {u v : Value} {l : List Value} : Fl 1 (.tuple ⟨u :: v :: l⟩) h = .ok v h := rfl
theorem Bd {t u v : Value} {l : List Value} : Fl 2 (.tuple ⟨t :: u :: v :: l⟩) h = .ok v h := rfl
end
end
end Go.Proofs.Ytkafejncffinmaa
set_option linter.unusedVariables false
set_option linter.unusedSimpArgs false
namespace Go.Proofs.Ytkafejncffinmaa
noncomputable section
open Go
section
variable {F : CallF} {e : Env} {h h' : Hp} {x y : O}
structure Hp.Wf (h : Hp) : Prop where
  big : 256 ≤ h.next
  has : ∀ i, i < h.next → h.bl.has i
  fresh : ∀ i, h.next ≤ i → h.bl.get i = .dead
def Hp.push (h : Hp) (o : Blk) : Hp := { next := Nat.succ h.next, low := h.low, high := h.high, mark := h.mark, bl := h.bl.lay h.next o }
def Hp.put (h : Hp) (b : Nat) (o : Blk) : Hp := { next := h.next, low := Ch h.low b, high := D0 h.high b, mark := h.mark, bl := h.bl.lay b o }
theorem DO (W : h.Wf) {o : Blk} {K : Nat → Hp → R} : Ew h o K = K h.next (h.push o) := by
  unfold Ew
  rw [BT.lay_is fun j hj => W.has j hj]
  simp only [Av]; rfl
theorem GF (W : h.Wf) {b : Nat} (h256 : 256 ≤ b) (hb : b < h.next) {o : Blk} {K : Hp → R} : DW h b o K = K (h.put b o) := by
  unfold DW
  rw [BT.lay_is fun j hj => W.has j (Nat.lt_trans hj hb), A0.2 h256]
  simp only [Av]; rfl
theorem Hp.Wf.push_get (W : h.Wf) (o : Blk) (i : Nat) : (h.push o).bl.get i = if i = h.next then o else h.bl.get i := BT.lay_get (fun j hj => W.has j hj) i
theorem Hp.Wf.put_get (W : h.Wf) {b : Nat} (hb : b < h.next) (o : Blk) (i : Nat) : (h.put b o).bl.get i = if i = b then o else h.bl.get i := BT.lay_get (fun j hj => W.has j (Nat.lt_trans hj hb)) i
theorem Hp.Wf.push (W : h.Wf) (o : Blk) : (h.push o).Wf where
  big := Nat.le_succ_of_le W.big
  has := fun i hi => BT.lay_has (fun j hj => W.has j hj) i (by
    have hi : i < h.next + 1 := hi
    rcases Nat.lt_or_ge i h.next with h1 | h1
    · exact .inr (W.has i h1)
    · exact .inl (by omega))
  fresh := fun i hi => by
    have hi : h.next + 1 ≤ i := hi
    rw [W.push_get o i, if_neg (by omega)]
    exact W.fresh i (by omega)
theorem Hp.Wf.put (W : h.Wf) {b : Nat} (hb : b < h.next) (o : Blk) : (h.put b o).Wf where
  big := W.big
  has := fun i hi => BT.lay_has (fun j hj => W.has j (Nat.lt_trans hj hb)) i (.inr (W.has i hi))
  fresh := fun i hi => by
    have hi : h.next ≤ i := hi
    rw [W.put_get hb o i, if_neg (by omega)]
    exact W.fresh i hi
structure Hp.Ext (h h' : Hp) : Prop where
  next : h.next ≤ h'.next
  get : ∀ i, i < h.next → h'.bl.get i = h.bl.get i
  low : min h.low h.next ≤ h'.low
  wf : h'.Wf
theorem Hp.Ext.refl (W : h.Wf) : h.Ext h := ⟨Nat.le_refl _, fun _ _ => rfl, Nat.min_le_left _ _, W⟩
theorem Hp.Ext.trans {h₁ h₂ h₃ : Hp} (a : h₁.Ext h₂) (b : h₂.Ext h₃) : h₁.Ext h₃ where
  next := Nat.le_trans a.next b.next
  get := fun i hi => by rw [b.get i (Nat.lt_of_lt_of_le hi a.next), a.get i hi]
  low := by have := a.low; have := b.low; have := a.next; omega
  wf := b.wf
theorem Hp.Ext.push (a : h.Ext h') (o : Blk) : h.Ext (h'.push o) where
  next := Nat.le_succ_of_le a.next
  get := fun i hi => by rw [a.wf.push_get, if_neg (by have := a.next; omega), a.get i hi]
  low := a.low
  wf := a.wf.push o
theorem Hp.Ext.put (a : h.Ext h') {b : Nat} (h1 : h.next ≤ b) (hb : b < h'.next) (o : Blk) : h.Ext (h'.put b o) where
  next := a.next
  get := fun i hi => by rw [a.wf.put_get hb, if_neg (by omega), a.get i hi]
  low := by
    show _ ≤ Ch h'.low b
    rw [CG]
    have := a.low; omega
  wf := a.wf.put hb o
def VT.Is (t : VT) (l : List Value) : Prop := ∀ i, i < l.length → t.has i ∧ t.get i = l.getD i noRes
theorem EP : ∀ (vs : List Value) (t : VT) (l : List Value) (i : Nat), t.Is l → i + vs.length ≤ l.length ∨ i = l.length → ∃ t', CS t i vs = some t' ∧ t'.Is (l.take i ++ vs ++ l.drop (i + vs.length))
  | [], t, l, i, ht, hi => ⟨t, rfl, by simpa using ht⟩
  | v :: vs, t, l, i, ht, hi => by
    have hi' : i ≤ l.length := by simp only [List.length_cons] at hi; omega
    have hh : ∀ j, j < i → t.has j := fun j hj => (ht j (by omega)).1
    have h1 : (t.lay i v).Is (l.take i ++ [v] ++ l.drop (i + 1)) := fun j hj => by
      have hl : (l.take i).length = i := by simp; omega
      refine ⟨VT.lay_has hh j ?_, ?_⟩
      · by_cases hji : j = i
        · exact .inl hji
        · right
          refine (ht j ?_).1
          simp only [List.length_append, List.length_cons, List.length_nil, List.length_drop, List.length_take] at hj
          omega
      · rw [VT.lay_get hh]
        by_cases hji : j = i
        · rw [if_pos hji, hji, List.getD_eq_getElem?_getD, List.append_assoc, List.getElem?_append_right (by omega)]
          simp [hl]
        · rw [if_neg hji]
          have hjl : j < l.length := by
            simp only [List.length_append, List.length_cons, List.length_nil, List.length_drop, List.length_take] at hj
            omega
          rw [(ht j hjl).2, List.getD_eq_getElem?_getD, List.getD_eq_getElem?_getD]
          congr 1
          rcases Nat.lt_or_ge j i with h2 | h2
          · rw [List.append_assoc, List.getElem?_append_left (by omega), List.getElem?_take, if_pos h2]
          · rw [List.getElem?_append_right (by simp only [List.length_append, hl, List.length_cons, List.length_nil]; omega), List.getElem?_drop]
            congr 1
            simp only [List.length_append, hl, List.length_cons, List.length_nil]; omega
    have hlen : (l.take i ++ [v] ++ l.drop (i + 1)).length = max l.length (i + 1) := by
      simp only [List.length_append, List.length_cons, List.length_nil, List.length_drop, List.length_take]; omega
    obtain ⟨t', h2, h3⟩ := EP vs (t.lay i v) _ (i + 1) h1 (by simp only [List.length_cons] at hi; omega)
    refine ⟨t', ?_, ?_⟩
    · show (match t.set i v with | some t' => CS t' (Nat.succ i) vs | none => none) = _
      rw [VT.lay_is hh]; exact h2
    · have e : (l.take i ++ [v] ++ l.drop (i + 1)).take (i + 1) ++ vs ++ (l.take i ++ [v] ++ l.drop (i + 1)).drop (i + 1 + vs.length) = l.take i ++ (v :: vs) ++ l.drop (i + (v :: vs).length) := by
        have hl : (l.take i ++ [v]).length = i + 1 := by simp; omega
        rw [List.take_left' hl]
        have e2 : i + 1 + vs.length = (l.take i ++ [v]).length + vs.length := by rw [hl]
        rw [e2, List.drop_length_add_append, List.drop_drop]
        have e3 : i + 1 + vs.length = i + (v :: vs).length := by simp only [List.length_cons]; omega
        rw [e3]; simp
      rw [e] at h3; exact h3
theorem eW : VT.mt.Is [] := fun i h => by cases h
def ofL (l : List Value) : VT := (CS .mt 0 l).getD .mt
theorem GW (l : List Value) : CS .mt 0 l = some (ofL l) ∧ (ofL l).Is l := by
  obtain ⟨t', h1, h2⟩ := EP l .mt [] 0 eW (.inr rfl)
  unfold ofL
  rw [h1]
  refine ⟨rfl, ?_⟩
  simpa using h2
theorem VT.Is.of {t : VT} {l : List Value} (h : CS .mt 0 l = some t) : t.Is l := by
  have := GW l
  rw [h] at this
  rw [Option.some.inj this.1]; exact this.2
def Hp.Row (h : Hp) (b el : Nat) (l : List Value) : Prop := ∃ c, h.bl.get b = .cells c l.length el ∧ c.Is l
def Hp.pushRow (h : Hp) (el : Nat) (l : List Value) : Hp := h.push (.cells (ofL l) l.length el)
theorem FI (W : h.Wf) {el : Nat} {l : List Value} {K : Nat → Hp → R} : newRow h el l K = K h.next (h.pushRow el l) := by
  unfold newRow
  rw [(GW l).1]
  show CX h el (ofL l) (Bk l) K = _
  unfold CX
  rw [Av, DO W, Bh]; rfl
theorem Hp.Row.lt (W : h.Wf) {b el : Nat} {l : List Value} (r : h.Row b el l) : b < h.next := by
  obtain ⟨c, hc, _⟩ := r
  rcases Nat.lt_or_ge b h.next with h1 | h1
  · exact h1
  · rw [W.fresh b h1] at hc; cases hc
theorem Hp.Row.new (W : h.Wf) (el : Nat) (l : List Value) : (h.pushRow el l).Row h.next el l := ⟨ofL l, by unfold Hp.pushRow; rw [W.push_get, if_pos rfl], (GW l).2⟩
theorem Hp.Row.ext {b el : Nat} {l : List Value} (r : h.Row b el l) (W : h.Wf) (x : h.Ext h') : h'.Row b el l := by
  have := r.lt W
  obtain ⟨c, hc, hl⟩ := r
  exact ⟨c, (x.get b this).trans hc, hl⟩
theorem Hp.Row.push {b el : Nat} {l : List Value} (r : h.Row b el l) (W : h.Wf) (o : Blk) : (h.push o).Row b el l := r.ext W ((Hp.Ext.refl W).push o)
theorem Hp.Ext.pushRow (a : h.Ext h') (el : Nat) (l : List Value) : h.Ext (h'.pushRow el l) := a.push _
theorem Hp.Row.rowOf {b el : Nat} {l : List Value} (r : h.Row b el l) : ∃ c, rowOf h b = .ok c l.length el ∧ c.Is l := by
  obtain ⟨c, hc, hl⟩ := r
  exact ⟨c, by unfold Go.Proofs.Ytkafejncffinmaa.rowOf; rw [hc]; rfl, hl⟩
theorem Hp.Row.load1 {b el off : Nat} {l : List Value} (r : h.Row b el l) (ho : off < l.length) : load1 ⟨b, off, none⟩ h = .ok (l.getD off noRes) h := by
  obtain ⟨c, hc, hl⟩ := r.rowOf
  unfold Go.Proofs.Ytkafejncffinmaa.load1
  simp only [hc]
  rw [B1.2 ho]
  simp only [BF, (hl off ho).2]
theorem Is.rowL {c : VT} {l : List Value} (hl : c.Is l) (off n : Nat) (ho : off + n ≤ l.length) : rowL c off n = (l.drop off).take n := by
  refine List.ext_getElem? fun i => ?_
  unfold Go.Proofs.Ytkafejncffinmaa.rowL
  rw [List.getElem?_map, List.getElem?_take, List.getElem?_drop]
  by_cases hi : i < n
  · rw [if_pos hi, List.getElem?_range hi]
    have := (hl (off + i) (by omega)).2
    rw [List.getD_eq_getElem?_getD, List.getElem?_eq_getElem (by omega)] at this
    show some (c.get (off + i)) = _
    rw [this, List.getElem?_eq_getElem (by omega)]; rfl
  · rw [if_neg hi, List.getElem?_eq_none (by simpa using hi)]; rfl
theorem Hp.Row.loadN {b el off n : Nat} {l : List Value} (r : h.Row b el l) (ho : off + n ≤ l.length) : loadN n ⟨b, off, none⟩ h = .ok (.agg ⟨(l.drop off).take n⟩) h := by
  obtain ⟨c, hc, hl⟩ := r.rowOf
  unfold Go.Proofs.Ytkafejncffinmaa.loadN
  simp only [hc, Nat.add_eq]
  rw [A0.2 ho]
  simp only [cond_true, El, List.append_nil, Is.rowL hl off n ho]
theorem Hp.Row.src {b el off n c : Nat} {l : List Value} (r : h.Row b el l) (ho : off + n ≤ l.length) {sl : Nat} {k : List Value → R} : Bp h 1 (.slice (some ⟨b, off, none⟩) sl c) n k = k ((l.drop off).take n) := by
  obtain ⟨cc, hc, hl⟩ := r.rowOf
  unfold Bp
  simp only [hc]
  have e : Nat.mul n 1 = n := Nat.mul_one n
  rw [e]
  simp only [Nat.add_eq]
  rw [A0.2 ho]
  simp only [cond_true, El, List.append_nil, Is.rowL hl off n ho]
def Hp.wr (h : Hp) (b off : Nat) (vs : List Value) : Hp := match rowOf h b with
  | .ok c s e => h.put b (.cells ((CS c off vs).getD c) s e)
  | .no => h
def over (l : List Value) (off : Nat) (vs : List Value) : List Value := l.take off ++ vs ++ l.drop (off + vs.length)
theorem Fu {l vs : List Value} {off : Nat} (ho : off + vs.length ≤ l.length) : (over l off vs).length = l.length := by
  unfold over
  simp only [List.length_append, List.length_take, List.length_drop]; omega
theorem Hp.Row.wr_is {b el off : Nat} {l vs : List Value} (r : h.Row b el l) (ho : off + vs.length ≤ l.length) : ∃ c, c.Is (over l off vs) ∧ h.wr b off vs = h.put b (.cells c (over l off vs).length el) ∧
    ∀ (W : h.Wf) (h256 : 256 ≤ b) (h1 : CR vs = true) (K : Hp → R), Co ⟨b, off, none⟩ vs h K = K (h.wr b off vs) := by
  obtain ⟨c, hc, hl⟩ := r.rowOf
  obtain ⟨c', h2, h3⟩ := EP vs c l off hl (.inl ho)
  have e : h.wr b off vs = h.put b (.cells c' l.length el) := by
    unfold Hp.wr
    rw [hc]
    simp only [h2, Option.getD_some]
  refine ⟨c', h3, by rw [Fu ho]; exact e, fun W h256 h1 K => ?_⟩
  unfold Co
  simp only [hc, Nat.add_eq]
  rw [Bh, A0.2 ho, h1]
  simp only [cond_true, h2]
  rw [e, GF W h256 (r.lt W)]
theorem Hp.Row.store {b el off : Nat} {l vs : List Value} (r : h.Row b el l) (W : h.Wf) (h256 : 256 ≤ b) (ho : off + vs.length ≤ l.length) (h1 : CR vs = true) (K : Hp → R) : Co ⟨b, off, none⟩ vs h K = K (h.wr b off vs) := by
  obtain ⟨_, _, _, h4⟩ := r.wr_is ho
  exact h4 W h256 h1 K
theorem Hp.Row.wr_self {b el off : Nat} {l vs : List Value} (r : h.Row b el l) (W : h.Wf) (ho : off + vs.length ≤ l.length) : (h.wr b off vs).Row b el (over l off vs) := by
  obtain ⟨c, h3, e, _⟩ := r.wr_is ho
  exact ⟨c, by rw [e, W.put_get (r.lt W), if_pos rfl], h3⟩
theorem Hp.Row.wr_other {b el off b' el' : Nat} {l vs l' : List Value} (r : h.Row b el l) (W : h.Wf) (ho : off + vs.length ≤ l.length) (r' : h.Row b' el' l') (hb : b' ≠ b) : (h.wr b off vs).Row b' el' l' := by
  obtain ⟨c, h3, e, _⟩ := r.wr_is ho
  obtain ⟨c', hc', hl'⟩ := r'
  exact ⟨c', by rw [e, W.put_get (r.lt W), if_neg hb, hc'], hl'⟩
theorem Hp.Row.wr_ext {h0 : Hp} {b el off : Nat} {l vs : List Value} (r : h.Row b el l) (x : h0.Ext h) (hb : h0.next ≤ b) (ho : off + vs.length ≤ l.length) : h0.Ext (h.wr b off vs) := by
  obtain ⟨c, h3, e, _⟩ := r.wr_is ho
  rw [e]; exact x.put hb (r.lt x.wf) _
theorem Hp.Row.wr_next {b el off : Nat} {l vs : List Value} (r : h.Row b el l) (ho : off + vs.length ≤ l.length) : (h.wr b off vs).next = h.next := by
  obtain ⟨c, h3, e, _⟩ := r.wr_is ho
  rw [e]; rfl
def Cu (v : Value) (h : Hp) : R := match DH v with
  | .ok a => load1 a h
  | .no => .no
theorem Ab : AH x F e h = Cu (x e) h := by
  unfold AH Cu
  cases DH (x e) <;> rfl
theorem Am {a : Addr} : Cu (.pointer (some a)) h = load1 a h := rfl
def FV (n : Nat) (v : Value) (h : Hp) : R := match DH v with
  | .ok a => loadN n a h
  | .no => .no
theorem Ay {n : Nat} : Aa n x F e h = FV n (x e) h := rfl
theorem Aw {n : Nat} {a : Addr} : FV n (.pointer (some a)) h = loadN n a h := rfl
def storeR (n : Nat) (p v : Value) (h : Hp) : R := match DH p with
  | .ok a => bif Nat.beq (Bk (cellsOf v)) n then Co a (cellsOf v) h DJ else .no
  | .no => .no
theorem Au {n : Nat} : AY n x y F e h = storeR n (x e) (y e) h := by
  unfold AY storeR
  simp only [BF]
  cases DH (x e) <;> rfl
theorem Hp.Row.storeR {n b el off : Nat} {l : List Value} {v : Value} (r : h.Row b el l) (W : h.Wf) (h256 : 256 ≤ b) (hn : (cellsOf v).length = n) (ho : off + (cellsOf v).length ≤ l.length) (h1 : CR (cellsOf v) = true) :
    storeR n (.pointer (some ⟨b, off, none⟩)) v h = .ok noRes (h.wr b off (cellsOf v)) := by
  show (bif Nat.beq (Bk (cellsOf v)) n then Co ⟨b, off, none⟩ (cellsOf v) h DJ else .no) = _
  rw [Bh, A8.2 hn, r.store W h256 ho h1]; rfl
def Tl (v : Value) (h : Hp) : R := bif known v then newRow h 0 (cellsOf v) GZ else .no
theorem DF : Bu x F e h = Tl (x e) h := by
  unfold Bu Tl
  simp only [BF]
theorem DD (W : h.Wf) {v : Value} (hk : known v = true := by rfl) : Tl v h = .ok (.pointer (some ⟨h.next, 0, none⟩)) (h.pushRow 0 (cellsOf v)) := by
  unfold Tl
  rw [hk, cond_true, FI W]; rfl
theorem Bz (W : h.Wf) {n : Nat} {t : VT} : At n t F e h = .ok (.pointer (some ⟨h.next, 0, none⟩)) (h.push (.cells t n 0)) := by
  unfold At
  rw [DO W]; rfl
theorem Hp.Row.alloc (W : h.Wf) {n : Nat} {t : VT} {l : List Value} (ht : CS .mt 0 l = some t) (hn : l.length = n) : (h.push (.cells t n 0)).Row h.next 0 l := ⟨t, by rw [W.push_get, if_pos rfl, hn], .of ht⟩
theorem JX {n : Nat} : AF n x F e h = match DH (x e) with | .ok a => .ok (.pointer (some ⟨a.block, a.off + n, none⟩)) h | .no => .no := by
  unfold AF
  cases DH (x e) with
  | ok a => exact Av _ _
  | no => rfl
def OM (n : Nat) (v : Value) (h : Hp) : R := match DH v with
  | .ok a => .ok (.pointer (some ⟨a.block, a.off + n, none⟩)) h
  | .no => .no
theorem AW {n : Nat} : AF n x F e h = OM n (x e) h := JX
theorem Aj {n b off : Nat} : OM n (.pointer (some ⟨b, off, none⟩)) h = .ok (.pointer (some ⟨b, off + n, none⟩)) h := rfl
theorem Un {n es b off i : Nat} (hi : i < n) : JW n es (.ok ⟨b, off, none⟩) (.ok i) h = .ok (.pointer (some ⟨b, off + i * es, none⟩)) h := by
  show Bool.rec (motive := fun _ => R) .no (J7 ⟨b, off, none⟩ (Nat.mul i es) h) (Nat.blt i n) = _
  rw [B1.2 hi]
  exact Av _ _
def ET (es : Nat) (s i : Value) (h : Hp) : R := match s with
  | .slice (some a) n _ => JW n es (.ok a) (C4 i) h
  | _ => .no
theorem BV {es : Nat} : A9 es x y F e h = ET es (x e) (y e) h := rfl
theorem FE {n c es b off i : Nat} {k : IntKind} (hi : i < n) : ET es (.slice (some ⟨b, off, none⟩) n c) (.int k (i : Int)) h = .ok (.pointer (some ⟨b, off + i * es, none⟩)) h := Un hi
def Ca (v : Value) (h : Hp) : R := match v with
  | .slice _ n _ => .ok (.int .i64 (.ofNat n)) h
  | .chan (some _) => .ok (.int .i64 (.ofNat 0)) h
  | _ => .no
theorem Al : Af x F e h = Ca (x e) h := rfl
end
end
end Go.Proofs.Ytkafejncffinmaa
set_option linter.unusedVariables false
set_option linter.unusedSimpArgs false
namespace Go.Proofs.Ytkafejncffinmaa
noncomputable section
open Go
section
variable {F : CallF} {e : Env} {h h' : Hp} {x y : O}
def XH : X → Bool
  | .norm _ _ => false
  | .no => false
  | _ => true
theorem Lp {body : C} {I : Nat → Env → Hp → Prop} {Q : X → Prop} (N : Nat)
    (step : ∀ i e h, I i e h → (i < N ∧ ∃ e' h', body F e h = .norm e' h' ∧ I (i + 1) e' h') ∨ (XH (body F e h) = true ∧ Q (body F e h))) :
    ∀ n i e h, N - i < n → I i e h → Q (iter body n F e h)
  | 0, i, e, h, hn, _ => absurd hn (Nat.not_lt_zero _)
  | n + 1, i, e, h, hn, hi => by
    unfold iter
    rcases step i e h hi with ⟨h1, e', h', h2, h3⟩ | ⟨h1, h2⟩
    · rw [h2]
      exact Lp N step n (i + 1) e' h' (by omega) h3
    · cases hb : body F e h with
      | norm e' h' => rw [hb] at h1; cases h1
      | no => rw [hb] at h1; cases h1
      | exit i e' h' => rw [hb] at h2; exact h2
      | ret e' h' => rw [hb] at h2; exact h2
theorem Bo {body : C} (I : Nat → Env → Hp → Prop) (Q : X → Prop) (N : Nat) (hN : N < 1000000)
    (step : ∀ i e h, I i e h → (i < N ∧ ∃ e' h', body F e h = .norm e' h' ∧ I (i + 1) e' h') ∨ (XH (body F e h) = true ∧ Q (body F e h))) (h0 : I 0 e h) : Q (Ao body F e h) :=
  Lp N step rounds 0 e h (by show N - 0 < 1000000; omega) h0
theorem BJ {n : Nat} (h : n ≤ 9223372036854775807) : IntKind.i64.wrap (n : Int) = n := Fz h
theorem JR {n : Int} (h0 : 0 ≤ n) (h : n ≤ 9223372036854775807) : IntKind.i64.wrap n = n := by
  obtain ⟨m, rfl⟩ := Int.eq_ofNat_of_zero_le h0
  exact Fz (by omega)
theorem B5 {n : Nat} (h : n ≤ 18446744073709551615) : IntKind.u64.wrap (n : Int) = n := C6 .u64 n h
theorem GI (n : Nat) : IntKind.u8.wrap (n : Int) = ((n % 256 : Nat) : Int) := by
  have : IntKind.u8.wrap (n : Int) = (n : Int) % 256 := rfl
  rw [this]; omega
def bv (n : Nat) : Value := .int .u8 (n : Int)
theorem IU : ∀ l : List Nat, Dq (l.map bv) = some (l.map UInt8.ofNat)
  | [] => rfl
  | n :: l => by
    show (match Dq (l.map bv) with | some bs => forceN n fun n => some (UInt8.ofNat n :: bs) | none => none) = _
    rw [IU l]
    exact Av _ _
def Hp.Bytes (h : Hp) (v : Value) (l : List Nat) : Prop := (v = .slice none 0 0 ∧ l = []) ∨ ∃ b off c el L, v = .slice (some ⟨b, off, none⟩) l.length c ∧ h.Row b el L ∧ off + l.length ≤ L.length ∧ (L.drop off).take l.length = l.map bv
theorem Hp.Bytes.ext {v : Value} {l : List Nat} (b : h.Bytes v l) (W : h.Wf) (x : h.Ext h') : h'.Bytes v l := by
  rcases b with ⟨h1, h2⟩ | ⟨b, off, c, el, L, h1, h2, h3, h4⟩
  · exact .inl ⟨h1, h2⟩
  · exact .inr ⟨b, off, c, el, L, h1, h2.ext W x, h3, h4⟩
theorem Hp.Bytes.src {v : Value} {l : List Nat} (b : h.Bytes v l) {n : Nat} (hn : n = l.length) (k : List Value → R) : Bp h 1 v n k = k (l.map bv) := by
  subst hn
  rcases b with ⟨h1, h2⟩ | ⟨b, off, c, el, L, h1, h2, h3, h4⟩
  · rw [h1, h2]; rfl
  · rw [h1, h2.src h3, h4]
theorem Hp.Bytes.shape {v : Value} {l : List Nat} (b : h.Bytes v l) : ∃ a c, v = .slice a l.length c := by
  rcases b with ⟨h1, h2⟩ | ⟨b, off, c, el, L, h1, h2, h3, h4⟩
  · exact ⟨none, 0, by rw [h1, h2]; rfl⟩
  · exact ⟨_, _, h1⟩
def ez (v : Value) (h : Hp) : R := match v with
  | .slice a n c => Bp h 1 (.slice a n c) n fun cs => match Dq cs with
    | some bs => .ok (.string ⟨⟨bs⟩⟩) h
    | none => .no
  | _ => .no
theorem GE : Cm x F e h = ez (x e) h := rfl
theorem Hp.Bytes.str {v : Value} {l : List Nat} (b : h.Bytes v l) : ez v h = .ok (.string ⟨⟨l.map UInt8.ofNat⟩⟩) h := by
  obtain ⟨a, c, rfl⟩ := b.shape
  show Bp h 1 (.slice a l.length c) l.length (fun cs => match Dq cs with
    | some bs => .ok (.string ⟨⟨bs⟩⟩) h
    | none => .no) = _
  rw [b.src rfl, IU]
def dj (f : List UInt8 → List UInt8 → Bool) (a b : Value) (h : Hp) : R := TM f a b h
theorem K2 {f : List UInt8 → List UInt8 → Bool} : GK f x y F e h = dj f (x e) (y e) h := rfl
theorem Kb {f : List UInt8 → List UInt8 → Bool} {a b : List UInt8} : dj f (.string ⟨⟨a⟩⟩) (.string ⟨⟨b⟩⟩) h = .ok (.bool (f a b)) h := JC
theorem Hp.Bytes.len {v : Value} {l : List Nat} (b : h.Bytes v l) : Ca v h = .ok (.int .i64 (l.length : Int)) h := by
  obtain ⟨a, c, rfl⟩ := b.shape; rfl
theorem Hp.Bytes.at {v : Value} {l : List Nat} (b : h.Bytes v l) {i : Nat} (hi : i < l.length) : ∃ a, ET 1 v (.int .i64 (i : Int)) h = .ok (.pointer (some a)) h ∧ Cu (.pointer (some a)) h = .ok (bv (l.getD i 0)) h := by
  rcases b with ⟨h1, h2⟩ | ⟨b, off, c, el, L, h1, h2, h3, h4⟩
  · rw [h2] at hi; cases hi
  · refine ⟨⟨b, off + i * 1, none⟩, by rw [h1]; exact FE hi, ?_⟩
    rw [Am, h2.load1 (by omega)]
    have := congrArg (fun m => m[i]?) h4
    simp only [List.getElem?_take, List.getElem?_drop, if_pos hi, List.getElem?_map] at this
    rw [List.getD_eq_getElem?_getD, Nat.mul_one, this, List.getD_eq_getElem?_getD, List.getElem?_eq_getElem hi]; rfl
def Gd (es eb en : Nat) (s v : Value) (h : Hp) : R := Dn es eb en s v h
theorem Bv {es eb en : Nat} : Az es eb en x y F e h = Gd es eb en (x e) (y e) h := rfl
theorem BU {cs : List Value} {k : List Value → R} : Db cs e k [] = k cs := CJ _ _
theorem CV {cs : List Value} {k : List Value → R} {off size : Nat} {rest : List (Nat × Nat × O)} (hk : known (x e) = true := by rfl) : Db cs e k ((off, size, x) :: rest) = (if (cellsOf (x e)).length = size then (if off + size ≤ cs.length then Db (over cs off (cellsOf (x e))) e k rest else .no) else .no) := by
  have e0 : Db cs e k ((off, size, x) :: rest) = (bif known (x e) then (bif Nat.beq (Bk (cellsOf (x e))) size then (bif Nat.ble (Nat.add off size) (Bk cs) then Db (lay cs off (cellsOf (x e))) e k rest else .no) else .no) else .no) := BF _ _
  have e1 : Db cs e k ((off, size, x) :: rest) = (bif Nat.beq (Bk (cellsOf (x e))) size then (bif Nat.ble (Nat.add off size) (Bk cs) then Db (lay cs off (cellsOf (x e))) e k rest else .no) else .no) := by rw [e0, hk]; rfl
  rw [e1, Bh, Bh, lay_is]
  by_cases h1 : (cellsOf (x e)).length = size
  · rw [if_pos h1, A8.2 h1]
    by_cases h2 : off + size ≤ cs.length
    · rw [if_pos h2, show Nat.ble (Nat.add off size) cs.length = true from A0.2 h2]; rfl
    · rw [if_neg h2]
      have : Nat.ble (Nat.add off size) cs.length = false := by
        cases e : Nat.ble (Nat.add off size) cs.length
        · rfl
        · exact absurd (A0.1 e) h2
      rw [this]; rfl
  · rw [if_neg h1]
    have : Nat.beq (cellsOf (x e)).length size = false := by
      cases e : Nat.beq (cellsOf (x e)).length size
      · rfl
      · exact absurd (A8.1 e) h1
    rw [this]; rfl
theorem De {k : IntKind} {n : Int} : cellsOf (.int k n) = [.int k n] := rfl
theorem Ax {l : List Value} : cellsOf (.agg ⟨l⟩) = l := rfl
theorem Bg {zero : List Value} {ps : List (Nat × Nat × O)} : A6 zero ps F e h = Db zero e (fun cs => .ok (.agg ⟨cs⟩) h) ps := rfl
theorem EW {n : Nat} {zero : List Value} {ps : List (Nat × Nat × O)} : AU n zero ps F e h = Db zero e (fun cs => newRow h 0 cs (ED n n)) ps := rfl
def Hp.marked (h : Hp) : Hp := { next := h.next, low := h.low, high := h.high, mark := h.next, bl := h.bl }
def Hp.quiet (h : Hp) : Hp := { next := h.next, low := h.next, high := 0, mark := h.mark, bl := h.bl }
def Hp.back (h h' : Hp) : Hp := { next := h'.next, low := Ch h.low h'.low, high := D0 h.high h'.high, mark := h.mark, bl := h'.bl }
theorem Cw {k : C} : Bx k F e h = k F e h.marked := rfl
theorem Hp.Wf.marked (W : h.Wf) : h.marked.Wf := ⟨W.big, W.has, W.fresh⟩
theorem Hp.Wf.quiet (W : h.Wf) : h.quiet.Wf := ⟨W.big, W.has, W.fresh⟩
theorem Hp.Ext.marked {h0 : Hp} (x : h0.Ext h) : h0.Ext h.marked := ⟨x.next, x.get, x.low, x.wf.marked⟩
theorem Hp.Row.same {b el : Nat} {l : List Value} (r : h.Row b el l) (hb : h'.bl = h.bl) : h'.Row b el l := by
  obtain ⟨c, hc, hl⟩ := r
  exact ⟨c, by rw [hb]; exact hc, hl⟩
theorem Hp.Ext.back (x : h.quiet.Ext h') : h.Ext (h.back h') where
  next := x.next
  get := x.get
  low := by
    show _ ≤ Ch h.low h'.low
    rw [CG]
    have h1 : min h.next h.next ≤ h'.low := x.low
    omega
  wf := ⟨x.wf.big, x.wf.has, x.wf.fresh⟩
theorem JI {f : OpF} {m : Qm} {v : Value} (hf : f F e h.quiet = .ok v h') (x : h.quiet.Ext h') (hm : h.mark ≤ h.next) : An m f F e h = .ok v (h.back h') := by
  have h1 : min h.next h.next ≤ h'.low := x.low
  have hq : qOk m h h'.low = true := by
    cases m with
    | strong => exact A0.2 (by omega)
    | weak => exact A0.2 (by omega)
    | free => rfl
  show (match f F e h.quiet with | .ok v h' => bif qOk m h h'.low then E7 h v h' else .no | .no => .no) = _
  rw [hf]
  simp only [hq, cond_true]
  unfold E7
  simp only [Av]; rfl
theorem DL {f : OpF} {v : Value} (hf : f F e h.quiet = .ok v h') : An .free f F e h = .ok v (h.back h') := by
  show (match f F e h.quiet with | .ok v h' => bif qOk .free h h'.low then E7 h v h' else .no | .no => .no) = _
  rw [hf]
  show E7 h v h' = _
  unfold E7
  simp only [Av]; rfl
def ed (v : Value) (k : C) (F : CallF) (e : Env) (h : Hp) : X := match blkOf v with
  | .ok b => bif Nat.blt b h.mark then k F e h else .no
  | .no => k F e h
theorem H7 {k : C} : EG x k F e h = ed (x e) k F e h := rfl
theorem EX {b off : Nat} {k : C} (hb : b < h.mark) : ed (.pointer (some ⟨b, off, none⟩)) k F e h = k F e h := by
  show (bif Nat.blt b h.mark then k F e h else .no) = _
  rw [B1.2 hb]; rfl
theorem Gf {k : C} : DZ x [] k F e h = k F e h := by
  unfold DZ
  cases blkOf (x e) <;> rfl
theorem Hp.Ext.quiet {h0 : Hp} (x : h0.Ext h) : h0.Ext h.quiet := ⟨x.next, x.get, by show _ ≤ h.next; have := x.next; omega, x.wf.quiet⟩
theorem Hp.Ext.back2 {h0 : Hp} (x : h0.Ext h) (y : h0.Ext h') : h0.Ext (h.back h') where
  next := y.next
  get := y.get
  low := by
    show _ ≤ Ch h.low h'.low
    rw [CG]
    have := x.low
    have := y.low
    omega
  wf := ⟨y.wf.big, y.wf.has, y.wf.fresh⟩
end
end
end Go.Proofs.Ytkafejncffinmaa
set_option linter.unusedVariables false
namespace Go.Proofs.Ytkafejncffinmaa
noncomputable section
open Go Go.RowKit Go.WideShapes Go.ChangeShapes
def sliceAt (b : Nat) (a : Addr) (n c : Nat) : Phi := fun i => if i = b then some { blk := a.block, off := a.off, sz := c, room := c, es := 1, inp := true } else none
theorem QE {P : Program} {W : World} {base t e : Nat} {v : Value} (ht : P.underlying t = some (.slice e)) (h : Value.okWide P W .any base t v) :
    v = .slice none 0 0 ∨ ∃ a n c, v = .slice (some a) n c ∧ n ≤ c ∧ a.spot = none ∧ a.block < W.heap.size := by
  unfold Value.okWide at h
  rw [ht] at h
  simp only at h
  unfold Cell.okWide at h
  rw [ht] at h
  have h : Cell.ok P W .any base t v := by cases v <;> exact h
  unfold Cell.ok at h
  rw [ht] at h
  split at h <;> first | (exact h.elim; done) | skip
  all_goals (rename_i e1 _; cases e1)
  · exact .inl rfl
  · obtain ⟨h1, _, h2⟩ := h
    obtain ⟨_, h3, row, cells, h4, _⟩ := h2
    refine .inr ⟨_, _, _, rfl, h1, h3, ?_⟩
    unfold World.shape? at h4
    split at h4
    · rename_i hb; exact (Array.getElem?_eq_some_iff.1 hb).1
    all_goals first | (cases h4; done) | (rename_i hb; exact (Array.getElem?_eq_some_iff.1 hb).1)
theorem Gc {P : Program} {W : World} {base t e : Nat} {v : Value} (ht : P.underlying t = some (.slice e)) (h : Cell.okWide P W .any base t v) :
    v = .slice none 0 0 ∨ ∃ a n c, v = .slice (some a) n c ∧ n ≤ c ∧ a.spot = none ∧ a.block < W.heap.size :=
  QE (base := base) ht (by unfold Value.okWide; rw [ht]; exact h)
theorem Iu {P : Program} {W : World} {base t : Nat} {k : IntKind} {v : Value} (ht : P.underlying t = some (.int k)) (h : Cell.okWide P W .any base t v) : ∃ n, v = .int k n := by
  unfold Cell.okWide at h
  rw [ht] at h
  have h : Cell.ok P W .any base t v := by cases v <;> exact h
  unfold Cell.ok at h
  rw [ht] at h
  split at h <;> first | (exact h.elim; done) | skip
  all_goals (rename_i e1 _; cases e1)
  exact ⟨_, by rw [h.1]⟩
theorem Tc {P : Program} {W : World} {base t : Nat} {v : Value} {fs : Array Field} {ts : List Nat} (ht : P.underlying t = some (.struct fs)) (hts : P.cellTypes P.depth t = some ts) (hn : P.cellsOf t = ts.length) (h : Value.okWide P W .any base t v) :
    ∃ l : List Value, v = .agg ⟨l⟩ ∧ l.length = ts.length ∧ ∀ (i : Nat) (u : Nat) (x : Value), ts[i]? = some u → l[i]? = some x → Cell.okWide P W .any base u x := by
  unfold Value.okWide at h
  rw [ht] at h
  obtain ⟨cs, rfl, hsz, ts', hts', _, hc⟩ := h
  rw [hts] at hts'
  cases hts'
  cases cs with | mk l =>
  refine ⟨l, rfl, by rw [← hn]; exact hsz, fun i u x hu hx => ?_⟩
  obtain ⟨u', h1, h2⟩ := hc i x (by simpa using hx)
  have hi : i < ts.length := (List.getElem?_eq_some_iff.1 hu).1
  rw [Nat.mod_eq_of_lt hi, hu] at h1
  cases h1
  exact h2
end
end Go.Proofs.Ytkafejncffinmaa
set_option linter.unusedVariables false
set_option linter.unusedSimpArgs false
namespace Go.Proofs.Ytkafejncffinmaa
noncomputable section
open Go Go.RowKit Go.WideShapes Go.ChangeShapes
theorem Ow {P : Program} {ty : TTy} {bs : FT} (hC : ∀ n, Cq P ty (call bs n)) {n f : Nat} {xs args : List Value} {φ : Phi} {w : World} {h0 h' : Hp} (hr : call bs n f xs h0 = .ok (.bool true) h') (x : h0.Ext h') (hl : h0.low = h0.next)
    (ha : RelL φ xs args) (H : RelW ty φ nil h0 w) : Calls P f ⟨args⟩ w fun e w' => e = .returned (.bool true) ∧ Below w.heap.size w w' := by
  obtain ⟨_, hc⟩ := hC n f xs h0 _ h' hr
  refine (hc φ w args ha H).mono fun e w' ⟨v', ψ, he, hv, _, ev⟩ => ?_
  have := hv.bool_inv
  subst this
  refine ⟨he, ⟨ev.os, ev.tape, ev.output, ev.size, fun k hk => ev.frame k hk fun i p hp hn h1 _ _ => ?_⟩⟩
  have h2 := (H.dom i p hp).1
  have h3 := x.low
  omega
theorem Jo : ∀ (n i : Nat), i + 1 < 2 ^ n → (ES n).has i
  | 0, i, h => by rw [Nat.pow_zero] at h; omega
  | n + 1, 0, _ => trivial
  | n + 1, k + 1, h => by
    show (BT.nd .dead (ES n) (ES n)).has (k + 1)
    rw [BT.has_succ]
    have h1 : k / 2 + 1 < 2 ^ n := by
      have : 2 ^ (n + 1) = 2 * 2 ^ n := by rw [Nat.pow_succ, Nat.mul_comm]
      omega
    split <;> exact Jo n _ h1
def Hu (L : List Value) : Blk := .cells (ofL L) L.length 0
def inB : List (List Value) → Nat → BT → BT
  | [], _, t => t
  | L :: Ls, i, t => inB Ls (i + 1) (t.lay i (Hu L))
theorem Kj : ∀ (Ls : List (List Value)) (i : Nat) (t : BT), (∀ j, j < 256 → t.has j) → i + Ls.length ≤ 256 →
    (∀ j, j < 256 → (inB Ls i t).has j) ∧ (∀ k L, Ls[k]? = some L → (inB Ls i t).get (i + k) = Hu L) ∧ (∀ j, j < i ∨ i + Ls.length ≤ j → (inB Ls i t).get j = t.get j)
  | [], i, t, ht, _ => ⟨ht, (fun k L h => by cases h), fun _ _ => rfl⟩
  | L :: Ls, i, t, ht, hl => by
    have hl' : i + 1 + Ls.length ≤ 256 := by simp only [List.length_cons] at hl; omega
    have hi : ∀ j, j < i → t.has j := fun j hj => ht j (by omega)
    obtain ⟨a, b, c⟩ := Kj Ls (i + 1) (t.lay i (Hu L)) (fun j hj => BT.lay_has hi j (.inr (ht j hj))) hl'
    refine ⟨a, fun k M h => ?_, fun j hj => ?_⟩
    · cases k with
      | zero =>
        obtain rfl : L = M := Option.some.inj h
        show (inB Ls (i + 1) (t.lay i (Hu L))).get i = _
        rw [c i (.inl (Nat.lt_succ_self i)), BT.lay_get hi, if_pos rfl]
      | succ k =>
        have := b k M h
        rw [show i + 1 + k = i + (k + 1) by omega] at this
        exact this
    · show (inB Ls (i + 1) (t.lay i (Hu L))).get j = _
      simp only [List.length_cons] at hj
      rw [c j (by omega), BT.lay_get hi, if_neg (by omega)]
def inH (Ls : List (List Value)) : Hp := { next := 256, low := 256, high := 0, mark := 256, bl := inB Ls 0 (ES 9) }
theorem In (j : Nat) (hj : j < 256) : (ES 9).has j := Jo 9 j (by omega)
theorem Kk {Ls : List (List Value)} (hl : Ls.length ≤ 256) {i : Nat} {L : List Value} (h : Ls[i]? = some L) : (inH Ls).bl.get i = Hu L := by
  have := (Kj Ls 0 (ES 9) In (by omega)).2.1 i L h
  rwa [Nat.zero_add] at this
theorem NS {Ls : List (List Value)} (hl : Ls.length ≤ 256) : (inH Ls).Wf where
  big := Nat.le_refl _
  has := (Kj Ls 0 (ES 9) In (by omega)).1
  fresh := fun i hi => by
    have hi : 256 ≤ i := hi
    have := (Kj Ls 0 (ES 9) In (by omega)).2.2 i (.inr (by omega))
    show (inB Ls 0 (ES 9)).get i = _
    rw [this]; exact HV 9 i
theorem En {Ls : List (List Value)} (hl : Ls.length ≤ 256) {i : Nat} {L : List Value} (h : Ls[i]? = some L) : (inH Ls).Row i 0 L := ⟨ofL L, Kk hl h, (GW L).2⟩
def Hn (W : World) (a : Addr) (L : List Value) : Prop := ∃ cs t fr, W.heap[a.block]? = some (.cells cs t fr) ∧ (∀ j, j < L.length → cs[a.off + j]? = some (L.getD j noRes)) ∧ ∀ j, j < L.length → ¬ (fr.1 ≤ a.off + j ∧ a.off + j < fr.2)
def JF (a : Addr) (c : Nat) : Pl := { blk := a.block, off := if c = 0 then 0 else a.off, sz := c, room := c, es := 1, inp := true }
def FF (ps : List (Option Pl)) : Phi := fun i => (ps[i]?).getD none
theorem Sk {W : World} {ty : TTy} {φ : Phi} {a : Addr} {L L' : List Value} (h : Hn W a L') (hL : RelL φ L L') : RelB ty φ (JF a L.length) (Hu L) W.heap[a.block]? := by
  obtain ⟨cs, t, fr, hb, hc, hf⟩ := h
  have hlen : L'.length = L.length := hL.length
  rw [hlen] at hc hf
  rw [hb]
  refine .cells { kind := ⟨rfl, .inl ⟨rfl, rfl, rfl, .inr rfl⟩⟩, room := Nat.le_refl _, fits := ?_, loose := .inr ⟨rfl, fun o h1 h2 => ?_⟩, cell := fun j hj => ?_ }
  · show (if L.length = 0 then 0 else a.off) + L.length ≤ cs.size
    rcases Nat.eq_zero_or_pos L.length with h0 | h0
    · rw [if_pos h0, h0]; exact Nat.zero_le _
    · rw [if_neg (by omega)]
      have := (Array.getElem?_eq_some_iff.1 (hc (L.length - 1) (by omega))).1
      omega
  · have h1 : (if L.length = 0 then 0 else a.off) ≤ o := h1
    have h2 : o < (if L.length = 0 then 0 else a.off) + L.length := h2
    rcases Nat.eq_zero_or_pos L.length with h0 | h0
    · rw [if_pos h0] at h2; omega
    · rw [if_neg (by omega)] at h1 h2
      have := hf (o - a.off) (by omega)
      have e : a.off + (o - a.off) = o := by omega
      rw [e] at this; exact this
  · have h1 := hc j hj
    obtain ⟨v', hv1, hv2⟩ := hL.get j (L.getD j noRes) (by rw [List.getD_eq_getElem?_getD, List.getElem?_eq_getElem hj]; rfl)
    refine ⟨v', ?_, ?_⟩
    · show cs[(if L.length = 0 then 0 else a.off) + j]? = _
      rw [if_neg (by omega), h1, List.getD_eq_getElem?_getD, hv1]; rfl
    · rw [((GW L).2 j hj).2]; exact hv2
theorem Hn.lt {W : World} {a : Addr} {L : List Value} (h : Hn W a L) : a.block < W.heap.size := by
  obtain ⟨cs, t, fr, hb, _⟩ := h
  exact (Array.getElem?_eq_some_iff.1 hb).1
theorem Z8 {W : World} {ty : TTy} {ps : List (Option Pl)} {Ls : List (List Value)} (h256 : Ls.length ≤ 256)
    (h : ∀ i p, FF ps i = some p → ∃ a L, p = JF a L.length ∧ Ls[i]? = some L ∧ a.block < W.heap.size ∧ RelB ty (FF ps) (JF a L.length) (Hu L) W.heap[a.block]?) : RelW ty (FF ps) nil (inH Ls) W where
  dom := fun i p e => by
    obtain ⟨a, L, rfl, h1, h2, _⟩ := h i p e
    have h3 := (List.getElem?_eq_some_iff.1 h1).1
    exact ⟨by show i < 256; omega, h2⟩
  inj := fun i j p q h1 h2 _ _ _ _ hor => by
    obtain ⟨a, L, rfl, _⟩ := h i p h1
    obtain ⟨b, M, rfl, _⟩ := h j q h2
    rcases hor with h3 | h3 <;> cases h3
  row := fun i p e _ => by
    obtain ⟨a, L, rfl, h1, _, h3⟩ := h i p e
    rw [Kk h256 h1]; exact h3
  fresh := (NS h256).fresh
  kind := fun i p c s e hp hc => by
    obtain ⟨a, L, rfl, h1, _, h3⟩ := h i p hp
    rw [Kk h256 h1] at hc
    have hc : Blk.cells (ofL L) L.length 0 = .cells c s e := hc
    cases hc
    exact ⟨rfl, .inl ⟨rfl, rfl, rfl, .inr rfl⟩⟩
  inp := fun i p e _ => by
    obtain ⟨a, L, rfl, h1, _⟩ := h i p e
    have h3 := (List.getElem?_eq_some_iff.1 h1).1
    omega
theorem Mg {φ : Phi} {a : Addr} {n c i : Nat} (hs : a.spot = none) (hn : n ≤ c) (hp : φ i = some (JF a c)) : RelV φ (.slice (some ⟨i, 0, none⟩) n c) (.slice (some a) n c) := by
  refine .slice hn ⟨rfl, hs, _, hp, rfl, ?_⟩
  rcases Nat.eq_zero_or_pos c with h | h
  · exact .inr ⟨h, .inl h⟩
  · refine .inl ⟨h, ?_, .inl rfl⟩
    show a.off = (if c = 0 then 0 else a.off) + 0
    rw [if_neg (by omega), Nat.add_zero]
def ints (k : IntKind) (Z : List Int) : List Value := Z.map (.int k)
theorem Dz (φ : Phi) (k : IntKind) : ∀ Z : List Int, RelL φ (ints k Z) (ints k Z)
  | [] => .nil
  | z :: Z => .cons (.int k z) (Dz φ k Z)
def KM (k : IntKind) (W : World) (v : Value) (zs : List Int) : Prop := (v = .slice none 0 0 ∧ zs = []) ∨ ∃ (a : Addr) (n c : Nat) (Z : List Int), v = .slice (some a) n c ∧ n ≤ c ∧ a.spot = none ∧ Z.length = c ∧ zs = Z.take n ∧ Hn W a (ints k Z)
theorem Kl {H : Type} {enc : TypeId × Value → H} {P : Program} {t e : TypeId} {k : IntKind} (ht : P.underlying t = some (.slice e)) (he : P.underlying e = some (.int k)) (hc : P.cellsOf e = 1) {W : World} {base fuel : Nat} {v : Value} {x : DataW H × List MemPlace}
    (hval : Cell.okWide P W .any base t v) (hf : DataW.trod enc P W 0 (fun _ => true) true fuel t [v] = some x) (hfz : ∀ b off, MemPlace.cell b off ∈ x.2 → W.frozen? ⟨b, off, none⟩ = false) : ∃ zs : List Int, (∀ z ∈ zs, (Lit.int k z).wf = true) ∧ KM k W v zs := by
  rcases Gc ht hval with rfl | ⟨a, n, c, rfl, h1, h2, h3⟩
  · exact ⟨[], (fun x hx => by cases hx), .inl ⟨rfl, rfl⟩⟩
  rcases open_ints ht he hc hf with ⟨hcs, _⟩ | ⟨a', n', c', zs, hcs, _, hl, hm, hz, hx, hcell, hwz⟩
  · simp at hcs
  · simp at hcs
    obtain ⟨rfl, rfl, rfl⟩ := hcs
    simp only [if_true] at hz
    subst hx
    obtain ⟨ab, ao, spot⟩ := a
    simp only at h2
    subst h2
    have hblk : ∃ cs tt fr, W.heap[ab]? = some (.cells cs tt fr) := by
      unfold Cell.okWide at hval
      rw [ht] at hval
      have hval : Cell.ok P W .any base t (.slice (some ⟨ab, ao, none⟩) n c) := hval
      unfold Cell.ok at hval
      rw [ht] at hval
      obtain ⟨_, _, _, _, row, cells, hsh, _⟩ := hval
      unfold World.shape? at hsh
      split at hsh
      · rename_i cs tt fr hb; exact ⟨cs, tt, fr, hb⟩
      all_goals cases hsh
    obtain ⟨cs, tt, fr, hb⟩ := hblk
    have hlen : (ints k zs).length = c := by unfold ints; rw [List.length_map]; exact hz
    refine ⟨zs.take n, fun x hx => hwz x (List.mem_of_mem_take hx), .inr ⟨⟨ab, ao, none⟩, n, c, zs, rfl, h1, rfl, hz, rfl, cs, tt, fr, hb, fun i hi => ?_, fun i hi hh => ?_⟩⟩
    · rw [hlen] at hi
      have h4 := hcell i (by omega)
      rw [Addr.add_is, FP hb] at h4
      show cs[ao + i]? = _
      have h5 : i < zs.length := by omega
      rw [h4]
      unfold ints
      rw [List.getD_eq_getElem?_getD, List.getD_eq_getElem?_getD, List.getElem?_map, List.getElem?_eq_getElem h5]; rfl
    · rw [hlen] at hi
      have h6 := hfz ab (ao + i) (by simp only [MemPlace.row, List.mem_map, List.mem_range]; exact ⟨i, by omega, rfl⟩)
      obtain ⟨lo, hi'⟩ := fr
      simp only [World.frozen?, hb] at h6
      simp only at hh
      simp only [Bool.and_eq_false_iff, decide_eq_false_iff_not] at h6
      omega
def Hp.Vals (h : Hp) (v : Value) (xs : List Value) : Prop := (v = .slice none 0 0 ∧ xs = []) ∨ ∃ b off c el L, v = .slice (some ⟨b, off, none⟩) xs.length c ∧ h.Row b el L ∧ off + xs.length ≤ L.length ∧ (L.drop off).take xs.length = xs
def PA (W : World) (L : List Value) (q : Option Pl) : Prop := q = none ∨ ∃ a, q = some (JF a L.length) ∧ Hn W a L
theorem KM.rel {k : IntKind} {W : World} {v : Value} {zs : List Int} (b : KM k W v zs) (i : Nat) : ∃ (u : Value) (q : Option Pl) (Z : List Int), PA W (ints k Z) q ∧ (∀ φ : Phi, φ i = q → RelV φ u v) ∧ (∀ h : Hp, h.Row i 0 (ints k Z) → h.Vals u (ints k zs)) := by
  rcases b with ⟨rfl, rfl⟩ | ⟨a, n, c, Z, rfl, hn, hs, hZ, rfl, hr⟩
  · exact ⟨.slice none 0 0, none, [], .inl rfl, fun _ _ => .slice0, fun _ _ => .inl ⟨rfl, rfl⟩⟩
  · have hlen : (ints k Z).length = c := by unfold ints; rw [List.length_map]; exact hZ
    have hlen2 : (ints k (Z.take n)).length = n := by unfold ints; rw [List.length_map, List.length_take]; omega
    refine ⟨.slice (some ⟨i, 0, none⟩) n c, some (JF a (ints k Z).length), Z, .inr ⟨a, rfl, hr⟩, fun φ hφ => Mg hs hn (by rw [hφ, hlen]), fun h hrow => .inr ⟨i, 0, c, 0, ints k Z, ?_, hrow, ?_, ?_⟩⟩
    · rw [hlen2]
    · rw [hlen2, hlen]; omega
    · rw [hlen2, List.drop_zero]; unfold ints; rw [List.map_take]
end
end Go.Proofs.Ytkafejncffinmaa
set_option linter.unusedVariables false
set_option linter.unusedSimpArgs false
namespace Go.Proofs.Ytkafejncffinmaa
noncomputable section
open Go Go.RowKit Go.ChangeShapes
theorem sT : type_of% (And.intro @BX (And.intro @D9 (And.intro @Bj (And.intro @BI (And.intro @Aq (And.intro @FA (And.intro @H8 (And.intro @LM (And.intro @BZ (And.intro @EB (And.intro @CM (And.intro @Ba (And.intro @BH (And.intro @KD (And.intro @Bw (And.intro @Ce (And.intro @BL (And.intro @BA (And.intro @A5 (And.intro @Br @AE)))))))))))))))))))) := And.intro @BX (And.intro @D9 (And.intro @Bj (And.intro @BI (And.intro @Aq (And.intro @FA (And.intro @H8 (And.intro @LM (And.intro @BZ (And.intro @EB (And.intro @CM (And.intro @Ba (And.intro @BH (And.intro @KD (And.intro @Bw (And.intro @Ce (And.intro @BL (And.intro @BA (And.intro @A5 (And.intro @Br @AE)))))))))))))))))))
theorem gD : type_of% (And.intro @XA (And.intro @Ju (And.intro @Jt (And.intro @Js (And.intro @Jr (And.intro @Ht (And.intro @Mf (And.intro @MB (And.intro @JE @Hw))))))))) := And.intro @XA (And.intro @Ju (And.intro @Jt (And.intro @Js (And.intro @Jr (And.intro @Ht (And.intro @Mf (And.intro @MB (And.intro @JE @Hw))))))))
section
variable {F : CallF} {e : Env} {h h' : Hp} {x y : O}
theorem Hp.Vals.ext {v : Value} {l : List Value} (b : h.Vals v l) (W : h.Wf) (x : h.Ext h') : h'.Vals v l := by
  rcases b with h1 | ⟨b, off, c, el, L, h1, h2, h3⟩
  · exact .inl h1
  · exact .inr ⟨b, off, c, el, L, h1, h2.ext W x, h3⟩
theorem Hp.Vals.same {v : Value} {l : List Value} (b : h.Vals v l) (hb : h'.bl = h.bl) : h'.Vals v l := by
  rcases b with h1 | ⟨b, off, c, el, L, h1, h2, h3⟩
  · exact .inl h1
  · exact .inr ⟨b, off, c, el, L, h1, h2.same hb, h3⟩
theorem Hp.Vals.src {v : Value} {l : List Value} (b : h.Vals v l) {n : Nat} (hn : n = l.length) (k : List Value → R) : Bp h 1 v n k = k l := by
  subst hn
  rcases b with ⟨h1, h2⟩ | ⟨b, off, c, el, L, h1, h2, h3, h4⟩
  · rw [h1, h2]; rfl
  · rw [h1, h2.src h3, h4]
theorem Hp.Vals.shape {v : Value} {l : List Value} (b : h.Vals v l) : ∃ a c, v = .slice a l.length c := by
  rcases b with ⟨h1, h2⟩ | ⟨b, off, c, el, L, h1, h2, h3, h4⟩
  · exact ⟨none, 0, by rw [h1, h2]; rfl⟩
  · exact ⟨_, _, h1⟩
theorem Hp.Vals.len {v : Value} {l : List Value} (b : h.Vals v l) : Ca v h = .ok (.int .i64 (l.length : Int)) h := by
  obtain ⟨a, c, rfl⟩ := b.shape; rfl
theorem Hp.Vals.lenV {v : Value} {l : List Value} (b : h.Vals v l) : lenV v = .ok l.length := by
  obtain ⟨a, c, rfl⟩ := b.shape; rfl
theorem Hp.Vals.at {v : Value} {l : List Value} (b : h.Vals v l) {i : Nat} (hi : i < l.length) : ∃ a, ET 1 v (.int .i64 (i : Int)) h = .ok (.pointer (some a)) h ∧ Cu (.pointer (some a)) h = .ok (l.getD i noRes) h := by
  rcases b with ⟨h1, h2⟩ | ⟨b, off, c, el, L, h1, h2, h3, h4⟩
  · rw [h2] at hi; cases hi
  · refine ⟨⟨b, off + i * 1, none⟩, by rw [h1]; exact FE hi, ?_⟩
    rw [Am, h2.load1 (by omega)]
    have := congrArg (fun m => m[i]?) h4
    simp only [List.getElem?_take, List.getElem?_drop, if_pos hi] at this
    rw [List.getD_eq_getElem?_getD, Nat.mul_one, this, List.getD_eq_getElem?_getD]
theorem Hp.Vals.bytes {v : Value} {l : List Nat} (b : h.Vals v (l.map bv)) : h.Bytes v l := by
  rcases b with ⟨h1, h2⟩ | ⟨b, off, c, el, L, h1, h2, h3, h4⟩
  · exact .inl ⟨h1, by cases l with
      | nil => rfl
      | cons a l => cases h2⟩
  · rw [List.length_map] at h1 h3 h4
    exact .inr ⟨b, off, c, el, L, h1, h2, h3, h4⟩
theorem Hp.Vals.cut {v : Value} {l : List Value} (b : h.Vals v l) {n : Nat} (hn : n < l.length) : ∃ o c, v = .slice (some o) l.length c ∧ h.Vals (.slice (some o) n c) (l.take n) := by
  rcases b with ⟨h1, h2⟩ | ⟨b, off, c, el, L, h1, h2, h3, h4⟩
  · rw [h2] at hn; cases hn
  · have hl : (l.take n).length = n := by rw [List.length_take]; omega
    refine ⟨⟨b, off, none⟩, c, h1, .inr ⟨b, off, c, el, L, by rw [hl], h2, by omega, ?_⟩⟩
    rw [hl, ← h4, List.take_take, Nat.min_eq_left (by omega)]
def B2 (v : Value) (b : Nat) : Prop := ∃ off n c, v = .slice (some ⟨b, off, none⟩) n c
theorem DS {b : Nat} : ¬ B2 (.slice none 0 0) b := fun ⟨_, _, _, h⟩ => by cases h
theorem Dp {b b' n c : Nat} (h : b' ≠ b) : ¬ B2 (.slice (some ⟨b, 0, none⟩) n c) b' := fun ⟨_, _, _, e⟩ => by
  injection e with e _ _
  injection e with e
  injection e with e _ _
  exact h e.symm
def Hp.Own (h : Hp) (k en : Nat) (v : Value) (xs : List Value) : Prop := (v = .slice none 0 0 ∧ xs = []) ∨ ∃ b, v = .slice (some ⟨b, 0, none⟩) xs.length xs.length ∧ h.Row b (en + 1) xs ∧ k ≤ b ∧ 256 ≤ b
theorem Hp.Own.vals {k en : Nat} {v : Value} {xs : List Value} (o : h.Own k en v xs) : h.Vals v xs := by
  rcases o with h1 | ⟨b, h1, h2, _⟩
  · exact .inl h1
  · exact .inr ⟨b, 0, _, _, xs, h1, h2, by omega, by rw [List.drop_zero, List.take_length]⟩
theorem Hp.Own.le {k k' en : Nat} {v : Value} {xs : List Value} (o : h.Own k en v xs) (hk : k' ≤ k) : h.Own k' en v xs := by
  rcases o with h1 | ⟨b, h1, h2, h3, h4⟩
  · exact .inl h1
  · exact .inr ⟨b, h1, h2, Nat.le_trans hk h3, h4⟩
theorem Hp.Own.keep {k en : Nat} {v : Value} {xs : List Value} (o : h.Own k en v xs) (hk : ∀ b el L, B2 v b → h.Row b el L → h'.Row b el L) : h'.Own k en v xs := by
  rcases o with h1 | ⟨b, h1, h2, h3, h4⟩
  · exact .inl h1
  · exact .inr ⟨b, h1, hk b _ _ ⟨0, _, _, h1⟩ h2, h3, h4⟩
theorem Hp.Own.ext {k en : Nat} {v : Value} {xs : List Value} (o : h.Own k en v xs) (W : h.Wf) (x : h.Ext h') : h'.Own k en v xs := o.keep fun _ _ _ _ r => r.ext W x
theorem Hp.Own.same {k en : Nat} {v : Value} {xs : List Value} (o : h.Own k en v xs) (hb : h'.bl = h.bl) : h'.Own k en v xs := o.keep fun _ _ _ _ r => r.same hb
theorem FZ {h0 : Hp} {eb en k : Nat} {v u : Value} {xs ys : List Value} (x0 : h0.Ext h) (hk : h0.next ≤ k) (hk2 : k ≤ h.next) (o : h.Own k en v xs) (y : h.Vals u ys) (hy : 0 < ys.length) (ha : CR ys = true) (hm : (xs.length + ys.length + 1) * (eb + 1) ≤ 1099511627776) :
    ∃ h' v', Gd 1 eb en v u h = .ok v' h' ∧ h0.Ext h' ∧ h'.Own k en v' (xs ++ ys) ∧ h'.next = h.next + 1 ∧ ∀ b el L, ¬ B2 v b → h.Row b el L → h'.Row b el L ∧ ¬ B2 v' b := by
  have W := x0.wf
  rcases o with ⟨rfl, rfl⟩ | ⟨b, rfl, r, hb, hb2⟩
  · obtain ⟨t1, t2⟩ := GW ys
    refine ⟨h.push (.cells (ofL ys) ys.length (en + 1)), .slice (some ⟨h.next, 0, none⟩) ys.length ys.length, ?_, x0.push _, .inr ⟨h.next, rfl, ⟨ofL ys, by rw [W.push_get, if_pos rfl]; rfl, t2⟩, hk2, W.big⟩, rfl, fun b' el' L' _ r' => ⟨r'.push W _, Dp (by have := r'.lt W; omega)⟩⟩
    unfold Gd Dn
    simp only [y.lenV, y.src rfl, Av, Nat.add_eq, Nat.zero_add]
    have e1 : Nat.ble ys.length 0 = false := by
      cases e : Nat.ble ys.length 0
      · rfl
      · have := A0.1 e; omega
    have e2 : Nat.ble (Nat.mul (Nat.succ ys.length) (Nat.succ eb)) most = true := A0.2 (by
      have := hm
      simp only [List.length_nil, Nat.zero_add] at this
      exact this)
    rw [e1]
    simp only [e2, cond_true, ha]
    unfold Gt Bp Hs
    simp only [List.nil_append, t1]
    unfold Em
    simp only [Bh]
    unfold CX
    rw [Av, DO W]; rfl
  · obtain ⟨cc, hcc, hl⟩ := r.rowOf
    obtain ⟨t, h2, h3⟩ := EP ys cc xs xs.length hl (.inr rfl)
    have h3 : t.Is (xs ++ ys) := by
      have e : xs.drop (xs.length + ys.length) = [] := List.drop_of_length_le (by omega)
      rw [e] at h3
      simpa using h3
    have hlen : (xs ++ ys).length = xs.length + ys.length := List.length_append
    have hlt := r.lt W
    have W1 : (h.put b .dead).Wf := W.put hlt _
    have x1 : h0.Ext (h.put b .dead) := x0.put (by omega) hlt _
    refine ⟨(h.put b .dead).push (.cells t (xs.length + ys.length) (en + 1)), .slice (some ⟨h.next, 0, none⟩) (xs.length + ys.length) (xs.length + ys.length), ?_, x1.push _, .inr ⟨h.next, by rw [hlen], ⟨t, by
      have := W1.push_get (.cells t (xs.length + ys.length) (en + 1)) h.next
      rw [this, if_pos (show h.next = (h.put b .dead).next from rfl), hlen], h3⟩, hk2, W.big⟩, rfl, fun b' el' L' hne r' => ?_⟩
    · unfold Gd Dn
      simp only [y.lenV, y.src rfl, Av, Nat.add_eq]
      have e1 : Nat.ble (xs.length + ys.length) xs.length = false := by
        cases e : Nat.ble (xs.length + ys.length) xs.length
        · rfl
        · have := A0.1 e; omega
      have e2 : Nat.ble (Nat.mul (Nat.succ (xs.length + ys.length)) (Nat.succ eb)) most = true := A0.2 hm
      rw [e1]
      simp only [e2, cond_true, ha]
      unfold Gt
      have e3 : Nat.beq xs.length (Nat.mul xs.length 1) = true := A8.2 (Nat.mul_one _).symm
      simp only [hcc, e3, h2]
      unfold Em
      have e4 : Je 0 xs.length 1 xs.length = true := by
        unfold Je
        cases xs.length with
        | zero => rfl
        | succ n => exact A8.2 (by show 0 + (n + 1) * 1 = n + 1; omega)
      simp only [hcc, Bh, Nat.add_eq, Nat.beq_refl, cond_true, e4]
      rw [GF W hb2 hlt]
      unfold CX
      rw [Av, DO W1]; rfl
    · have hne' : b' ≠ b := fun e => hne ⟨0, _, _, by rw [e]⟩
      have hb' : b' < h.next := r'.lt W
      obtain ⟨c', hc', hl'⟩ := r'
      refine ⟨⟨c', ?_, hl'⟩, Dp (by omega)⟩
      rw [W1.push_get, if_neg (by show b' ≠ h.next; omega), W.put_get hlt, if_neg hne', hc']
theorem Cn (W : h.Wf) {g : O} {z v : Value} (hv : g e = v) (hk : known v = true) (h1 : cellsOf v = [v]) : AU 1 [z] [(0, 1, g)] F e h = .ok (.slice (some ⟨h.next, 0, none⟩) 1 1) (h.pushRow 0 [v]) := by
  rw [EW, CV (hk := by rw [hv]; exact hk), hv, h1, if_pos (show [v].length = 1 from rfl), if_pos (show 0 + 1 ≤ [z].length from Nat.le_refl _), BU, FI W]; rfl
theorem MG (W : h.Wf) {v : Value} : (h.pushRow 0 [v]).Vals (.slice (some ⟨h.next, 0, none⟩) 1 1) [v] := .inr ⟨h.next, 0, 1, 0, [v], rfl, Hp.Row.new W 0 [v], by simp, rfl⟩
theorem Du (k : IntKind) : ∀ Z : List Int, CR (ints k Z) = true
  | [] => rfl
  | z :: Z => Du k Z
theorem Dt {h0 : Hp} {eb en k : Nat} {v : Value} {xs : List Value} {n : Int} {kd : IntKind} (x0 : h0.Ext h) (hk : h0.next ≤ k) (hk2 : k ≤ h.next) (o : h.Own k en v xs) (hm : (xs.length + 2) * (eb + 1) ≤ 1099511627776) :
    ∃ h' v', Gd 1 eb en v (.slice (some ⟨h.next, 0, none⟩) 1 1) (h.pushRow 0 [.int kd n]) = .ok v' h' ∧ h0.Ext h' ∧ h'.Own k en v' (xs ++ [.int kd n]) ∧ h'.next = h.next + 2 ∧ ∀ b el L, ¬ B2 v b → h.Row b el L → h'.Row b el L ∧ ¬ B2 v' b := by
  have W := x0.wf
  have x1 := x0.pushRow 0 [.int kd n]
  have o1 : (h.pushRow 0 [.int kd n]).Own k en v xs := o.ext W ((Hp.Ext.refl W).pushRow _ _)
  obtain ⟨h', v', a, b, c, d, f⟩ := FZ (eb := eb) x1 hk (Nat.le_succ_of_le hk2) o1 (MG W) (by simp) rfl (by simpa using hm)
  exact ⟨h', v', a, b, c, d, fun b' el L hb r => f b' el L hb (r.push W _)⟩
theorem Hh {f : OpF} {m : Qm} {v : Value} (hf : f F e h.quiet = .ok v h') (hl : h.mark ≤ h'.low) (hm : m ≠ .strong) : An m f F e h = .ok v (h.back h') := by
  have hq : qOk m h h'.low = true := by
    cases m with
    | strong => exact absurd rfl hm
    | weak => exact A0.2 hl
    | free => rfl
  show (match f F e h.quiet with | .ok v h' => bif qOk m h h'.low then E7 h v h' else .no | .no => .no) = _
  rw [hf]
  simp only [hq, cond_true]
  unfold E7
  simp only [Av]; rfl
def HL (F : CallF) (v : Value) (args : List Value) (h : Hp) : R := match v with
  | .func (.func g) first cap => F g (first.toList ++ (args ++ cap.toList)) h
  | _ => .no
theorem Cc {f : O} {l : List O} : CN f l F e h = HL F (f e) (vals e l) h := by
  show (match f e with | .func (.func g) first cap => forceL (vals e l) (fun args => F g (first.toList ++ (args ++ cap.toList)) h) | _ => .no) = _
  unfold HL
  split <;> simp only [CJ]
theorem E6 {g : Nat} {l c args : List Value} : HL F (.func (.func g) ⟨l⟩ ⟨c⟩) args h = F g (l ++ (args ++ c)) h := rfl
theorem Ft {fn : Fn} {l c : List O} : GO fn l c F e h = .ok (.func fn ⟨vals e l⟩ ⟨vals e c⟩) h := by
  show forceL (vals e l) (fun f => forceL (vals e c) fun c => .ok (.func fn ⟨f⟩ ⟨c⟩) h) = _
  rw [CJ, CJ]
end
def QS (args : List Value) (h : Hp) : R := match args with
  | [] => .ok (.bool true) h
  | _ :: _ => .no
def HM : Body := ⟨[.x (fun _ => QS)], cNo⟩
theorem JJ {ty : TTy} {φ : Phi} {E : Nat → Prop} {h : Hp} {w w' : World} (H : RelW ty φ E h w) (hb : Below w.heap.size w w') : RelW ty φ E h w' ∧ Evo φ h w φ h w' :=
  ⟨{ dom := fun i p e => ⟨(H.dom i p e).1, Nat.lt_of_lt_of_le (H.dom i p e).2 hb.size⟩
     inj := H.inj
     row := fun i p e hE => (by rw [hb.block _ (H.dom i p e).2]; exact H.row i p e hE)
     fresh := H.fresh
     kind := H.kind
     inp := H.inp },
   { le := .refl _
     new := fun _ _ e => .inl e
     next := Nat.le_refl _
     size := hb.size
     tape := hb.tape
     os := hb.os
     output := hb.output
     frame := fun k hk _ => hb.block k hk
     back := fun i p e hl _ => ⟨i, p, e, hl, rfl, rfl, .inl rfl⟩
     kept := fun _ _ _ => rfl
     low := Nat.le_refl _
     high := Nat.le_refl _
     shape := fun _ _ => .refl _
     only := fun _ _ _ => rfl
     all := fun _ h1 h2 => absurd h2 (Nat.not_lt.2 h1) }⟩
theorem QL {P : Program} {ty : TTy} {f : Nat} (hS : ∃ fn, P.funcs[f]? = some fn ∧ fn.name ≠ "runtime.NumGoroutine" ∧ fn.body.isNone = false) (hc : ∀ w : World, Calls P f #[] w fun e w' => e = .returned (.bool true) ∧ Below w.heap.size w w') : Mo P ty f HM := fun F args h v h' _ hr => ⟨hS, fun φ w args' hrel H => by
  have hr : QS args h = .ok v h' := hr
  cases args with
  | cons a l => cases hr
  | nil =>
    cases hr
    cases hrel
    exact (hc w).mono fun e w' ⟨he, hb⟩ => ⟨_, φ, he, .bool true, (JJ H hb).1, (JJ H hb).2⟩⟩
theorem IX {bs : FT} {n f : Nat} (hb : bs.get f = some HM) {h : Hp} : call bs (Nat.succ n) f [] h = .ok (.bool true) h := by
  rw [BM hb]; rfl
end
end Go.Proofs.Ytkafejncffinmaa
set_option linter.unusedVariables false
set_option linter.unusedSimpArgs false
namespace Go.Proofs.Ytkafejncffinmaa
noncomputable section
open Go
def BR (n : Nat) : List Nat := if h : n < 128 then [n] else (n % 128 + 128) :: BR (n / 128)
termination_by n
decreasing_by exact Nat.div_lt_self (by omega) (by omega)
theorem DX {n : Nat} (h : n < 128) : BR n = [n] := by rw [BR, dif_pos h]
theorem Ee {n : Nat} (h : 128 ≤ n) : BR n = (n % 128 + 128) :: BR (n / 128) := by rw [BR, dif_neg (by omega)]
theorem DC : ∀ (n x : Nat), x ∈ BR n → x < 256 := by
  intro n
  induction n using Nat.strongRecOn with
  | _ n ih =>
    intro x hx
    by_cases h : n < 128
    · rw [DX h, List.mem_singleton] at hx
      omega
    · rw [Ee (by omega)] at hx
      rcases List.mem_cons.1 hx with rfl | hx
      · omega
      · exact ih (n / 128) (Nat.div_lt_self (by omega) (by omega)) x hx
theorem Hm (n : Nat) : 0 < (BR n).length := by
  by_cases h : n < 128
  · rw [DX h]; exact Nat.one_pos
  · rw [Ee (by omega)]; exact Nat.succ_pos _
theorem KI : ∀ (k n : Nat), n < 128 ^ (k + 1) → (BR n).length ≤ k + 1
  | 0, n, h => by
    have h : n < 128 := by simpa using h
    rw [DX h]; exact Nat.le_refl _
  | k + 1, n, h => by
    by_cases h1 : n < 128
    · rw [DX h1]; show 1 ≤ _; omega
    · rw [Ee (by omega), List.length_cons]
      have h2 : n < 128 * 128 ^ (k + 1) := by rw [Nat.pow_succ] at h; rw [Nat.mul_comm]; exact h
      have := KI k (n / 128) (Nat.div_lt_of_lt_mul h2)
      omega
theorem Cd {n : Nat} (h : n < 18446744073709551616) : (BR n).length ≤ 10 := KI 9 n (by
  have : (128 : Nat) ^ (9 + 1) = 1180591620717411303424 := by decide
  rw [this]; omega)
def Cb : Nat → Nat → List Nat → Option (Nat × Nat)
  | _, _, [] => none
  | k, acc, c :: r => if (0 < k ∧ c = 0) ∨ (8 < k ∧ 1 < c) then none else if c < 128 then some (acc + c * 2 ^ (7 * k), k + 1) else Cb (k + 1) (acc + c % 128 * 2 ^ (7 * k)) r
theorem G9 (k : Nat) : 2 ^ (7 * (k + 1)) = 128 * 2 ^ (7 * k) := by
  rw [show 7 * (k + 1) = 7 + 7 * k by omega, Nat.pow_add, show (2 : Nat) ^ 7 = 128 from rfl]
theorem ML {k : Nat} (hk : k ≤ 8) : 2 ^ (64 - 7 * k) = 128 * 2 ^ (64 - 7 * (k + 1)) := by
  rw [show 64 - 7 * k = 7 + (64 - 7 * (k + 1)) by omega, Nat.pow_add, show (2 : Nat) ^ 7 = 128 from rfl]
theorem TU : ∀ (n k acc : Nat) (r : List Nat), k ≤ 9 → n < 2 ^ (64 - 7 * k) → (0 < k → n ≠ 0) → Cb k acc (BR n ++ r) = some (acc + n * 2 ^ (7 * k), k + (BR n).length) := by
  intro n
  induction n using Nat.strongRecOn with
  | _ n ih =>
    intro k acc r hk hn h0
    by_cases h : n < 128
    · rw [DX h]
      show Cb k acc (n :: r) = _
      have h1 : ¬ ((0 < k ∧ n = 0) ∨ (8 < k ∧ 1 < n)) := by
        rintro (⟨a, b⟩ | ⟨a, b⟩)
        · exact h0 a b
        · have : k = 9 := by omega
          subst this
          have : n < 2 := hn
          omega
      rw [Cb, if_neg h1, if_pos h]; rfl
    · have hk8 : k ≤ 8 := by
        rcases Nat.lt_or_ge k 9 with h1 | h1
        · omega
        · have : k = 9 := by omega
          subst this
          have : n < 2 := hn
          omega
      rw [Ee (by omega)]
      show Cb k acc ((n % 128 + 128) :: (BR (n / 128) ++ r)) = _
      have h1 : ¬ ((0 < k ∧ n % 128 + 128 = 0) ∨ (8 < k ∧ 1 < n % 128 + 128)) := by omega
      have h2 : ¬ n % 128 + 128 < 128 := by omega
      rw [Cb, if_neg h1, if_neg h2]
      have hlt : n / 128 < 2 ^ (64 - 7 * (k + 1)) := by
        rw [ML hk8] at hn
        exact Nat.div_lt_of_lt_mul hn
      rw [ih (n / 128) (Nat.div_lt_self (by omega) (by omega)) (k + 1) _ r (by omega) hlt (by omega)]
      have e2 : (n % 128 + 128) % 128 = n % 128 := by omega
      have e4 : acc + n % 128 * 2 ^ (7 * k) + n / 128 * (128 * 2 ^ (7 * k)) = acc + n * 2 ^ (7 * k) := by
        have e5 : n * 2 ^ (7 * k) = (128 * (n / 128) + n % 128) * 2 ^ (7 * k) := by rw [Nat.div_add_mod]
        rw [e5, Nat.add_mul, Nat.mul_comm 128 (n / 128), Nat.mul_assoc]; omega
      rw [e2, G9, e4, List.length_cons, show k + 1 + (BR (n / 128)).length = k + ((BR (n / 128)).length + 1) by omega]
theorem Mn : ∀ (l : List Nat) (k acc v j : Nat), k ≤ 9 → (∀ x ∈ l, x < 256) → Cb k acc l = some (v, j) → ∃ n r, l = BR n ++ r ∧ v = acc + n * 2 ^ (7 * k) ∧ j = k + (BR n).length ∧ (0 < k → n ≠ 0) ∧ n < 2 ^ (64 - 7 * k)
  | [], k, acc, v, j, _, _, h => by cases h
  | c :: r, k, acc, v, j, hk, hb, h => by
    rw [Cb] at h
    split at h
    · cases h
    · rename_i h1
      split at h
      · rename_i h2
        cases h
        refine ⟨c, r, by rw [DX h2]; rfl, rfl, by rw [DX h2]; rfl, by omega, ?_⟩
        rcases Nat.lt_or_ge k 9 with h3 | h3
        · have h4 : 2 ^ 8 ≤ 2 ^ (64 - 7 * k) := Nat.pow_le_pow_right (by omega) (by omega)
          have h5 : (2 : Nat) ^ 8 = 256 := rfl
          omega
        · have : k = 9 := by omega
          subst this
          show c < 2
          omega
      · rename_i h2
        have hk8 : k ≤ 8 := by omega
        obtain ⟨n, q, rfl, e2, e3, e4, e5⟩ := Mn r (k + 1) _ v j (by omega) (fun x hx => hb x (List.mem_cons_of_mem _ hx)) h
        have hc := hb c List.mem_cons_self
        have hn : n ≠ 0 := e4 (Nat.succ_pos k)
        have hi : BR (c % 128 + 128 * n) = c :: BR n := by
          rw [Ee (by omega)]
          have a1 : (c % 128 + 128 * n) % 128 + 128 = c := by omega
          have a2 : (c % 128 + 128 * n) / 128 = n := by omega
          rw [a1, a2]
        refine ⟨c % 128 + 128 * n, q, by rw [hi]; rfl, ?_, ?_, fun _ => by omega, ?_⟩
        · have e6 : n * (128 * 2 ^ (7 * k)) = 128 * n * 2 ^ (7 * k) := by rw [← Nat.mul_assoc, Nat.mul_comm n 128]
          rw [e2, G9, Nat.add_mul, e6]; omega
        · rw [e3, hi, List.length_cons]; omega
        · rw [ML hk8]; omega
theorem LA {v : Nat} (h : v < 18446744073709551616) (r : List Nat) : Cb 0 0 (BR v ++ r) = some (v, (BR v).length) := by
  have := TU v 0 0 r (by omega) h (by omega)
  simpa using this
theorem JO {l : List Nat} {v j : Nat} (hb : ∀ x ∈ l, x < 256) (h : Cb 0 0 l = some (v, j)) : l = BR v ++ l.drop j ∧ j = (BR v).length ∧ v < 18446744073709551616 := by
  obtain ⟨n, r, e1, e2, e3, _, e5⟩ := Mn l 0 0 v j (by omega) hb h
  have hv : v = n := by simpa using e2
  subst hv
  have hj : j = (BR v).length := by simpa using e3
  have e5 : v < 18446744073709551616 := e5
  refine ⟨?_, hj, e5⟩
  subst e1
  rw [hj, List.drop_left]
theorem Mm {l : List Nat} {v j : Nat} (hb : ∀ x ∈ l, x < 256) (h : Cb 0 0 l = some (v, j)) : j ≤ l.length := by
  obtain ⟨e1, e2, _⟩ := JO hb h
  have := congrArg List.length e1
  rw [List.length_append] at this
  omega
def BN : Int → List Int → Bool
  | _, [] => true
  | p, n :: l => decide (0 ≤ n ∧ n ≤ 1099511627776 ∧ p < n) && BN n l
def Bq (f t : Int) (zs : List Int) : Bool := decide (0 ≤ f ∧ f < 256 ∧ 0 ≤ t ∧ t < 256 ∧ f ≠ t ∧ zs.length ≤ 10000) && BN (-1) zs
def CH : Int → List Int → List Nat
  | _, [] => []
  | last, n :: l => BR (n - last).toNat ++ CH n l
def Cj (f t : Int) (zs : List Int) : List Nat := BR f.toNat ++ (BR t.toNat ++ (BR zs.length ++ CH 0 zs))
def C0 : Nat → Int → List Nat → Option (List Int × List Nat)
  | 0, _, r => some ([], r)
  | k + 1, last, r => match Cb 0 0 r with
    | none => none
    | some (n, j) => if n ≤ 1099511627776 ∧ last + n ≤ 1099511627776 then (match C0 k (last + n) (r.drop j) with
      | some (xs, q) => some ((last + n) :: xs, q)
      | none => none) else none
def HB (l : List Nat) : Option (Int × Int × List Int × List Nat) := match Cb 0 0 l with
  | none => none
  | some (f, j) => if f ≤ 256 then (match Cb 0 0 (l.drop j) with
    | none => none
    | some (t, j2) => if t ≤ 256 then (match Cb 0 0 ((l.drop j).drop j2) with
      | none => none
      | some (m, j3) => if m ≤ 10000 then (match C0 m 0 (((l.drop j).drop j2).drop j3) with
        | none => none
        | some (xs, q) => some ((f : Int), (t : Int), xs, q)) else none) else none) else none
def EE (l : List Nat) : Option (Int × Int × List Int) := match HB l with
  | some (f, t, xs, []) => if Bq f t xs = true then some (f, t, xs) else none
  | _ => none
theorem Jj : ∀ (zs : List Int) (last : Int) (x : Nat), x ∈ CH last zs → x < 256
  | [], _, x, h => by cases h
  | n :: l, last, x, h => by
    rcases List.mem_append.1 h with h | h
    · exact DC _ x h
    · exact Jj l n x h
theorem PH (f t : Int) (zs : List Int) (x : Nat) (h : x ∈ Cj f t zs) : x < 256 := by
  rcases List.mem_append.1 h with h | h
  · exact DC _ x h
  rcases List.mem_append.1 h with h | h
  · exact DC _ x h
  rcases List.mem_append.1 h with h | h
  · exact DC _ x h
  exact Jj _ _ x h
theorem Gl (a b : List Nat) : (a ++ b).drop a.length = b := List.drop_left
theorem KB : ∀ (zs : List Int) (p last : Int) (r : List Nat), BN p zs = true → (p = last ∨ p = -1 ∧ last = 0) → 0 ≤ last → C0 zs.length last (CH last zs ++ r) = some (zs, r)
  | [], p, last, r, _, _, _ => rfl
  | n :: l, p, last, r, h, hp, h0 => by
    unfold BN at h
    rw [Bool.and_eq_true, decide_eq_true_eq] at h
    obtain ⟨⟨h1, h2, h3⟩, h4⟩ := h
    have e : ((n - last).toNat : Int) = n - last := Int.toNat_of_nonneg (by omega)
    have hd : (n - last).toNat ≤ 1099511627776 := by omega
    show C0 (l.length + 1) last ((BR (n - last).toNat ++ CH n l) ++ r) = _
    rw [List.append_assoc]
    unfold C0
    rw [LA (by omega)]
    simp only
    rw [if_pos ⟨hd, by omega⟩, Gl, show last + ((n - last).toNat : Int) = n by omega, KB l n n r h4 (.inl rfl) h1]
theorem KA : ∀ (k : Nat) (last : Int) (l : List Nat) (xs : List Int) (q : List Nat), (∀ x ∈ l, x < 256) → C0 k last l = some (xs, q) → l = CH last xs ++ q ∧ xs.length = k
  | 0, last, l, xs, q, _, h => by cases h; exact ⟨rfl, rfl⟩
  | k + 1, last, l, xs, q, hb, h => by
    unfold C0 at h
    split at h
    · cases h
    rename_i n j hu
    split at h
    case isFalse => cases h
    split at h
    case h_2 => cases h
    rename_i ys q' hr
    cases h
    obtain ⟨e1, e2, _⟩ := JO hb hu
    obtain ⟨e3, e4⟩ := KA k (last + n) (l.drop j) ys q (fun x hx => hb x (List.mem_of_mem_drop hx)) hr
    refine ⟨?_, by rw [List.length_cons, e4]⟩
    show l = (BR (last + (n : Int) - last).toNat ++ CH (last + n) ys) ++ q
    rw [show (last + (n : Int) - last).toNat = n by omega, List.append_assoc, ← e3, ← e1]
theorem D7 {f t : Int} {zs : List Int} (h : Bq f t zs = true) : 0 ≤ f ∧ f < 256 ∧ 0 ≤ t ∧ t < 256 ∧ f ≠ t ∧ zs.length ≤ 10000 ∧ BN (-1) zs = true := by
  unfold Bq at h
  rw [Bool.and_eq_true, decide_eq_true_eq] at h
  obtain ⟨⟨a, b, c, d, e, g⟩, k⟩ := h
  exact ⟨a, b, c, d, e, g, k⟩
theorem J8 {f t : Int} {zs : List Int} (h : Bq f t zs = true) (r : List Nat) : HB (Cj f t zs ++ r) = some (f, t, zs, r) := by
  obtain ⟨h1, h2, h3, h4, _, h5, h6⟩ := D7 h
  have ef : ((f.toNat : Nat) : Int) = f := Int.toNat_of_nonneg h1
  have et : ((t.toNat : Nat) : Int) = t := Int.toNat_of_nonneg h3
  have e0 : Cj f t zs ++ r = BR f.toNat ++ (BR t.toNat ++ (BR zs.length ++ (CH 0 zs ++ r))) := by
    unfold Cj
    simp only [List.append_assoc]
  rw [e0]
  unfold HB
  rw [LA (by omega)]
  simp only
  rw [if_pos (by omega), Gl, LA (by omega)]
  simp only
  rw [if_pos (by omega), Gl, LA (by omega)]
  simp only
  rw [if_pos h5, Gl, KB zs (-1) 0 r h6 (.inr ⟨rfl, rfl⟩) (by omega)]
  simp only
  rw [ef, et]
theorem P6 {l : List Nat} (hb : ∀ x ∈ l, x < 256) {f t : Int} {xs : List Int} {q : List Nat} (h : HB l = some (f, t, xs, q)) : l = Cj f t xs ++ q := by
  unfold HB at h
  split at h
  · cases h
  rename_i f' j hf
  split at h
  case isFalse => cases h
  split at h
  · cases h
  rename_i t' j2 ht
  split at h
  case isFalse => cases h
  split at h
  · cases h
  rename_i m j3 hm
  split at h
  case isFalse => cases h
  split at h
  · cases h
  rename_i ys q' hr
  cases h
  have b1 : ∀ x ∈ l.drop j, x < 256 := fun x hx => hb x (List.mem_of_mem_drop hx)
  have b2 : ∀ x ∈ (l.drop j).drop j2, x < 256 := fun x hx => b1 x (List.mem_of_mem_drop hx)
  have b3 : ∀ x ∈ ((l.drop j).drop j2).drop j3, x < 256 := fun x hx => b2 x (List.mem_of_mem_drop hx)
  obtain ⟨e1, _⟩ := JO hb hf
  obtain ⟨e2, _⟩ := JO b1 ht
  obtain ⟨e3, _⟩ := JO b2 hm
  obtain ⟨e4, e5⟩ := KA m 0 _ xs q b3 hr
  have : Cj (f' : Int) (t' : Int) xs ++ q = BR f' ++ (BR t' ++ (BR m ++ (CH 0 xs ++ q))) := by
    unfold Cj
    simp only [List.append_assoc, Int.toNat_natCast, e5]
  rw [this, ← e4, ← e3, ← e2, ← e1]
theorem P8 {f t : Int} {zs : List Int} (h : Bq f t zs = true) : EE (Cj f t zs) = some (f, t, zs) := by
  have := J8 h []
  rw [List.append_nil] at this
  unfold EE
  rw [this]
  simp only
  rw [if_pos h]
theorem J9 {l : List Nat} (hb : ∀ x ∈ l, x < 256) {f t : Int} {zs : List Int} (h : EE l = some (f, t, zs)) : Bq f t zs = true ∧ l = Cj f t zs := by
  unfold EE at h
  split at h
  case h_2 => cases h
  rename_i f' t' xs hr
  split at h
  case isFalse => cases h
  rename_i hok
  cases h
  have := P6 hb hr
  rw [List.append_nil] at this
  exact ⟨hok, this⟩
end
end Go.Proofs.Ytkafejncffinmaa
set_option linter.unusedSimpArgs false
set_option linter.unusedVariables false
namespace Go.Proofs.Ytkafejncffinmaa
noncomputable section
open Go
def veq : Value → Value → Bool
  | .bool a, .bool b => a == b
  | .int j a, .int k b => Ea j k && iEq a b
  | .string a, .string b => bEq a.data.toList b.data.toList
  | .pointer none, .pointer none => true
  | .slice none 0 0, .slice none 0 0 => true
  | .map none, .map none => true
  | .nilFunc, .nilFunc => true
  | .nilIface, .nilIface => true
  | _, _ => false
def leq : List Value → List Value → Bool
  | [], [] => true
  | a :: x, b :: y => veq a b && leq x y
  | _, _ => false
def zeq : Value → Value → Bool
  | .agg a, .agg b => leq a.toList b.toList
  | .agg _, _ => false
  | a, b => veq a b
theorem TW {a b : Value} (h : veq a b = true) : a = b := by
  unfold veq at h
  split at h
  · simpa using h
  · rw [Bool.and_eq_true, B6] at h
    have h1 := Fx h.1
    rw [h1, eq_of_beq h.2]
  · rw [IP] at h
    rename_i a b
    have e1 := Fk (a := a) (eq_of_beq h)
    have e2 := Fk (a := b) rfl
    exact congrArg Value.string (e1.trans e2.symm)
  all_goals first | rfl | cases h
theorem Rs : ∀ {a b : List Value}, leq a b = true → a = b
  | [], [], _ => rfl
  | x :: a, y :: b, h => by
    have h : (veq x y && leq a b) = true := h
    rw [Bool.and_eq_true] at h
    rw [TW h.1, Rs h.2]
  | [], _ :: _, h => by cases h
  | _ :: _, [], h => by cases h
theorem cD {a b : Value} (h : zeq a b = true) : a = b := by
  unfold zeq at h
  split at h
  · rename_i x y
    have := Rs h
    congr 1
    exact Array.ext' this
  · cases h
  · exact TW h
def UK : List (Nat × Nat × Nat) → List (Nat × Nat × Nat) → Bool
  | [], [] => true
  | (a, b, c) :: x, (d, e, f) :: y => Nat.beq a d && (Nat.beq b e && (Nat.beq c f && UK x y))
  | _, _ => false
theorem OL : ∀ {x y : List (Nat × Nat × Nat)}, UK x y = true → x = y
  | [], [], _ => rfl
  | (a, b, c) :: x, (d, e, f) :: y, h => by
    have h : (Nat.beq a d && (Nat.beq b e && (Nat.beq c f && UK x y))) = true := h
    simp only [Bool.and_eq_true] at h
    rw [A8.1 h.1, A8.1 h.2.1, A8.1 h.2.2.1, OL h.2.2.2]
  | [], _ :: _, h => by cases h
  | _ :: _, [], h => by cases h
def Rp (P : Program) (k : TK) (d : TypeDesc) : Bool := match k, d with
  | .int a, .int b => Ea a b
  | .bool, .bool => true
  | .string, .string => true
  | .ptr a, .pointer b => Nat.beq a b
  | .slice a, .slice b => Nat.beq a b
  | .arr n a, .array m b => Nat.beq n m && Nat.beq a b
  | .map n a, .map m b => Nat.beq n m && Nat.beq a b
  | .struct fs, .struct fields => UK (fields.toList.map fun f => (f.offset, P.cellsOf f.type, f.type)) fs && fields.toList.all fun f => (P.info? f.type).isSome
  | .iface, .interface _ => true
  | .func, .func _ _ _ => true
  | .other, .struct _ => false
  | .other, .array _ _ => false
  | .other, .interface _ => false
  | .other, _ => true
  | _, _ => false
theorem Rr {P : Program} {k : TK} {d : TypeDesc} (h : Rp P k d = true) : KOk P k d := by
  unfold Rp at h
  split at h
  · rw [Fx h]; exact .int _
  · exact .bool
  · exact .string
  · rw [A8.1 h]; exact .ptr _
  · rw [A8.1 h]; exact .slice _
  · rw [Bool.and_eq_true] at h
    rw [A8.1 h.1, A8.1 h.2]; exact .arr _ _
  · rw [Bool.and_eq_true] at h
    rw [A8.1 h.1, A8.1 h.2]; exact .map _ _
  · rw [Bool.and_eq_true] at h
    exact .struct (OL h.1) h.2
  · exact .iface _
  · exact .func _ _ _
  · cases h
  · cases h
  · cases h
  · rename_i q1 q2 q3
    refine .other ?_
    split
    · rename_i f; exact absurd rfl (q1 f)
    · rename_i n e; exact absurd rfl (q2 n e)
    · rename_i m; exact absurd rfl (q3 m)
    · rfl
  · cases h
def TZ (ti : TI) (z : Option Value) : Bool :=
  (match ti.zero with
    | [] => Nat.blt 0 ti.size
    | _ :: _ => false) ||
  (match zeroV ti, z with
    | some a, some b => zeq a b && (ti.zero.all plainV && Nat.beq (Bk ti.zero) ti.size)
    | _, _ => false)
theorem Ta {ti : TI} {z : Option Value} (h : TZ ti z = true) : (ti.zero = [] ∧ 0 < ti.size) ∨ ∃ y, zeroV ti = some y ∧ z = some y ∧ ti.zero.all plainV = true ∧ ti.zero.length = ti.size := by
  unfold TZ at h
  rw [Bool.or_eq_true] at h
  rcases h with h | h
  · left
    split at h
    · rename_i hz; exact ⟨hz, B1.1 h⟩
    · cases h
  · right
    split at h
    · rename_i a b ha
      simp only [Bool.and_eq_true] at h
      have h3 := A8.1 h.2.2
      rw [Bh] at h3
      exact ⟨a, ha, by rw [cD h.1], h.2.1, h3⟩
    · cases h
def i6 (b : Bool) : TypeDesc → Bool
  | .pointer _ => b
  | _ => not b
def Og (P : Program) (t : Nat) (name : String) (f : Nat) : Bool := match P.info? t with
  | some i => match i.methods.find? (·.name == name) with
    | some m => match m.path.toList with
      | [] => match m.func with
        | some (g, b) => match P.underlying t with
          | some d => Nat.beq g f && i6 b d
          | none => false
        | none => false
      | _ :: _ => false
    | none => false
  | none => false
theorem Rx {P : Program} {t : Nat} {name : String} {f : Nat} (h : Og P t name f = true) (v : Value) (w : World) : (method (P.types.size + Made.depth) t v name).run P w = .ok (f, v) w := by
  unfold Og at h
  split at h
  · rename_i i hi
    split at h
    · rename_i m hm
      split at h
      · rename_i hp
        split at h
        · rename_i g b hg
          split at h
          · rename_i d hd
            rw [Bool.and_eq_true] at h
            have e1 := A8.1 h.1
            subst e1
            have h2 := h.2
            show (method ((P.types.size + 99) + 1) t v name).run P w = _
            unfold method
            simp only [typeInfo, Sem.run_bind, run_program, Result.andThen_ok, hi, Sem.run_pure, hm, hp, follow, hg, receiverAt, underlying, hd]
            cases d with
            | pointer e =>
              have hb : b = true := h2
              subst hb
              simp only [Place.get, Sem.run_bind, Sem.run_pure, Result.andThen_ok]
            | _ =>
              have hb : b = false := by
                have h2 : (!b) = true := h2
                cases b with
                | true => cases h2
                | false => rfl
              subst hb
              simp only [Place.get, Sem.run_bind, Sem.run_pure, Result.andThen_ok]
          · cases h
        · cases h
      · cases h
    · cases h
  · cases h
def Oh (P : Program) (t : Nat) : List (String × Nat) → Bool
  | [] => true
  | x :: l => Og P t x.1 x.2 && Oh P t l
theorem Lz {P : Program} {t : Nat} : ∀ {l : List (String × Nat)}, Oh P t l = true → ∀ name f, findM name l = some f → ∀ v w, (method (P.types.size + Made.depth) t v name).run P w = .ok (f, v) w
  | [], _, name, f, h => by cases h
  | x :: l, hb, name, f, h => by
    have hb : (Og P t x.1 x.2 && Oh P t l) = true := hb
    rw [Bool.and_eq_true] at hb
    unfold findM at h
    split at h
    · rename_i hn
      cases h
      rw [← eq_of_beq hn]
      exact fun v w => Rx hb.1 v w
    · exact Lz hb.2 name f h
def tyB (P : Program) (t : Nat) (ti : TI) : Bool := match P.info? t with
  | some i => match P.underlying t with
    | some d => Nat.beq i.size ti.size && (Nat.beq i.bytes ti.bytes && (TZ ti i.zero && (Rp P ti.k d && (fineS P t && Oh P t ti.ms))))
    | none => false
  | none => false
theorem cA {P : Program} (hd : 8 ≤ P.depth) {t : Nat} {ti : TI} (h : tyB P t ti = true) : TyOk P t ti := by
  unfold tyB at h
  split at h
  · rename_i i hi
    split at h
    · rename_i d hu
      simp only [Bool.and_eq_true] at h
      exact ⟨h.2.2.2.2.1, hd, ⟨i, hi, A8.1 h.1, A8.1 h.2.1, Ta h.2.2.1⟩, ⟨d, hu, Rr h.2.2.2.1⟩, Lz h.2.2.2.2.2⟩
    · cases h
  · cases h
def fw (P : Program) (t : Nat) : Option TI → Bool
  | some ti => tyB P t ti
  | none => true
def QK (P : Program) : TTy → (Nat → Nat) → Bool
  | .mt, _ => true
  | .nd ti l r, ix => fw P (ix 0) ti && (QK P l (fun k => ix (Nat.succ (Nat.mul 2 k))) && QK P r (fun k => ix (Nat.succ (Nat.succ (Nat.mul 2 k)))))
theorem JN {P : Program} (hd : 8 ≤ P.depth) : ∀ {t : TTy} {ix : Nat → Nat}, QK P t ix = true → ∀ i ti, t.get i = some ti → TyOk P (ix i) ti
  | .mt, ix, _, i, b, h => by cases h
  | .nd c l r, ix, hb, i, b, h => by
    have hb : (fw P (ix 0) c && (QK P l (fun k => ix (Nat.succ (Nat.mul 2 k))) && QK P r (fun k => ix (Nat.succ (Nat.succ (Nat.mul 2 k)))))) = true := hb
    simp only [Bool.and_eq_true] at hb
    cases i with
    | zero =>
      have h : c = some b := h
      subst h
      exact cA hd hb.1
    | succ k =>
      unfold TTy.get at h
      have e1 : Nat.mod k 2 = k % 2 := rfl
      have e2 : Nat.div k 2 = k / 2 := rfl
      rw [e1, e2] at h
      rcases Nat.mod_two_eq_zero_or_one k with hk | hk
      · rw [hk] at h
        have := JN hd hb.2.1 (k / 2) b h
        have e : Nat.succ (Nat.mul 2 (k / 2)) = k + 1 := by show 2 * (k / 2) + 1 = k + 1; omega
        simp only [e] at this; exact this
      · rw [hk] at h
        have := JN hd hb.2.2 (k / 2) b h
        have e : Nat.succ (Nat.succ (Nat.mul 2 (k / 2))) = k + 1 := by show 2 * (k / 2) + 1 + 1 = k + 1; omega
        simp only [e] at this; exact this
theorem bz {P : Program} {ty : TTy} (hd : Nat.ble 8 P.depth = true) (h : QK P ty (fun k => k) = true) : CY P ty := fun t ti ht => JN (A0.1 hd) h t ti ht
end
end Go.Proofs.Ytkafejncffinmaa
namespace Go.Proofs.Ytkafejncffinmaa
noncomputable section
open Go
def ty0 : TI := ⟨.other, 1, 0, [], []⟩
def ty1 : TI := ⟨.func, 1, 8, [.nilFunc], []⟩
def ty2 : TI := ⟨.int .i64, 1, 8, [.int .i64 0], []⟩
def ty3 : TI := ⟨.int .i64, 1, 8, [.int .i64 0], []⟩
def ty4 : TI := ⟨.bool, 1, 1, [.bool false], []⟩
def ty5 : TI := ⟨.int .u8, 1, 1, [.int .u8 0], []⟩
def ty6 : TI := ⟨.int .u8, 1, 1, [.int .u8 0], []⟩
def ty7 : TI := ⟨.struct [(0, 1, 2), (1, 1, 3), (2, 1, 4), (3, 1, 6)], 4, 24, [.int .i64 0, .int .i64 0, .bool false, .int .u8 0], []⟩
def ty9 : TI := ⟨.string, 1, 16, [.string .empty], []⟩
def lD : TI := ⟨.string, 1, 16, [.string .empty], [("Error", 58), ("RuntimeError", 59)]⟩
def lE : TI := ⟨.string, 1, 16, [.string .empty], [("Error", 60), ("RuntimeError", 61)]⟩
def lF : TI := ⟨.int .u64, 1, 8, [.int .u64 0], []⟩
def lG : TI := ⟨.ptr 81, 1, 8, [.pointer none], [("Error", 64), ("RuntimeError", 65)]⟩
def lH : TI := ⟨.ptr 84, 1, 8, [.pointer none], [("Error", 66), ("RuntimeError", 67)]⟩
def lI : TI := ⟨.ptr 94, 1, 8, [.pointer none], [("Align", 68)]⟩
def lJ : TI := ⟨.iface, 1, 16, [.nilIface], []⟩
def lK : TI := ⟨.int .i32, 1, 4, [.int .i32 0], []⟩
def lL : TI := ⟨.arr 3 5, 3, 3, [.int .u8 0, .int .u8 0, .int .u8 0], []⟩
def lM : TI := ⟨.slice 4, 1, 24, [.slice none 0 0], []⟩
def lN : TI := ⟨.slice 5, 1, 24, [.slice none 0 0], []⟩
def lO : TI := ⟨.slice 37, 1, 24, [.slice none 0 0], []⟩
def lP : TI := ⟨.int .i64, 1, 8, [.int .i64 0], []⟩
def lQ : TI := ⟨.other, 1, 0, [], []⟩
def lR : TI := ⟨.func, 1, 8, [.nilFunc], []⟩
def N3 : TI := ⟨.slice 3, 1, 24, [.slice none 0 0], []⟩
def lS : TI := ⟨.struct [(0, 1, 3), (1, 1, 3), (2, 1, 29)], 3, 40, [.int .i64 0, .int .i64 0, .slice none 0 0], []⟩
def B3 : TI := ⟨.struct [(0, 1, 3), (1, 1, 3), (2, 1, 29)], 3, 40, [.int .i64 0, .int .i64 0, .slice none 0 0], []⟩
def lT : TI := ⟨.other, 1, 0, [], []⟩
def lU : TI := ⟨.func, 1, 8, [.nilFunc], []⟩
def lV : TI := ⟨.func, 1, 8, [.nilFunc], []⟩
def lW : TI := ⟨.map 3 3, 1, 8, [.map none], []⟩
def lX : TI := ⟨.struct [(0, 1, 3), (1, 1, 29)], 2, 32, [.int .i64 0, .slice none 0 0], []⟩
def D8 : TI := ⟨.struct [(0, 1, 3), (1, 1, 29)], 2, 32, [.int .i64 0, .slice none 0 0], []⟩
def lY : TI := ⟨.other, 1, 0, [], []⟩
def lZ : TI := ⟨.func, 1, 8, [.nilFunc], []⟩
def lf : TI := ⟨.func, 1, 8, [.nilFunc], []⟩
def lg : TI := ⟨.other, 1, 0, [], []⟩
def lh : TI := ⟨.func, 1, 8, [.nilFunc], []⟩
def li : TI := ⟨.func, 1, 8, [.nilFunc], []⟩
def ll : TI := ⟨.func, 1, 8, [.nilFunc], []⟩
def lp : TI := ⟨.slice 31, 1, 24, [.slice none 0 0], []⟩
def lq : TI := ⟨.other, 1, 0, [], []⟩
def lx : TI := ⟨.func, 1, 8, [.nilFunc], []⟩
def ly : TI := ⟨.func, 1, 8, [.nilFunc], []⟩
def lz : TI := ⟨.func, 1, 8, [.nilFunc], []⟩
def l7 : TI := ⟨.func, 1, 8, [.nilFunc], []⟩
def l8 : TI := ⟨.func, 1, 8, [.nilFunc], []⟩
def l9 : TI := ⟨.func, 1, 8, [.nilFunc], []⟩
def mA : TI := ⟨.func, 1, 8, [.nilFunc], []⟩
def mB : TI := ⟨.func, 1, 8, [.nilFunc], []⟩
def mC : TI := ⟨.func, 1, 8, [.nilFunc], []⟩
def mD : TI := ⟨.int .u16, 1, 2, [.int .u16 0], []⟩
def mE : TI := ⟨.func, 1, 8, [.nilFunc], []⟩
def mF : TI := ⟨.func, 1, 8, [.nilFunc], []⟩
def mG : TI := ⟨.other, 1, 0, [], []⟩
def mH : TI := ⟨.func, 1, 8, [.nilFunc], []⟩
def mI : TI := ⟨.func, 1, 8, [.nilFunc], []⟩
def mJ : TI := ⟨.func, 1, 8, [.nilFunc], []⟩
def mK : TI := ⟨.func, 1, 8, [.nilFunc], []⟩
def mL : TI := ⟨.func, 1, 8, [.nilFunc], []⟩
def mM : TI := ⟨.func, 1, 8, [.nilFunc], []⟩
def mN : TI := ⟨.func, 1, 8, [.nilFunc], []⟩
def mO : TI := ⟨.int .u64, 1, 8, [.int .u64 0], []⟩
def mP : TI := ⟨.other, 1, 0, [], []⟩
def mQ : TI := ⟨.func, 1, 8, [.nilFunc], []⟩
def mR : TI := ⟨.func, 1, 8, [.nilFunc], []⟩
def mS : TI := ⟨.func, 1, 8, [.nilFunc], []⟩
def mT : TI := ⟨.func, 1, 8, [.nilFunc], []⟩
def mU : TI := ⟨.func, 1, 8, [.nilFunc], []⟩
def mV : TI := ⟨.func, 1, 8, [.nilFunc], []⟩
def mW : TI := ⟨.func, 1, 8, [.nilFunc], []⟩
def mX : TI := ⟨.func, 1, 8, [.nilFunc], []⟩
def mY : TI := ⟨.func, 1, 8, [.nilFunc], []⟩
def mZ : TI := ⟨.func, 1, 8, [.nilFunc], []⟩
def ma : TI := ⟨.func, 1, 8, [.nilFunc], []⟩
def mb : TI := ⟨.arr 0 16, 0, 0, [], []⟩
def mc : TI := ⟨.func, 1, 8, [.nilFunc], []⟩
def md : TI := ⟨.int .u32, 1, 4, [.int .u32 0], []⟩
def me : TI := ⟨.int .u8, 1, 1, [.int .u8 0], []⟩
def mf : TI := ⟨.int .u8, 1, 1, [.int .u8 0], [("String", 71)]⟩
def mg : TI := ⟨.func, 1, 8, [.nilFunc], []⟩
def mh : TI := ⟨.ptr 5, 1, 8, [.pointer none], []⟩
def mi : TI := ⟨.int .i32, 1, 4, [.int .i32 0], []⟩
def mj : TI := ⟨.int .i32, 1, 4, [.int .i32 0], []⟩
def ml : TI := ⟨.other, 1, 8, [.pointer none], []⟩
set_option maxRecDepth 100000 in
def ty : TTy := (.nd (some ty0) (.nd (some ty1) (.nd (some ty3) (.nd (some ty7) (.nd (some lG) (.nd (some B3) (.nd (some mK) .mt .mt) (.nd (some ml) .mt .mt)) (.nd (some lx) (.nd (some ma) .mt .mt) .mt)) (.nd (some lM) (.nd (some lZ) (.nd (some mS) .mt .mt) .mt) (.nd (some mC) (.nd (some me) .mt .mt) .mt))) (.nd (some lE) (.nd none (.nd (some lW) (.nd (some mO) .mt .mt) .mt) (.nd (some l8) (.nd none .mt .mt) .mt)) (.nd (some lQ) (.nd (some li) (.nd (some mW) .mt .mt) .mt) (.nd (some mG) (.nd (some mi) .mt .mt) .mt)))) (.nd (some ty5) (.nd (some ty9) (.nd (some lI) (.nd (some lU) (.nd (some mM) .mt .mt) .mt) (.nd (some lz) (.nd none .mt .mt) .mt)) (.nd (some lO) (.nd (some lg) (.nd (some mU) .mt .mt) .mt) (.nd (some mE) (.nd (some mg) .mt .mt) .mt))) (.nd none (.nd (some lK) (.nd (some D8) (.nd (some mQ) .mt .mt) .mt) (.nd (some mA) (.nd (some mc) .mt .mt) .mt)) (.nd (some N3) (.nd (some lp) (.nd (some mY) .mt .mt) .mt) (.nd (some mI) (.nd none .mt .mt) .mt))))) (.nd (some ty2) (.nd (some ty4) (.nd none (.nd (some lH) (.nd (some lT) (.nd (some mL) .mt .mt) .mt) (.nd (some ly) (.nd none .mt .mt) .mt)) (.nd (some lN) (.nd (some lf) (.nd (some mT) .mt .mt) .mt) (.nd (some mD) (.nd (some mf) .mt .mt) .mt))) (.nd (some lF) (.nd (some lJ) (.nd (some lX) (.nd (some mP) .mt .mt) .mt) (.nd (some l9) (.nd none .mt .mt) .mt)) (.nd (some lR) (.nd (some ll) (.nd (some mX) .mt .mt) .mt) (.nd (some mH) (.nd (some mj) .mt .mt) .mt)))) (.nd (some ty6) (.nd (some lD) (.nd none (.nd (some lV) (.nd (some mN) .mt .mt) .mt) (.nd (some l7) (.nd (some mb) .mt .mt) .mt)) (.nd (some lP) (.nd (some lh) (.nd (some mV) .mt .mt) .mt) (.nd (some mF) (.nd (some mh) .mt .mt) .mt))) (.nd none (.nd (some lL) (.nd (some lY) (.nd (some mR) .mt .mt) .mt) (.nd (some mB) (.nd (some md) .mt .mt) .mt)) (.nd (some lS) (.nd (some lq) (.nd (some mZ) .mt .mt) .mt) (.nd (some mJ) (.nd none .mt .mt) .mt))))))
end
end Go.Proofs.Ytkafejncffinmaa
