/-
  A region's operations in any order that its edges allow: begin, go on, end.
-/
import Derived.Test.YtkafejncffinmaaOpen2
import Derived.Orders
set_option linter.unusedSimpArgs false
set_option linter.unusedVariables false
namespace Go.Proofs.Ytkafejncffinmaa
open Go

section
variable {P : Program} {ty : TTy} {N : Nat} {all : List Oper} {ρ : Nat → Rho} {H : Nat → Hp} {V : Nat → Value} {T : Nat → Nat → Prop} {φ0 : Phi} {w0 : World} {B : Nat → Nat → Prop} {run : Nat → Bool} {ahs : List Ahead}

theorem Inv.step (L : Laws ty all ρ H T B) (tr : Tr P ty all ahs all ρ H V run T) (txt : Txt P ty N φ0 ρ H V T all.length) {S : Nat → Prop} {φ : Phi} {C : Nat → Blk} {a : Act} {w : World} (I : Inv ty N all ρ H T φ0 w0 S φ C a w)
    {i : Nat} {o : Oper} (ho : all[i]? = some o) (hS : ¬ S i) (hpre : ∀ j, B j i → S j) (hcl : ∀ j k, S j → B k j → S k) (hN : ∀ d, o.dst = some d → d < N)
    {K : Act → World → Prop} {Q : Exit → Act → World → Prop} (hK : ∀ φ' C' a' w', Inv ty N all ρ H T φ0 w0 (fun j => S j ∨ j = i) φ' C' a' w' → K a' w') : wpOp P all.toArray Q i K a w := by
  have hi : i < all.length := by
    rcases Nat.lt_or_ge i all.length with h | h
    · exact h
    · rw [List.getElem?_eq_none h] at ho; cases ho
  have fx : ∀ j, j ≠ i → (B i j ∨ B j i) → (j < i → S j) ∧ (i ≤ j → ¬ S j) := by
    intro j hj hb
    rcases hb with hb | hb
    · have := L.lt i j hb
      exact ⟨fun h => by omega, fun _ hSj => hS (hcl j i hSj hb)⟩
    · have := L.lt j i hb
      exact ⟨fun _ => hpre j hb, fun h => by omega⟩
  have named : ∀ d, (o.dst = some d ∨ .tmp d ∈ o.op.operands.toList ∨ ∃ g w og, o.guard = some (g, w) ∧ all[g]? = some og ∧ og.dst = some d) → ∀ u, ρ i d = some u → RelV φ u (a.tmps.getD d undef) := by
    intro d hd u hu
    refine I.slot i (Nat.le_of_lt hi) d u (fun j oj hoj hdj => ?_) hu
    by_cases hji : j = i
    · subst hji; exact ⟨fun h => absurd h (Nat.lt_irrefl _), fun _ => hS⟩
    · exact fx j hji ((L.slots j i oj o d hji hoj ho hdj hd).symm)
  have s := tr.sf i o ho
  have hw := wanted_ok s (a := a) (φ := φ) fun g want og d u h1 h2 h3 hu => named d (.inr (.inr ⟨g, want, og, h1, h2, h3⟩)) u hu
  obtain ⟨HR, ψ, b, HA, hx⟩ := I.relw txt (Nat.le_of_lt hi)
  have names : ∀ x ∈ o.op.operands.toList, ∀ u, evR (ρ i) x = some u → RelV (upto φ (H i).next) u (a.eval x) := by
    intro x hxm u hu
    have h1 : RelV φ u (a.eval x) := by
      cases x with
      | tmp t => exact named t (.inr (.inl hxm)) u hu
      | const v =>
        have hu : (if plainC v then some v else none) = some u := hu
        split at hu
        · rename_i hp; cases hu; exact plainC_rel hp
        · cases hu
      | func g => cases hu; exact .func _ .nil .nil
      | global g => cases hu
    exact h1.cut hx (HA.ev hu)
  unfold wpOp
  rw [List.getElem?_toArray, ho]
  simp only
  rcases s.core with ⟨hrun, core⟩ | ⟨hrun, hv, hh, hT⟩
  · rw [hw, hrun, if_pos rfl]
    refine .inl (core.does _ _ w a HR names ?_ _ _ fun ψ' v' w' hv HW' eff _ => hK _ _ _ _ (I.after L tr txt ho hS hpre hcl hN hv HW' eff))
    have noE : ((∃ x, kd ty o.op = .w x) ∨ kd ty o.op = .q) → ∀ b, ¬ Early all.length T S (H i) i b := by
      rintro hk b ⟨hb, hne⟩
      refine hne fun j hj hT => ?_
      by_cases hji : j = i
      · subst hji; exact ⟨fun h => absurd h (Nat.lt_irrefl _), fun _ => hS⟩
      · exact fx j hji (L.fixed i j o b (fun h => hji h.symm) ho hj hT hk)
    unfold TouchR
    cases hk : kd ty o.op with
    | p => trivial
    | a => trivial
    | r x =>
      rintro u hu c hc ⟨hb, hne⟩
      refine hne fun j hj hT => ?_
      by_cases hji : j = i
      · subst hji; exact ⟨fun h => absurd h (Nat.lt_irrefl _), fun _ => hS⟩
      · exact fx j hji (L.reads i j o x c u (fun h => hji h.symm) ho hj hT hk hu hc)
    | w x => exact noE (.inl ⟨x, hk⟩)
    | q => exact noE (.inr hk)
  · rw [hw, hrun, if_neg (by simp)]
    refine hK _ _ _ _ (I.after L tr txt ho hS hpre hcl hN (ψ := upto φ (H i).next) (v' := undef) (w' := w) (by rw [hv]; exact .tuple .nil) (by rw [hh]; exact HR) ?_)
    rw [hh]
    exact { Eff.refl (upto φ (H i).next) (H i) w with frame := fun _ _ _ => rfl, back := fun i p e hl _ => ⟨i, p, e, hl, rfl, rfl, .inl rfl⟩, kept := fun _ _ _ => rfl }

theorem Inv.begin (tr : Tr P ty all ahs all ρ H V run T) (txt : Txt P ty N φ0 ρ H V T all.length) (L : Laws ty all ρ H T B) {a : Act} (HW : RelW ty φ0 nil (H 0) w0) (HA : AR N φ0 (ρ 0) a) {S : Nat → Prop} (hS : ∀ j, j < all.length → ¬ S j) :
    Inv ty N all ρ H T φ0 w0 S φ0 (H 0).bl.get a w0 where
  dom := fun b p hp => ⟨(HW.dom b p hp).2, .inl (HW.dom b p hp).1⟩
  inj := fun b c p q hp hq hb hc hio h => HW.inj b c p q hp hq (fun h => h) (fun h => h) hb hc hio h
  row := fun b p hp => HW.row b p hp fun h => h
  kind := fun k hk b p c s e hp hb he => by
    have hs := txt.shapes (i := 0) (k := k) (HW.dom b p hp).1 (Nat.zero_le _) hk
    rw [he] at hs
    obtain ⟨c', hc'⟩ := hs.cells
    exact HW.kind b p c' s e hp hc'
  inp := HW.inp
  link := fun k hk b p hp hb hyp => by
    refine (txt.same (i := 0) (Nat.zero_le _) hk fun m _ hm => ?_).symm
    have h0 := (HW.dom b p hp).1
    have := txt.mono (i := 0) (k := m) (Nat.zero_le _) (by omega)
    exact txt.kept m (by omega) b (by omega) fun hT => hS m (by omega) ((hyp m (by omega) hT).1 hm)
  chg := fun j hj hjn => absurd hj (hS j hjn)
  full := fun j hj hjn => absurd hj (hS j hjn)
  slot := fun k hk t u hyp hu => by
    refine HA.rel t u (tr.backward (i := 0) (Nat.zero_le _) hk (fun m om _ hm hom hdm => ?_) hu)
    exact hS m (by omega) ((hyp m om hom hdm).1 hm)
  size := HA.size
  defs := HA.defs
  le := .refl _
  new := fun b p hp => .inl hp
  sz := Nat.le_refl _
  tape := rfl
  os := rfl
  output := rfl
  frame := fun _ _ _ => rfl
  back := fun b p hp hl _ => ⟨b, p, hp, hl, rfl, rfl, .inl rfl⟩

theorem Inv.fin (txt : Txt P ty N φ0 ρ H V T all.length) (L : Laws ty all ρ H T B) {S : Nat → Prop} {φ : Phi} {C : Nat → Blk} {a : Act} {w : World} (I : Inv ty N all ρ H T φ0 w0 S φ C a w) (hS : ∀ j, j < all.length → S j) :
    RelW ty φ nil (H all.length) w ∧ AR N φ (ρ all.length) a ∧ Evo φ0 (H 0) w0 φ (H all.length) w := by
  have hdom : ∀ b p, φ b = some p → b < (H all.length).next := by
    intro b p hp
    rcases (I.dom b p hp).2 with h | ⟨j, _, hj, _, h⟩
    · have := txt.mono (Nat.zero_le all.length) (Nat.le_refl _); omega
    · have := txt.mono (i := j + 1) (k := all.length) hj (Nat.le_refl _); omega
  have lk : ∀ b p, φ b = some p → C b = (H all.length).bl.get b := fun b p hp =>
    I.link _ (Nat.le_refl _) b p hp (hdom b p hp) fun j hj _ => ⟨fun _ => hS j hj, fun h => by omega⟩
  refine ⟨{ dom := fun b p hp => ⟨hdom b p hp, (I.dom b p hp).1⟩, inj := fun b c p q hp hq _ _ hb hc hio h => I.inj b c p q hp hq (by rw [lk b p hp]; exact hb) (by rw [lk c q hq]; exact hc) hio h, row := fun b p hp _ => by rw [← lk b p hp]; exact I.row b p hp, fresh := txt.fresh _ (Nat.le_refl _), kind := fun b p c s e hp he => I.kind _ (Nat.le_refl _) b p c s e hp (hdom b p hp) he, inp := I.inp },
    ⟨I.size, I.defs, fun t u hu => I.slot _ (Nat.le_refl _) t u (fun j oj hoj _ => ?_) hu⟩,
    { le := I.le, new := I.new, next := txt.mono (Nat.zero_le _) (Nat.le_refl _), size := I.sz, tape := I.tape, os := I.os, output := I.output, frame := I.frame, back := fun b p hp hl hlt => I.back b p hp (by rw [lk b p hp]; exact hl) hlt, kept := fun b hb ho => ?_, low := L.low, high := L.high, shape := fun b hb => txt.shapes (i := 0) hb (Nat.zero_le _) (Nat.le_refl _), only := fun b hb h0 => ?_, all := fun b h1 h2 => ?_ }⟩
  · have hj : j < all.length := by
      rcases Nat.lt_or_ge j all.length with h | h
      · exact h
      · rw [List.getElem?_eq_none h] at hoj; cases hoj
    exact ⟨fun _ => hS j hj, fun h => by omega⟩
  · refine txt.same (i := 0) (Nat.zero_le _) (Nat.le_refl _) fun m _ hm => ?_
    have := txt.mono (i := 0) (k := m) (Nat.zero_le _) (by omega)
    exact txt.kept m hm b (by omega) fun hT => by have := L.tout m b hm hT; omega
  · refine txt.same (i := 0) (Nat.zero_le _) (Nat.le_refl _) fun m _ hm => ?_
    have := txt.mono (i := 0) (k := m) (Nat.zero_le _) (by omega)
    by_cases hc : (H (m + 1)).bl.get b = (H m).bl.get b
    · exact hc
    · obtain ⟨p, hp⟩ := I.chg m (hS m hm) hm b (by omega) hc
      rcases I.new b p hp with h | h
      · rw [h0] at h; cases h
      · omega
  · -- the block was made by one of them
    have : ∀ k, k ≤ all.length → b < (H k).next → ∃ p, φ b = some p := by
      intro k
      induction k with
      | zero => intro _ h; omega
      | succ k ih =>
        intro hk h
        rcases Nat.lt_or_ge b (H k).next with h3 | h3
        · exact ih (by omega) h3
        · exact I.full k (hS k (by omega)) (by omega) b h3 h
    exact this _ (Nat.le_refl _) h2

theorem countP_lt {α : Type} {p q : α → Bool} : ∀ {l : List α}, (∀ x ∈ l, p x = true → q x = true) → (∃ x ∈ l, q x = true ∧ p x = false) → l.countP p < l.countP q
  | [], _, h => by obtain ⟨x, hx, _⟩ := h; cases hx
  | y :: l, h1, h2 => by
    have hmono : l.countP p ≤ l.countP q := List.countP_mono_left fun x hx hp => h1 x (List.mem_cons_of_mem _ hx) hp
    rw [List.countP_cons, List.countP_cons]
    by_cases hy : q y = true ∧ p y = false
    · rw [hy.1, hy.2]; simp; omega
    · obtain ⟨x, hx, hq, hp⟩ := h2
      rcases List.mem_cons.1 hx with rfl | hx
      · exact absurd ⟨hq, hp⟩ hy
      · have := countP_lt (fun x hx => h1 x (List.mem_cons_of_mem _ hx)) ⟨x, hx, hq, hp⟩
        cases hpy : p y with
        | true => rw [h1 y List.mem_cons_self hpy]; simp; omega
        | false => cases q y <;> simp <;> omega

/-- the edges, as B has them -/
structure Edges (all : List Oper) (B : Nat → Nat → Prop) : Prop where
  dec : ∀ i o j, all[i]? = some o → B j i → ∃ e ∈ o.after.toList, Region.binds .any e = true ∧ (j = e.on ∨ B j e.on)
  back : ∀ i o, all[i]? = some o → ∀ e ∈ o.after.toList, Region.binds .any e = true → e.on < i

theorem any_ok (E : Edges all B) (L : Laws ty all ρ H T B) (tr : Tr P ty all ahs all ρ H V run T) (txt : Txt P ty N φ0 ρ H V T all.length) (hN : ∀ o ∈ all, ∀ d, o.dst = some d → d < N) {Q : Exit → Act → World → Prop}
    (hq : ∀ ψ a' w', RelW ty ψ nil (H all.length) w' → AR N ψ (ρ all.length) a' → Evo φ0 (H 0) w0 ψ (H all.length) w' → Q .normal a' w') :
    ∀ (fuel : Nat) (listed : Array Bool) (φ : Phi) (C : Nat → Blk) (a : Act) (w : World), listed.size = all.length → (List.range all.length).countP (fun j => !listed.getD j true) ≤ fuel →
      (∀ j k, (j < all.length ∧ listed.getD j false = true) → B k j → (k < all.length ∧ listed.getD k false = true)) →
      Inv ty N all ρ H T φ0 w0 (fun j => j < all.length ∧ listed.getD j false = true) φ C a w → wpAny P .any all.toArray Q fuel listed a w := by
  have getTF : ∀ (listed : Array Bool), listed.size = all.length → ∀ j, j < all.length → listed.getD j true = listed.getD j false := by
    intro listed hs j hj
    rw [Array.getD_eq_getD_getElem?, Array.getD_eq_getD_getElem?, Array.getElem?_eq_getElem (by omega)]; rfl
  have done : ∀ (listed : Array Bool) (φ : Phi) (C : Nat → Blk) (a : Act) (w : World), listed.size = all.length → Region.ready .any all.toArray listed = [] →
      Inv ty N all ρ H T φ0 w0 (fun j => j < all.length ∧ listed.getD j false = true) φ C a w → (∀ j, j < all.length → listed.getD j false = true) ∧ Q .normal a w := by
    intro listed φ C a w hs hr I
    have hall : ∀ j, j < all.length → listed.getD j false = true := by
      intro j
      induction j using Nat.strongRecOn with
      | _ j ih =>
        intro hj
        cases hl : listed.getD j false with
        | true => rfl
        | false =>
          exfalso
          have ho : all[j]? = some all[j] := List.getElem?_eq_getElem hj
          have : j ∈ Region.ready .any all.toArray listed := by
            unfold Region.ready
            rw [List.mem_filter]
            refine ⟨List.mem_range.2 (by simpa using hj), ?_⟩
            rw [getTF listed hs j hj, hl, List.getElem?_toArray, ho]
            simp only [Bool.not_false, Bool.true_and, Option.map_some, Option.getD_some]
            rw [Array.all_eq_true_iff_forall_mem]
            intro e he
            cases hb : Region.binds .any e with
            | false => rfl
            | true =>
              have h1 := E.back j all[j] ho e (Array.mem_toList_iff.2 he) hb
              rw [ih e.on h1 (by omega)]; rfl
          rw [hr] at this; cases this
    obtain ⟨h1, h2, h3⟩ := I.fin txt L fun j hj => ⟨hj, hall j hj⟩
    exact ⟨hall, hq φ a w h1 h2 h3⟩
  intro fuel
  induction fuel with
  | zero =>
    intro listed φ C a w hs hc hcl I
    have hr : Region.ready .any all.toArray listed = [] := by
      cases hr : Region.ready .any all.toArray listed with
      | nil => rfl
      | cons x xs =>
        exfalso
        have hx : x ∈ Region.ready .any all.toArray listed := by rw [hr]; exact List.mem_cons_self
        unfold Region.ready at hx
        rw [List.mem_filter] at hx
        obtain ⟨h1, h2⟩ := hx
        have h3 : x < all.length := by simpa using List.mem_range.1 h1
        simp only [Bool.and_eq_true] at h2
        have := List.countP_pos_iff (p := fun j => !listed.getD j true) (l := List.range all.length) |>.2 ⟨x, List.mem_range.2 h3, h2.1⟩
        omega
    exact ⟨hr, (done listed φ C a w hs hr I).2⟩
  | succ fuel ih =>
    intro listed φ C a w hs hc hcl I
    refine ⟨fun hr => (done listed φ C a w hs hr I).2, fun i hi => ?_⟩
    unfold Region.ready at hi
    rw [List.mem_filter] at hi
    obtain ⟨h1, h2⟩ := hi
    have h3 : i < all.length := by simpa using List.mem_range.1 h1
    have ho : all[i]? = some all[i] := List.getElem?_eq_getElem h3
    rw [Bool.and_eq_true, List.getElem?_toArray, ho] at h2
    obtain ⟨h4, h5⟩ := h2
    simp only [Option.map_some, Option.getD_some] at h5
    rw [Array.all_eq_true_iff_forall_mem] at h5
    have hl : listed.getD i false = false := by
      rw [← getTF listed hs i h3]; simpa using h4
    have hset : ∀ j, j < all.length → (listed.setIfInBounds i true).getD j false = if j = i then true else listed.getD j false := by
      intro j hj
      rw [Array.getD_eq_getD_getElem?, Array.getElem?_setIfInBounds, Array.getD_eq_getD_getElem?]
      by_cases hji : j = i
      · subst hji; rw [if_pos rfl, if_pos (by omega), if_pos rfl]; rfl
      · rw [if_neg fun h => hji h.symm, if_neg hji]
    have hpre : ∀ j, B j i → (j < all.length ∧ listed.getD j false = true) := by
      intro j hb
      obtain ⟨e, he, hbe, hor⟩ := E.dec i _ j ho hb
      have hon := h5 e (Array.mem_toList_iff.1 he)
      rw [hbe] at hon
      have hon : listed.getD e.on false = true := by simpa using hon
      have hlt : e.on < all.length := by have := E.back i _ ho e he hbe; omega
      rcases hor with rfl | hor
      · exact ⟨hlt, hon⟩
      · exact hcl e.on j ⟨hlt, hon⟩ hor
    refine I.step L tr txt ho (fun h => by rw [hl] at h; cases h.2) hpre hcl (hN _ (List.mem_of_getElem? ho)) fun φ' C' a' w' I' => ih _ φ' C' a' w' (by simp [hs]) ?_ ?_ ?_
    · have := countP_lt (p := fun j => !(listed.setIfInBounds i true).getD j true) (q := fun j => !listed.getD j true) (l := List.range all.length) (fun j hj hp => ?_) ⟨i, List.mem_range.2 h3, h4, ?_⟩
      · omega
      · have hj := List.mem_range.1 hj
        rw [getTF _ (by simp [hs]) j hj, hset j hj] at hp
        rw [getTF _ hs j hj]
        by_cases hji : j = i
        · rw [if_pos hji] at hp; cases hp
        · rw [if_neg hji] at hp; exact hp
      · rw [getTF _ (by simp [hs]) i h3, hset i h3, if_pos rfl]; rfl
    · intro j k hj hb
      have hjk : k < all.length ∧ listed.getD k false = true := by
        rw [hset j hj.1] at hj
        by_cases hji : j = i
        · subst hji; exact hpre k hb
        · rw [if_neg hji] at hj; exact hcl j k hj hb
      refine ⟨hjk.1, ?_⟩
      rw [hset k hjk.1]
      split
      · rfl
      · exact hjk.2
    · have : (fun j => (j < all.length ∧ listed.getD j false = true) ∨ j = i) = fun j => j < all.length ∧ (listed.setIfInBounds i true).getD j false = true := by
        funext j
        apply propext
        constructor
        · rintro (⟨hj, hlj⟩ | rfl)
          · refine ⟨hj, ?_⟩
            rw [hset j hj]
            split
            · rfl
            · exact hlj
          · refine ⟨h3, ?_⟩
            rw [hset _ h3, if_pos rfl]
        · rintro ⟨hj, hlj⟩
          rw [hset j hj] at hlj
          by_cases hji : j = i
          · exact .inr hji
          · rw [if_neg hji] at hlj; exact .inl ⟨hj, hlj⟩
      rw [← this]; exact I'

theorem Evo.of_worlds {φ ψ : Phi} {h h' : Hp} {w w1 w' : World} (ev : Evo φ h w1 ψ h' w') (hh : w1.heap = w.heap) (ht : w1.tape = w.tape) (ho : w1.os = w.os) (hout : w1.output = w.output) : Evo φ h w ψ h' w' where
  le := ev.le
  new := ev.new
  next := ev.next
  size := by rw [← hh]; exact ev.size
  tape := ev.tape.trans ht
  os := ev.os.trans ho
  output := ev.output.trans hout
  frame := by rw [← hh]; exact ev.frame
  back := by rw [← hh]; exact ev.back
  kept := ev.kept
  low := ev.low
  high := ev.high
  shape := ev.shape
  only := ev.only
  all := ev.all

theorem tr_open (hm : P.follows .mixedOrders = true) (E : Edges all B) (L : Laws ty all ρ H T B) (tr : Tr P ty all ahs all ρ H V run T) (hN : ∀ o ∈ all, ∀ d, o.dst = some d → d < N) {Q : Exit → Act → World → Prop} {a : Act} {w : World} {id : Nat}
    (HW : RelW ty φ0 nil (H 0) w) (HA : AR N φ0 (ρ 0) a) (hq : ∀ ψ a' w', RelW ty ψ nil (H all.length) w' → AR N ψ (ρ all.length) a' → Evo φ0 (H 0) w ψ (H all.length) w' → Q .normal a' w') :
    (Code.region id all.toArray true).wp P Q a w := by
  have txt : Txt P ty N φ0 ρ H V T all.length := by
    have h := tr_text (Q := fun _ _ _ => Txt P ty N φ0 ρ H V T all.length) all tr hN HW HA fun txt _ _ _ _ _ _ => txt
    obtain ⟨_, _, _, h, _⟩ := wp_region_list (id := 0) (ops := all.toArray) (by simpa using h) (default : Frame) [] []
    exact h
  refine wp_region_any hm ?_
  have HW1 : RelW ty φ0 nil (H 0) { w with drawn := w.drawn + 1 } := HW.of_heap rfl
  have hsz : all.toArray.size = all.length := by simp
  rw [hsz]
  refine any_ok (w0 := { w with drawn := w.drawn + 1 }) E L tr txt hN (fun ψ a' w' h1 h2 h3 => hq ψ a' w' h1 h2 (h3.of_worlds rfl rfl rfl rfl)) all.length _ φ0 (H 0).bl.get a _ (by simp) (Nat.le_trans List.countP_le_length (by simp)) ?_ ?_
  · rintro j k ⟨hj, hlj⟩ _
    rw [Array.getD_eq_getD_getElem?] at hlj
    simp [hj] at hlj
  · refine Inv.begin tr txt L HW1 HA fun j hj h => ?_
    have := h.2
    rw [Array.getD_eq_getD_getElem?] at this
    simp [hj] at this
end
end Go.Proofs.Ytkafejncffinmaa
