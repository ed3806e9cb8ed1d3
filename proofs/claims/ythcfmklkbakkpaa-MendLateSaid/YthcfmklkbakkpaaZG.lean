/-
  A walk through a map that searches: each round by itself, from the same memory; whatever the order, what it comes to is the same.
  Code: what the machine makes of it is what the model does.
  Functions: what the machine's call says is what the model's call does.
  A closed run: what the kernel has reckoned holds of every memory and every tape.
  Which places of a tree are there; a next place can be set. Printed by program (genfull.py).
  Steps of the machine as equations, for runs whose values are open: what an operation gives, what code goes on with.
  The machine's heap, for runs whose values are open: new blocks, rows as lists, what is read of them and written into them.
  Loops, appends, bytes, for runs whose values are open.
  A run whose arguments are handed on, and never looked at.
  Runs upon what came in: rows that the run only reads, each in a block of its own below number 256; what the machine has shown of it holds of every memory and every tape.
  Slices as the values that they hold, rows that the run owns and appends to, a function that is known to answer true as one step: for runs whose values are open.
-/
import Derived.Test.YthcfmklkbakkpaaZF
import Derived.LoopN
import Derived.Scope
import Derived.Below
import Derived.ChangeSame
import Derived.ChangeSlices
import Derived.ChangeArms
set_option linter.unusedSimpArgs false
set_option linter.unusedVariables false
namespace Go.Proofs.Ythcfmklkbakkpaa
noncomputable section
open Go
def Ag (S : List Nat) (e e' : Env) : Prop := ∀ t, t < 320 → t ∉ S → e'.get t = e.get t
theorem Ag.refl (S : List Nat) (e : Env) : Ag S e e := fun _ _ _ => rfl
theorem Ag.trans {S : List Nat} {e e1 e2 : Env} (h : Ag S e e1) (h2 : Ag S e1 e2) : Ag S e e2 := fun t ht hn => (h2 t ht hn).trans (h t ht hn)
def PI (S : List Nat) (e : Env) : X → Prop
  | .no => True
  | .norm e' _ => Ag S e e'
  | .exit _ e' _ => Ag S e e'
  | .ret e' _ => Ag S e e'
theorem PI.of {S : List Nat} {e e1 : Env} {x : X} (h : Ag S e e1) (h2 : PI S e1 x) : PI S e x := by
  cases x with
  | no => trivial
  | norm _ _ => exact h.trans h2
  | exit _ _ _ => exact h.trans h2
  | ret _ _ => exact h.trans h2
section
variable {S : List Nat}
end
structure WalkIs (A : List Nat) (a : Code) (k : Walk) (id : Nat) (o1 o2 : Oper) (r2 : Code) : Prop where
  code : a = .seq (.region id #[o1, o2] false) (.seq (.cond (.tmp k.more) .skip (.exit k.out)) r2)
  op1 : o1.op = .next (.tmp k.it) false
  dst1 : o1.dst = some k.nx
  grd1 : o1.guard = none
  op2 : o2.op = .extract (.tmp k.nx) 0
  dst2 : o2.dst = some k.more
  grd2 : o2.guard = none
  ne : k.nx ≠ k.more
  itA : memN k.it A = false
  nxA : memN k.nx A = false
  moA : memN k.more A = false
  itL : k.it < 320
  nxL : k.nx < 320
  moL : k.more < 320
  ws : k.ws = wrs a
  itW : k.it ∉ k.ws
  few : ∀ d ∈ k.ws, d < 320
  rs : ∀ d ∈ k.rs, d ∈ k.ws
section
variable {ty : TTy} {A S : List Nat}
end
structure Good (ty : TTy) (A : List Nat) (N : Nat) (φ : Phi) (h : Hp) (w : World) (σ : Sg) (e : Env) (h' : Hp) (ψ : Phi) (a : Act) (w' : World) : Prop where
  sg : SgOk A σ
  rel : RelW ty ψ nil h' w'
  ar : AR N ψ (rhoOf A σ e) a
  evo : Evo φ h w ψ h' w'
section
variable {P : Program} {ty : TTy} {F : CallF} {A : List Nat} {N : Nat}
theorem UC {σ : Sg} (hS : SgOk A σ) {e : Env} {t : Nat} {u : Value} (h : rhoOf A [] e t = some u) : rhoOf A σ e t = some u := by
  rw [Dr] at h ⊢
  have h : (match memN t A with | true => none | false => match Nat.blt t 320 with | true => some (AB t e) | false => none) = some u := h
  cases hf : Ci t σ with
  | some s =>
    have := hS.mem _ (DZ hf)
    simp only at this
    rw [this] at h; cases h
  | none => exact h
theorem AR.nil {φ : Phi} {σ : Sg} {e : Env} {a : Act} (hS : SgOk A σ) (h : AR N φ (rhoOf A σ e) a) : AR N φ (rhoOf A [] e) a := ⟨h.size, h.defs, fun t u hu => h.rel t u (UC hS hu)⟩
theorem Good.nil {φ ψ : Phi} {h h' : Hp} {w w' : World} {σ : Sg} {e : Env} {a : Act} (g : Good ty A N φ h w σ e h' ψ a w') : Good ty A N φ h w [] e h' ψ a w' := ⟨.nil A, g.rel, g.ar.nil g.sg, g.evo⟩
theorem Good.trans {φ ψ χ : Phi} {h h' h2 : Hp} {w w' w2 : World} {σ σ2 : Sg} {e e2 : Env} {a a2 : Act} (g : Good ty A N φ h w σ e h' ψ a w') (g2 : Good ty A N ψ h' w' σ2 e2 h2 χ a2 w2) : Good ty A N φ h w σ2 e2 h2 χ a2 w2 :=
  ⟨g2.sg, g2.rel, g2.ar, g.evo.trans g2.evo⟩
structure Post (ty : TTy) (A : List Nat) (N : Nat) (F : CallF) (φ : Phi) (h : Hp) (w : World) (k : Option (Sg → C)) (X : X) (Q : Exit → Act → World → Prop) : Prop where
  go : ∀ k', k = some k' → ∀ σ e h' ψ a' w', Good ty A N φ h w σ e h' ψ a' w' → k' σ F e h' = X → Q .normal a' w'
  norm : k = none → ∀ e h' ψ a' w', Good ty A N φ h w [] e h' ψ a' w' → X = .norm e h' → Q .normal a' w'
  exit : ∀ id e h' ψ a' w', Good ty A N φ h w [] e h' ψ a' w' → X = .exit id e h' → Q (.exit id) a' w'
  ret : ∀ e h' ψ a' w', Good ty A N φ h w [] e h' ψ a' w' → X = .ret e h' → Q .ret a' w'
theorem Post.then {φ : Phi} {h : Hp} {w : World} {k : Option (Sg → C)} {X : X} {Q : Exit → Act → World → Prop} (p : Post ty A N F φ h w k X Q) {σ : Sg} {e : Env} {h' : Hp} {ψ : Phi} {a' : Act} {w' : World} (g : Good ty A N φ h w σ e h' ψ a' w') (hx : Je k σ F e h' = X) : Q .normal a' w' := by
  cases k with
  | none => exact p.norm rfl e h' ψ a' w' g.nil hx.symm
  | some k' => exact p.go k' rfl σ e h' ψ a' w' g hx
structure Rd (A : List Nat) (N : Nat) (φ : Phi) (ws : List Nat) (e : Env) (w : World) (pb qb c : Nat) (seen : List Nat) (ak : Act) (wk : World) : Prop where
  size : ak.tmps.size = N
  defs : ak.defers = []
  slots : ∀ t, t < 320 → memN t A = false → t ∉ ws → RelV φ (e.get t) (ak.tmps.getD t undef)
  grow : w.heap.size ≤ wk.heap.size
  same : ∀ j, j < w.heap.size → j ≠ pb → wk.heap[j]? = w.heap[j]?
  tape : wk.tape = w.tape
  os : wk.os = w.os
  output : wk.output = w.output
  iter : wk.heap[pb]? = some (.mapIter (some qb) c ⟨seen⟩ c)
theorem RelW.one {φ : Phi} {h : Hp} {w w' : World} {b : Nat} {pb : Pl} {o : Blk} {bl : BT} (H : RelW ty φ nil h w) (hpb : φ b = some pb) (hin : pb.inp = false) (hlive : Live h b) (hbl : ∀ i, bl.get i = if i = b then o else h.bl.get i)
    (hs : w.heap.size ≤ w'.heap.size) (hsame : ∀ j, j < w.heap.size → j ≠ pb.blk → w'.heap[j]? = w.heap[j]?) (hB : RelB ty φ pb o w'.heap[pb.blk]?) (hoc : ∀ cc s el, o ≠ .cells cc s el) (lo hi mk : Nat) :
    RelW ty φ nil { next := h.next, low := lo, high := hi, mark := mk, bl := bl } w' where
  dom := fun i p hp => ⟨(H.dom i p hp).1, Nat.lt_of_lt_of_le (H.dom i p hp).2 hs⟩
  inj := fun i j p q hp hq _ _ hi hj hio hpq => by
    have lv : ∀ i, bl.get i ≠ .dead → Live h i := fun i hi => by
      by_cases hib : i = b
      · rw [hib]; exact hlive
      · rw [hbl, if_neg hib] at hi; exact hi
    exact H.inj i j p q hp hq (fun h => h) (fun h => h) (lv i hi) (lv j hj) hio hpq
  row := fun i p hp _ => by
    show RelB ty φ p (bl.get i) _
    rw [hbl]
    by_cases hib : i = b
    · rw [if_pos hib]
      subst hib
      rw [hpb] at hp; cases hp
      exact hB
    · rw [if_neg hib]
      by_cases hdd : h.bl.get i = .dead
      · rw [hdd]; exact .dead
      · rw [hsame p.blk (H.dom i p hp).2 (fun hb => hib (H.inj i b p pb hp hpb (fun h => h) (fun h => h) hdd hlive (.inr hin) hb))]
        exact H.row i p hp (fun h => h)
  fresh := fun i hi => by
    have hi : h.next ≤ i := hi
    show bl.get i = _
    have := (H.dom _ _ hpb).1
    rw [hbl, if_neg (by omega)]; exact H.fresh i hi
  kind := fun i p cc s el hp he => by
    have he : bl.get i = .cells cc s el := he
    rw [hbl] at he
    by_cases hib : i = b
    · rw [if_pos hib] at he; exact absurd he (hoc _ _ _)
    · rw [if_neg hib] at he; exact H.kind i p cc s el hp he
  inp := H.inp
theorem Evo.one {φ : Phi} {h : Hp} {w w' : World} {b : Nat} {pb : Pl} {o : Blk} {bl : BT} (hpb : φ b = some pb) (hin : pb.inp = false) (hlive : Live h b) (hbl : ∀ i, bl.get i = if i = b then o else h.bl.get i)
    (hs : w.heap.size ≤ w'.heap.size) (hsame : ∀ j, j < w.heap.size → j ≠ pb.blk → w'.heap[j]? = w.heap[j]?) (ht : w'.tape = w.tape) (hos : w'.os = w.os) (hou : w'.output = w.output) (ho : ShapeLe (h.bl.get b) o) (mk : Nat) :
    Evo φ h w φ { next := h.next, low := CQ h.low b, high := DK h.high b, mark := mk, bl := bl } w' where
  le := .refl φ
  new := fun _ _ e => .inl e
  next := Nat.le_refl _
  size := hs
  tape := ht
  os := hos
  output := hou
  frame := fun j hj hf => hsame j hj fun hjp => hf b pb hpb hin (by show CQ _ _ ≤ _; rw [B0]; exact Nat.min_le_right _ _) (by show _ ≤ DK _ _; rw [Cd]; exact Nat.le_max_right _ _) hlive hjp.symm
  back := fun i p hp hl _ => by
    refine ⟨i, p, hp, ?_, rfl, rfl, .inl rfl⟩
    by_cases hib : i = b
    · rw [hib]; exact hlive
    · have hl : bl.get i ≠ .dead := hl
      rw [hbl, if_neg hib] at hl; exact hl
  kept := fun i _ hi => by
    show bl.get i = _
    have hi : i < CQ h.low b ∨ DK h.high b < i := hi
    rw [B0, Cd] at hi
    rw [hbl, if_neg (by omega)]
  low := by show CQ _ _ ≤ _; rw [B0]; exact Nat.min_le_left _ _
  high := by show _ ≤ DK _ _; rw [Cd]; exact Nat.le_max_left _ _
  shape := fun i _ => by
    show ShapeLe _ (bl.get i)
    rw [hbl]
    by_cases hib : i = b
    · rw [if_pos hib, hib]; exact ho
    · rw [if_neg hib]; exact .refl _
  only := fun i _ h0 => by
    show bl.get i = _
    rw [hbl, if_neg (fun e => by rw [e, hpb] at h0; cases h0)]
  all := fun _ h1 h2 => absurd h2 (Nat.not_lt.2 h1)
end
end
end Go.Proofs.Ythcfmklkbakkpaa
set_option linter.unusedSimpArgs false
set_option linter.unusedVariables false
namespace Go.Proofs.Ythcfmklkbakkpaa
noncomputable section
open Go
section
variable {P : Program} {ty : TTy} {F : CallF} {A : List Nat} {N : Nat}
theorem Evo.of_low {φ ψ : Phi} {h g h' : Hp} {w w' : World} (ev : Evo φ g w ψ h' w') (h1 : g.bl = h.bl) (h2 : g.next = h.next) (h3 : g.low = h.low) (h4 : g.high = h.high) : Evo φ h w ψ h' w' where
  le := ev.le
  new := by rw [← h2]; exact ev.new
  next := by rw [← h2]; exact ev.next
  size := ev.size
  tape := ev.tape
  os := ev.os
  output := ev.output
  frame := by unfold Live; rw [← h1]; exact ev.frame
  back := by
    have := ev.back
    unfold Live at this ⊢
    rw [h1] at this; exact this
  kept := by rw [← h1, ← h2]; exact ev.kept
  low := by rw [← h3]; exact ev.low
  high := by rw [← h4]; exact ev.high
  shape := by rw [← h1, ← h2]; exact ev.shape
  only := by rw [← h1, ← h2]; exact ev.only
  all := by rw [← h2]; exact ev.all
theorem Ot (hT : CN P ty) (hF : Ca P ty F) (hm : P.follows .mixedOrders = true) {id : Nat} {ops : Array Oper} {draw : Bool} {σ : Sg} {k : Option (Sg → C)} {e : Env} {h : Hp} {X : X} (hr : CS ty A (.region id ops draw) σ k F e h = X) (hn : X ≠ .no)
    (hd : CO N (.region id ops draw) = true) {φ : Phi} {w : World} {a : Act} (hS : SgOk A σ) (HW : RelW ty φ nil h w) (HA : AR N φ (rhoOf A σ e) a) {Q : Exit → Act → World → Prop} (p : Post ty A N F φ h w k X Q) : (Code.region id ops draw).wp P Q a w := by
  have hN : ∀ o ∈ ops.toList, ∀ d, o.dst = some d → d < N := by
    intro o ho d hod
    unfold CO at hd
    rw [List.all_eq_true] at hd
    have := hd o ho
    rw [hod] at this
    exact Bu.1 this
  unfold CS at hr
  cases draw with
  | false =>
    simp only at hr
    obtain ⟨ρ, H, V, run, T, σ', e', tr, q1, q2, q3, q4, q5⟩ := KE hT hF ops.toList [] σ e h X (fun j o _ => .plain ty o) hS hr hn
    refine wp_region_list ?_
    have := KJ (Q := Q) (a := a) (w := w) (φ := φ) ops.toList tr hN (by rw [q2]; exact HW) (by rw [q1]; exact HA) fun _ ψ a' w' r1 r2 r3 => p.then ⟨q4, r1, by rw [← q3]; exact r2, by rw [← q2]; exact r3⟩ q5
    simpa using this
  | true =>
    simp only at hr
    cases hdr : NR ty ops.toList with
    | none => rw [hdr] at hr; exact absurd hr.symm hn
    | some ahs =>
      rw [hdr] at hr
      obtain ⟨bs, hbs, he, hs, hah⟩ := Pk hdr
      have hr : Ha ty A ops.toList (Je k) ahs ops.toList σ F e { next := h.next, low := h.low, high := h.high, mark := h.next, bl := h.bl } = X := hr
      obtain ⟨ρ, H, V, run, T, σ', e', tr, q1, q2, q3, q4, q5⟩ := KE hT hF ops.toList ahs σ e _ X (fun j o ho => by obtain ⟨xs, _, h⟩ := hah j o ho; exact h.ok) hS hr hn
      have := Ut (id := id) (Q := Q) (a := a) (w := w) (φ0 := φ) hm (KY hbs he) (Sx hbs he hs hah tr) tr hN (by rw [q2]; exact HW.of_bl rfl rfl) (by rw [q1]; exact HA)
        fun ψ a' w' r1 r2 r3 => p.then ⟨q4, r1, by rw [← q3]; exact r2, by rw [q2] at r3; exact r3.of_low rfl rfl rfl rfl⟩ q5
      simpa using this
theorem Nn (hm : P.follows .mixedOrders = true) {c : Code} {body : C} (ih : ∀ {e : Env} {h : Hp} {X : X}, body F e h = X → X ≠ .no → ∀ (φ : Phi) (w : World) (a : Act), RelW ty φ nil h w → AR N φ (rhoOf A [] e) a → ∀ (Q : Exit → Act → World → Prop), Post ty A N F φ h w none X Q → c.wp P Q a w) :
    ∀ (n : Nat) {e : Env} {h : Hp} {X : X}, iter body n F e h = X → X ≠ .no → ∀ (φ : Phi) (w : World) (a : Act), RelW ty φ nil h w → AR N φ (rhoOf A [] e) a → ∀ (Q : Exit → Act → World → Prop), Post ty A N F φ h w none X Q → Code.rounds P c Q n a w
  | 0, e, h, X, hr, hn => by exact absurd hr.symm hn
  | n + 1, e, h, X, hr, hn => by
    intro φ w a HW HA Q p
    unfold iter at hr
    cases hb : body F e h with
    | no => rw [hb] at hr; exact absurd hr.symm hn
    | norm e1 h1 =>
      rw [hb] at hr
      simp only at hr
      refine ih hb (fun h => by cases h) φ w a HW HA _ { go := (fun _ h => by cases h), norm := fun _ e' h' ψ a' w' g hx => ?_, exit := (fun _ _ _ _ _ _ _ hx => by cases hx), ret := (fun _ _ _ _ _ _ hx => by cases hx) }
      cases hx
      exact Nn hm ih n hr hn _ _ _ g.rel g.ar _ { go := (fun _ h => by cases h), norm := fun h e2 h2 χ a2 w2 g2 hx => p.norm h e2 h2 χ a2 w2 (g.trans g2) hx, exit := fun id e2 h2 χ a2 w2 g2 hx => p.exit id e2 h2 χ a2 w2 (g.trans g2) hx, ret := fun e2 h2 χ a2 w2 g2 hx => p.ret e2 h2 χ a2 w2 (g.trans g2) hx }
    | exit i e1 h1 =>
      rw [hb] at hr
      refine ih hb (fun h => by cases h) φ w a HW HA _ { go := (fun _ h => by cases h), norm := (fun _ _ _ _ _ _ _ hx => by cases hx), exit := fun id e2 h2 χ a2 w2 g2 hx => p.exit id e2 h2 χ a2 w2 g2 (hr.symm.trans hx), ret := (fun _ _ _ _ _ _ hx => by cases hx) }
    | ret e1 h1 =>
      rw [hb] at hr
      refine ih hb (fun h => by cases h) φ w a HW HA _ { go := (fun _ h => by cases h), norm := (fun _ _ _ _ _ _ _ hx => by cases hx), exit := (fun _ _ _ _ _ _ _ hx => by cases hx), ret := fun e2 h2 χ a2 w2 g2 hx => p.ret e2 h2 χ a2 w2 g2 (hr.symm.trans hx) }
theorem Lf {φ : Phi} {h : Hp} {w : World} {k' : Sg → C} {X : X} {Q : Exit → Act → World → Prop} (p : Post ty A N F φ h w (some k') X Q) {a : C} {e : Env} (hr : As a (k' []) F e h = X) (hn : X ≠ .no) :
    ∃ X1, a F e h = X1 ∧ X1 ≠ .no ∧ Post ty A N F φ h w none X1 Q := by
  unfold As at hr
  cases hb : a F e h with
  | no => rw [hb] at hr; exact absurd hr.symm hn
  | norm e1 h1 =>
    rw [hb] at hr
    exact ⟨_, rfl, (fun h => by cases h), { go := (fun _ h => by cases h), norm := fun _ e2 h2 χ a2 w2 g2 hx => by cases hx; exact p.go k' rfl [] _ _ χ a2 w2 g2 hr, exit := (fun _ _ _ _ _ _ _ hx => by cases hx), ret := (fun _ _ _ _ _ _ hx => by cases hx) }⟩
  | exit i e1 h1 =>
    rw [hb] at hr
    exact ⟨_, rfl, (fun h => by cases h), { go := (fun _ h => by cases h), norm := (fun _ _ _ _ _ _ _ hx => by cases hx), exit := fun id e2 h2 χ a2 w2 g2 hx => p.exit id e2 h2 χ a2 w2 g2 (hr.symm.trans hx), ret := (fun _ _ _ _ _ _ hx => by cases hx) }⟩
  | ret e1 h1 =>
    rw [hb] at hr
    exact ⟨_, rfl, (fun h => by cases h), { go := (fun _ h => by cases h), norm := (fun _ _ _ _ _ _ _ hx => by cases hx), exit := (fun _ _ _ _ _ _ _ hx => by cases hx), ret := fun e2 h2 χ a2 w2 g2 hx => p.ret e2 h2 χ a2 w2 g2 (hr.symm.trans hx) }⟩
theorem Lw {φ : Phi} {h : Hp} {w : World} {X : X} {Q : Exit → Act → World → Prop} (p : Post ty A N F φ h w none X Q) {id : Nat} {a : C} {e : Env} (hr : Ab id a F e h = X) (hn : X ≠ .no) :
    ∃ X1, a F e h = X1 ∧ X1 ≠ .no ∧ Post ty A N F φ h w none X1 (Exit.inBlock id Q) := by
  unfold Ab at hr
  cases hb : a F e h with
  | no => rw [hb] at hr; exact absurd hr.symm hn
  | norm e1 h1 =>
    rw [hb] at hr
    exact ⟨_, rfl, (fun h => by cases h), { go := (fun _ h => by cases h), norm := fun h e2 h2 χ a2 w2 g2 hx => p.norm h e2 h2 χ a2 w2 g2 (hr.symm.trans hx), exit := (fun _ _ _ _ _ _ _ hx => by cases hx), ret := (fun _ _ _ _ _ _ hx => by cases hx) }⟩
  | exit i e1 h1 =>
    rw [hb] at hr
    simp only at hr
    refine ⟨_, rfl, (fun h => by cases h), { go := (fun _ h => by cases h), norm := fun _ _ _ _ _ _ _ hx => (by cases hx), exit := fun j e2 h2 χ a2 w2 g2 hx => ?_, ret := fun _ _ _ _ _ _ hx => (by cases hx) }⟩
    cases hx
    unfold Exit.inBlock
    cases hq : Nat.beq i id with
    | true =>
      rw [hq] at hr
      simp only [A1.1 hq, if_true]
      exact p.norm rfl _ _ χ a2 w2 g2 hr.symm
    | false =>
      rw [hq] at hr
      simp only [Ee hq, if_false]
      exact p.exit i _ _ χ a2 w2 g2 hr.symm
  | ret e1 h1 =>
    rw [hb] at hr
    exact ⟨_, rfl, (fun h => by cases h), { go := (fun _ h => by cases h), norm := (fun _ _ _ _ _ _ _ hx => by cases hx), exit := (fun _ _ _ _ _ _ _ hx => by cases hx), ret := fun e2 h2 χ a2 w2 g2 hx => p.ret e2 h2 χ a2 w2 g2 (hr.symm.trans hx) }⟩
theorem Dl (hT : CN P ty) (hF : Ca P ty F) (hm : P.follows .mixedOrders = true) : ∀ (c : Code) {σ : Sg} {k : Option (Sg → C)} {e : Env} {h : Hp} {X : X}, CS ty A c σ k F e h = X → X ≠ .no → CO N c = true →
    ∀ (φ : Phi) (w : World) (a : Act), SgOk A σ → RelW ty φ nil h w → AR N φ (rhoOf A σ e) a → ∀ (Q : Exit → Act → World → Prop), Post ty A N F φ h w k X Q → c.wp P Q a w
  | .skip, σ, k, e, h, X, hr, hn, hd => by
    intro φ w a hS HW HA Q p
    exact wp_skip (p.then ⟨hS, HW, HA, .refl _ _ _⟩ hr)
  | .region id ops draw, σ, k, e, h, X, hr, hn, hd => by
    intro φ w a hS HW HA Q p
    exact Ot hT hF hm hr hn hd hS HW HA p
  | .seq x y, σ, k, e, h, X, hr, hn, hd => by
    intro φ w a hS HW HA Q p
    have hd : (CO N x && CO N y) = true := hd
    rw [Bool.and_eq_true] at hd
    have hr : CS ty A x σ (some fun σ => CS ty A y σ k) F e h = X := hr
    refine wp_seq (Dl hT hF hm x hr hn hd.1 _ _ _ hS HW HA _ { go := fun k' hk σ' e' h' ψ a' w' g hx => ?_, norm := fun h => (by cases h), exit := p.exit, ret := p.ret })
    cases hk
    exact Dl hT hF hm y hx hn hd.2 _ _ _ g.sg g.rel g.ar _ { go := fun k' hk σ2 e2 h2 χ a2 w2 g2 hx => p.go k' hk σ2 e2 h2 χ a2 w2 (g.trans g2) hx, norm := fun h e2 h2 χ a2 w2 g2 hx => p.norm h e2 h2 χ a2 w2 (g.trans g2) hx, exit := fun id e2 h2 χ a2 w2 g2 hx => p.exit id e2 h2 χ a2 w2 (g.trans g2) hx, ret := fun e2 h2 χ a2 w2 g2 hx => p.ret e2 h2 χ a2 w2 (g.trans g2) hx }
  | .cond c x y, σ, k, e, h, X, hr, hn, hd => by
    intro φ w a hS HW HA Q p
    have hd : (CO N x && CO N y) = true := hd
    rw [Bool.and_eq_true] at hd
    unfold CS at hr
    cases hc : cO ⟨A, σ⟩ c with
    | none => rw [hc] at hr; exact absurd hr.symm hn
    | some cc =>
      rw [hc] at hr
      simp only at hr
      have hrel := HA.ev (EK hc e)
      have two : ∀ {kx : Option (Sg → C)} {Y : Go.Proofs.Ythcfmklkbakkpaa.X}, AO cc (CS ty A x σ kx) (CS ty A y σ kx) F e h = Y → Y ≠ .no → Post ty A N F φ h w kx Y Q → (Code.cond c x y).wp P Q a w := by
        intro kx Y hr hn p
        unfold AO at hr
        cases hv : cc e with
        | bool t =>
          rw [hv] at hr hrel
          have hev := hrel.bool_inv
          cases t with
          | true => exact wp_cond_true hev (Dl hT hF hm x hr hn hd.1 _ _ _ hS HW HA _ p)
          | false => exact wp_cond_false hev (Dl hT hF hm y hr hn hd.2 _ _ _ hS HW HA _ p)
        | _ => rw [hv] at hr; exact absurd hr.symm hn
      cases k with
      | none => exact two hr hn p
      | some k' =>
        simp only at hr
        cases hf : (HM x && HM y) with
        | false => rw [hf] at hr; exact two hr hn p
        | true =>
          rw [hf] at hr
          obtain ⟨X1, h1, h2, p1⟩ := Lf p hr hn
          exact two h1 h2 p1
  | .block id x, σ, k, e, h, X, hr, hn, hd => by
    intro φ w a hS HW HA Q p
    have hd : CO N x = true := hd
    have one : ∀ {Y : Go.Proofs.Ythcfmklkbakkpaa.X}, Ab id (CS ty A x [] none) F e h = Y → Y ≠ .no → Post ty A N F φ h w none Y Q → (Code.block id x).wp P Q a w := by
      intro Y hr hn p
      obtain ⟨X1, h1, h2, p1⟩ := Lw p hr hn
      exact wp_block (Dl hT hF hm x h1 h2 hd _ _ _ (.nil A) HW (HA.nil hS) _ p1)
    unfold CS at hr
    cases k with
    | none => exact one hr hn p
    | some k' =>
      simp only at hr
      obtain ⟨X1, h1, h2, p1⟩ := Lf p hr hn
      exact one h1 h2 p1
  | .loop x, σ, k, e, h, X, hr, hn, hd => by
    intro φ w a hS HW HA Q p
    have hd : CO N x = true := hd
    have plain : iter (CS ty A x [] none) rounds F e h = X → (Code.loop x).wp P Q a w := by
      intro hr
      refine wp_loop_rounds rounds (Nn hm (fun h1 h2 φ w a HW HA Q p => Dl hT hF hm x h1 h2 hd _ _ _ (.nil A) HW HA _ p) rounds hr hn _ _ _ HW (HA.nil hS) _ { go := fun _ h => (by cases h), norm := fun _ e2 h2 χ a2 w2 g2 hx => ?_, exit := p.exit, ret := p.ret })
      exfalso
      subst hx
      have : ∀ (n : Nat) (e : Env) (h : Hp), iter (CS ty A x [] none) n F e h ≠ .norm e2 h2 := by
        intro n
        induction n with
        | zero => intro e h hq; cases hq
        | succ n ih =>
          intro e h hq
          unfold iter at hq
          cases hb : CS ty A x [] none F e h with
          | norm e1 h1 => rw [hb] at hq; exact ih e1 h1 hq
          | no => rw [hb] at hq; cases hq
          | exit _ _ _ => rw [hb] at hq; cases hq
          | ret _ _ => rw [hb] at hq; cases hq
      exact this _ e h hr
    unfold CS at hr
    cases hw : VL A x with
    | none => rw [hw] at hr; exact plain hr
    | some kw => exact nomatch (show (none : Option Walk) = some kw from hw)
  | .exit id, σ, k, e, h, X, hr, hn, hd => by
    intro φ w a hS HW HA Q p
    have hr : (.exit id e h : Go.Proofs.Ythcfmklkbakkpaa.X) = X := hr
    exact wp_exit (p.exit id e h φ a w ⟨.nil A, HW, HA.nil hS, .refl _ _ _⟩ hr.symm)
  | .ret, σ, k, e, h, X, hr, hn, hd => by
    intro φ w a hS HW HA Q p
    have hr : (.ret e h : Go.Proofs.Ythcfmklkbakkpaa.X) = X := hr
    exact wp_ret (p.ret e h φ a w ⟨.nil A, HW, HA.nil hS, .refl _ _ _⟩ hr.symm)
  | .rangeFunc _ _ _ _, _, _, _, _, X, hr, hn, _ => by exact absurd hr.symm hn
  | .scope x, σ, k, e, h, X, hr, hn, hd => by
    intro φ w a hS HW HA Q p
    have hd : CO N x = true := hd
    have hr : CS ty A x σ k F e h = X := hr
    exact wp_scope_straight (Dl hT hF hm x hr hn hd _ _ _ hS HW HA _ { go := p.go, norm := p.norm, exit := p.exit, ret := p.ret })
  | .label _, σ, k, e, h, X, hr, hn, hd => by
    intro φ w a hS HW HA Q p
    exact wp_label (p.then ⟨hS, HW, HA, .refl _ _ _⟩ hr)
  | .goto _, _, _, _, _, X, hr, hn, _ => by exact absurd hr.symm hn
  | .refuse _, _, _, _, _, X, hr, hn, _ => by exact absurd hr.symm hn
termination_by c => SizeOf.sizeOf c
decreasing_by
  all_goals simp_wf
  all_goals first | omega | (simp_all; omega)
end
end
end Go.Proofs.Ythcfmklkbakkpaa
set_option linter.unusedSimpArgs false
set_option linter.unusedVariables false
namespace Go.Proofs.Ythcfmklkbakkpaa
noncomputable section
open Go
section
variable {P : Program} {ty : TTy} {A : List Nat} {N : Nat} {φ : Phi} {h h' : Hp} {w : World} {e : Env} {a : Act} {v : Value}
theorem JW {t : Nat} (h : KD A t = true) (e : Env) : rhoOf A [] e t = some (AB t e) := by
  unfold KD at h
  rw [Dr]
  show (match memN t A with | true => none | false => match Nat.blt t 320 with | true => some (AB t e) | false => none) = _
  cases hm : memN t A with
  | true => rw [hm] at h; cases h
  | false =>
    rw [hm] at h
    have h : Nat.blt t 320 = true := h
    simp only [h]
def Lc (tmps : Array Value) : ResultVar → Sem Value
  | .tmp t => pure (tmps.getD t undef)
  | .cell a t => do loadVar t (← asAddr (tmps.getD a undef))
theorem My (fn : Func) (tmps : Array Value) : Go.results fn tmps = (do let vs ← fn.results.mapM (Lc tmps); pure (if h : vs.size = 1 then vs[0] else .tuple vs)) := by
  unfold Go.results
  congr 2
theorem PP (f : ResultVar → Sem Value) (l : Array ResultVar) {vs : List Value} (h : (l.toList.mapM f).run P w = .ok vs w) : (l.mapM f).run P w = .ok ⟨vs⟩ w := by
  have : l.mapM f = List.toArray <$> l.toList.mapM f := by
    conv => lhs; rw [← Array.toArray_toList (xs := l)]
    rw [List.mapM_toArray]
  rw [this, map_eq_pure_bind, Sem.run_bind, h, Result.andThen_ok, Sem.run_pure]
theorem E7 (hT : CN P ty) (H : RelW ty φ nil h w) (HA : AR N φ (rhoOf A [] e) a) : ∀ {l : List ResultVar} {rs : List RV} {k : List Value → R}, rsC ty A l = some rs → Go.Proofs.Ythcfmklkbakkpaa.results e h k rs = .ok v h' →
    ∃ vs vs', RelL φ vs vs' ∧ k vs = .ok v h' ∧ (l.mapM (Lc a.tmps)).run P w = .ok vs' w
  | [], rs, k, hc, hr => by
    cases hc
    exact ⟨[], [], .nil, hr, by simp⟩
  | .tmp t :: l, rs, k, hc, hr => by
    unfold rsC at hc
    split at hc
    · cases hc
    rename_i ht
    split at hc
    case h_2 => cases hc
    rename_i r hrs
    cases hc
    unfold Go.Proofs.Ythcfmklkbakkpaa.results at hr
    have hr : forceV (AB t e) (fun v => Go.Proofs.Ythcfmklkbakkpaa.results e h (fun vs => k (v :: vs)) r) = .ok v h' := hr
    rw [BR] at hr
    obtain ⟨vs, vs', h1, h2, h3⟩ := E7 hT H HA hrs hr
    have h4 := HA.rel t _ (JW ht e)
    exact ⟨_, _, .cons h4 h1, h2, by simp [List.mapM_cons, Lc, h3]⟩
  | .cell c t :: l, rs, k, hc, hr => by
    unfold rsC at hc
    split at hc
    · cases hc
    rename_i ht
    split at hc
    case h_2 => cases hc
    rename_i ti hti
    split at hc
    case h_2 => cases hc
    rename_i r hrs
    have T := hT t ti hti
    have h4 := HA.rel c _ (JW ht e)
    cases hag : ti.k.agg with
    | true =>
      rw [hag] at hc
      cases hc
      unfold Go.Proofs.Ythcfmklkbakkpaa.results E6 at hr
      simp only at hr
      cases hadr : DG (AB c e) with
      | no => rw [hadr] at hr; cases hr
      | ok ad =>
        rw [hadr] at hr
        simp only at hr
        cases hl : loadN ti.size ad h with
        | no => rw [hl] at hr; cases hr
        | ok u h2 =>
          rw [hl] at hr
          simp only [BR] at hr
          rw [Ff hadr] at h4
          obtain ⟨a', ha', hra⟩ := h4.ptr_inv
          obtain ⟨_, l', hv, hrun⟩ := K5 (P := P) H hl hra (fun h => h)
          obtain ⟨vs, vs', h1, h5, h3⟩ := E7 hT H HA hrs hr
          refine ⟨_, _, .cons hv h1, h5, ?_⟩
          have : (Lc a.tmps (.cell c t)).run P w = .ok (.agg l'.toArray) w := by
            unfold Lc
            simp only [ha', asAddr, Sem.run_bind, Sem.run_pure, Result.andThen_ok, loadVar, T.agg, hag, if_true, T.size, hrun]
          simp [List.mapM_cons, this, h3]
    | false =>
      rw [hag] at hc
      cases hc
      unfold Go.Proofs.Ythcfmklkbakkpaa.results E6 at hr
      simp only at hr
      cases hadr : DG (AB c e) with
      | no => rw [hadr] at hr; cases hr
      | ok ad =>
        rw [hadr] at hr
        simp only at hr
        cases hl : load1 ad h with
        | no => rw [hl] at hr; cases hr
        | ok u h2 =>
          rw [hl] at hr
          simp only [BR] at hr
          rw [Ff hadr] at h4
          obtain ⟨a', ha', hra⟩ := h4.ptr_inv
          obtain ⟨_, v', hcell, hv⟩ := K4 H hl hra (fun h => h)
          obtain ⟨vs, vs', h1, h5, h3⟩ := E7 hT H HA hrs hr
          refine ⟨_, _, .cons hv h1, h5, ?_⟩
          have : (Lc a.tmps (.cell c t)).run P w = .ok v' w := by
            unfold Lc
            simp only [ha', asAddr, Sem.run_bind, Sem.run_pure, Result.andThen_ok, loadVar, T.agg, hag, Bool.false_eq_true, if_false, run_load, hcell]
          simp [List.mapM_cons, this, h3]
theorem I7 (hT : CN P ty) (H : RelW ty φ nil h w) (HA : AR N φ (rhoOf A [] e) a) {fn : Func} {rs : List RV} (hc : rsC ty A fn.results.toList = some rs) (hr : FN rs e h = .ok v h') :
    h' = h ∧ ∃ v', RelV φ v v' ∧ (Go.results fn a.tmps).run P w = .ok v' w := by
  unfold FN at hr
  obtain ⟨vs, vs', h1, h2, h3⟩ := E7 hT H HA hc hr
  have hrun := PP (P := P) (w := w) (Lc a.tmps) fn.results h3
  rw [My]
  simp only [Sem.run_bind, hrun, Result.andThen_ok, Sem.run_pure]
  unfold Hf at h2
  split at h2
  · cases h2
    cases h1 with
    | cons hv ht => cases ht; exact ⟨rfl, _, hv, rfl⟩
  · rename_i hne
    cases h2
    refine ⟨rfl, _, .tuple h1, ?_⟩
    have : vs'.length ≠ 1 := by
      rw [h1.length]
      intro hl
      cases vs with
      | nil => cases hl
      | cons x l =>
        cases l with
        | nil => exact hne x rfl
        | cons _ _ => simp at hl
    have hs : ¬ (Array.mk vs').size = 1 := this
    rw [dif_neg hs]
theorem Lh : ∀ (args : List Value) (e : Env) (i t : Nat), i + args.length ≤ 320 → t < 320 → (Av e i args).get t = if i ≤ t ∧ t < i + args.length then args.getD (t - i) noRes else e.get t
  | [], e, i, t, _, _ => by
    rw [if_neg (by simp)]; rfl
  | v :: l, e, i, t, hn, ht => by
    simp only [List.length_cons] at hn
    unfold Av
    rw [Lh l _ (i + 1) t (by omega) ht]
    by_cases h1 : i + 1 ≤ t ∧ t < i + 1 + l.length
    · rw [if_pos h1, if_pos (by simp only [List.length_cons]; omega)]
      have : t - i = (t - (i + 1)) + 1 := by omega
      rw [this, List.getD_cons_succ]
    · rw [if_neg h1, Env.get_set _ _ _ _ (by omega) ht]
      by_cases h2 : t = i
      · subst h2
        rw [if_pos rfl, if_pos (by simp only [List.length_cons]; omega)]
        simp
      · rw [if_neg h2, if_neg (by simp only [List.length_cons]; omega)]
set_option maxRecDepth 100000 in
theorem Xa {t : Nat} (ht : t < 320) : e0.get t = noRes := by
  have H : Hu (fun i => e0.get i = noRes) 320 := by
    repeat' (first | exact trivial | refine ⟨rfl, ?_⟩)
  exact H.at t ht
theorem Rl {args args' : List Value} (hr : RelL φ args args') (hn : args.length ≤ 320) (n : Nat) :
    AR (max args.length n) φ (rhoOf A [] (Av e0 0 args)) { tmps := (⟨args'⟩ : Array Value) ++ Array.replicate (n - (⟨args'⟩ : Array Value).size) undef, defers := [] } where
  size := by
    have := hr.length
    simp only [Array.size_append, Array.size_replicate, List.size_toArray]
    omega
  defs := rfl
  rel := fun t u hu => by
    rw [Dr] at hu
    have hu : (match memN t A with | true => none | false => match Nat.blt t 320 with | true => some (AB t (Av e0 0 args)) | false => none) = some u := hu
    cases hm : memN t A with
    | true => rw [hm] at hu; cases hu
    | false =>
      rw [hm] at hu
      simp only at hu
      cases hb : Nat.blt t 320 with
      | false => rw [hb] at hu; cases hu
      | true =>
        rw [hb] at hu
        cases hu
        have ht := Bu.1 hb
        rw [EE t ht, Lh args e0 0 t (by omega) ht, Xa ht]
        have hlen := hr.length
        simp only [Array.getD_eq_getD_getElem?]
        by_cases h1 : t < args.length
        · rw [if_pos (by omega), Nat.sub_zero, Array.getElem?_append_left (by simp only [List.size_toArray]; omega)]
          obtain ⟨v', h2, h3⟩ := hr.get t args[t] (List.getElem?_eq_getElem h1)
          have : args.getD t noRes = args[t] := by rw [List.getD_eq_getElem?_getD, List.getElem?_eq_getElem h1]; rfl
          rw [this]
          have e2 : (⟨args'⟩ : Array Value)[t]? = some v' := by simpa using h2
          rw [e2]; exact h3
        · rw [if_neg (by omega), Array.getElem?_append_right (by simp only [List.size_toArray]; omega), Array.getElem?_replicate]
          split <;> exact .tuple .nil
theorem Oy {l : List ResultVar} {rs : List RV} (hc : rsC ty A l = some rs) : NB rs = none := by
  cases l with
  | nil => cases hc; rfl
  | cons x l =>
    cases x with
    | tmp t =>
      unfold rsC at hc
      split at hc
      · cases hc
      · split at hc
        · cases hc; rfl
        · cases hc
    | cell c t =>
      unfold rsC at hc
      split at hc
      · cases hc
      · split at hc
        · split at hc
          · split at hc
            · cases hc; rfl
            · cases hc; rfl
          · cases hc
        · cases hc
def ZL (P : Program) (ty : TTy) (g : Nat) (b : Body) : Prop := ∃ fn A, P.funcs[g]? = some fn ∧ fn.name ≠ "runtime.NumGoroutine" ∧ A4 ty A fn = some b
def A7 : Body := ⟨[], cNo⟩
theorem Cn {n m : Nat} (h : n ≤ m) : ∀ {c : Code}, CO n c = true → CO m c = true
  | .region _ ops _, hd => by
    unfold CO at hd ⊢
    rw [List.all_eq_true] at hd ⊢
    intro o ho
    have := hd o ho
    split at this
    · have := Bu.1 this
      exact Bu.2 (by omega)
    · rfl
  | .seq a b, hd => by
    have hd : (CO n a && CO n b) = true := hd
    rw [Bool.and_eq_true] at hd
    show (CO m a && CO m b) = true
    rw [Cn h hd.1, Cn h hd.2]; rfl
  | .cond _ a b, hd => by
    have hd : (CO n a && CO n b) = true := hd
    rw [Bool.and_eq_true] at hd
    show (CO m a && CO m b) = true
    rw [Cn h hd.1, Cn h hd.2]; rfl
  | .block _ a, hd => Cn (c := a) h hd
  | .loop a, hd => Cn (c := a) h hd
  | .skip, _ => rfl
  | .exit _, _ => rfl
  | .ret, _ => rfl
  | .rangeFunc _ _ _ _, _ => rfl
  | .scope a, hd => Cn (c := a) h hd
  | .label _, _ => rfl
  | .goto _, _ => rfl
  | .refuse _, _ => rfl
theorem Pm (hT : CN P ty) {F : CallF} (hF : Ca P ty F) (hm : P.follows .mixedOrders = true) {g : Nat} {b : Body} (hb : ZL P ty g b) {args : List Value} (hr : enter F b args h = .ok v h') :
    (∃ fn, P.funcs[g]? = some fn ∧ fn.name ≠ "runtime.NumGoroutine" ∧ fn.body.isNone = false) ∧
    ∀ φ w args', RelL φ args args' → RelW ty φ nil h w →
      Calls P g ⟨args'⟩ w fun en w' => ∃ v' ψ, en = .returned v' ∧ RelV ψ v v' ∧ RelW ty ψ nil h' w' ∧ Evo φ h w ψ h' w' := by
  obtain ⟨fn, A, hfn, hname, hbody⟩ := hb
  unfold A4 at hbody
  cases hc : fn.body with
  | none => rw [hc] at hbody; cases hbody
  | some c =>
    rw [hc] at hbody
    simp only at hbody
    cases hrs : rsC ty A fn.results.toList with
    | none => rw [hrs] at hbody; cases hbody
    | some rs =>
      rw [hrs] at hbody
      simp only at hbody
      cases hd : CO fn.ntmps c with
      | false => rw [hd] at hbody; cases hbody
      | true =>
        rw [hd] at hbody
        cases hbody
        refine ⟨⟨fn, hfn, hname, by rw [hc]; rfl⟩, fun φ w args' hrel HW => ?_⟩
        unfold enter at hr
        dsimp only at hr
        rw [Oy hrs] at hr
        obtain ⟨hlen, hr⟩ := BZ hr
        have hlen : args.length ≤ 320 := by rw [← Bf]; exact Az.1 hlen
        have hAR := Rl (A := A) hrel hlen fn.ntmps
        refine calls_of_wp hfn hc ?_
        have hn : CS ty A c [] none F (Av e0 0 args) h ≠ .no := by
          intro hx; rw [hx] at hr; cases hr
        refine Dl hT hF hm c (e := Av e0 0 args) (h := h) rfl hn (Cn (Nat.le_max_right _ _) hd) _ _ _ (.nil A) HW hAR _ { go := fun _ h => (by cases h), norm := fun _ e1 h1 ψ a1 w1 g1 hx => ?_, exit := fun id e1 h1 ψ a1 w1 g1 hx => ?_, ret := fun e1 h1 ψ a1 w1 g1 hx => ?_ }
        · rw [hx] at hr
          obtain ⟨rfl, v', hv, hrun⟩ := I7 hT g1.rel g1.ar hrs hr
          exact ⟨g1.ar.defs, v', hrun, v', ψ, rfl, hv, g1.rel, g1.evo⟩
        · rw [hx] at hr; cases hr
        · rw [hx] at hr
          obtain ⟨rfl, v', hv, hrun⟩ := I7 hT g1.rel g1.ar hrs hr
          exact ⟨g1.ar.defs, v', hrun, v', ψ, rfl, hv, g1.rel, g1.evo⟩
def Ji (P : Program) (ty : TTy) (g : Nat) (b : Body) : Prop := ∀ (F : CallF) (args : List Value) (h : Hp) (v : Value) (h' : Hp), Ca P ty F → enter F b args h = .ok v h' →
    (∃ fn, P.funcs[g]? = some fn ∧ fn.name ≠ "runtime.NumGoroutine" ∧ fn.body.isNone = false) ∧
    ∀ φ w args', RelL φ args args' → RelW ty φ nil h w →
      Calls P g ⟨args'⟩ w fun en w' => ∃ v' ψ, en = .returned v' ∧ RelV ψ v v' ∧ RelW ty ψ nil h' w' ∧ Evo φ h w ψ h' w'
def BV (P : Program) (ty : TTy) (g : Nat) (b : Body) : Prop := ZL P ty g b ∨ b = A7 ∨ Ji P ty g b
def FT.All (p : Nat → Body → Prop) : FT → (Nat → Nat) → Prop
  | .mt, _ => True
  | .nd b l r, ix => p (ix 0) b ∧ FT.All p l (fun k => ix (2 * k + 1)) ∧ FT.All p r (fun k => ix (2 * k + 2))
theorem FT.All.get {p : Nat → Body → Prop} : ∀ {t : FT} {ix : Nat → Nat}, FT.All p t ix → ∀ {i : Nat} {b : Body}, t.get i = some b → p (ix i) b
  | .mt, ix, _, i, b, h => by cases h
  | .nd c l r, ix, ⟨h0, hl, hr⟩, 0, b, h => by cases h; exact h0
  | .nd c l r, ix, ⟨h0, hl, hr⟩, k + 1, b, h => by
    unfold FT.get at h
    have e1 : Nat.mod k 2 = k % 2 := rfl
    have e2 : Nat.div k 2 = k / 2 := rfl
    rw [e1, e2] at h
    rcases Nat.mod_two_eq_zero_or_one k with hk | hk
    · rw [hk] at h
      have := hl.get (i := k / 2) h
      have e : 2 * (k / 2) + 1 = k + 1 := by omega
      simp only [e] at this; exact this
    · rw [hk] at h
      have := hr.get (i := k / 2) h
      have e : 2 * (k / 2) + 2 = k + 1 := by omega
      simp only [e] at this; exact this
theorem GO (hT : CN P ty) (hm : P.follows .mixedOrders = true) {bs : FT} (hb : FT.All (BV P ty) bs id) : ∀ n, Ca P ty (call bs n)
  | 0 => fun g args h v h' hr => by cases hr
  | n + 1 => fun g args h v h' hr => by
    have hr : (match bs.get g with | some b => enter (call bs n) b args h | none => .no) = .ok v h' := hr
    cases hg : bs.get g with
    | none => rw [hg] at hr; cases hr
    | some b =>
      rw [hg] at hr
      rcases hb.get hg with hok | rfl | hdo
      · exact Pm hT (GO hT hm hb n) hm hok hr
      · exfalso
        have hr : (bif Nat.ble (Bk args) 320 then Bt [] .no else .no) = .ok v h' := hr
        obtain ⟨_, hr⟩ := BZ hr
        cases hr
      · exact hdo _ args h v h' (GO hT hm hb n) hr
end
end
end Go.Proofs.Ythcfmklkbakkpaa
set_option linter.unusedVariables false
namespace Go.Proofs.Ythcfmklkbakkpaa
noncomputable section
open Go Go.RowKit Go.WideShapes Go.ChangeShapes
def Qq : R → Bool
  | .ok (.bool b) _ => b
  | _ => false
def dH : Phi := fun _ => none
theorem O0 (ty : TTy) (w : World) : RelW ty dH nil Ln w where
  dom := fun i p h => by cases h
  inj := fun i j p q h => by cases h
  row := fun i p h => by cases h
  fresh := fun i _ => G8 9 i
  kind := fun i p c s e h => by cases h
  inp := fun i p h => by cases h
theorem Q7 {P : Program} {ty : TTy} {bs : FT} (hC : ∀ n, Ca P ty (call bs n)) {n f : Nat} (h : Qq (call bs n f [] Ln) = true) (w : World) :
    Calls P f #[] w fun e w' => e = .returned (.bool true) ∧ Below w.heap.size w w' := by
  cases hr : call bs n f [] Ln with
  | no => rw [hr] at h; cases h
  | ok v h' =>
    rw [hr] at h
    obtain ⟨_, hc⟩ := hC n f [] Ln v h' hr
    refine (hc dH w [] .nil (O0 ty w)).mono fun e w' ⟨v', ψ, he, hv, _, ev⟩ => ?_
    cases v with
    | bool b =>
      have h : b = true := h
      subst h
      have := hv.bool_inv
      subst this
      exact ⟨he, ⟨ev.os, ev.tape, ev.output, ev.size, fun k hk => ev.frame k hk fun i p hp => by cases hp⟩⟩
    | _ => cases h
section
variable {H : Type} {enc : TypeId × Value → H} {P : Program}
theorem Iv {f : Func} {s : ChangeSpec} {apart fresh handsOn again : Bool} {W W' : World} {args : Array Value} {v : Value} {ds gs : List (DataW H)} {before pa pv : List MemPlace}
    (hW : DataW.Whole enc P f.params.toList s.vars apart W args.toList ds gs before)
    (hres : ∀ (b : Nat) (sp : Nat → Bool) (hd : Bool), DataW.TrodAll enc P W' b sp hd f.resultTypes.toList (v.resultList f.resultTypes.size) (s.fn H (ds ++ gs)).results [])
    (hargs : ∀ sp : Nat → Bool, (∀ p ∈ before, sp p.block = true) → DataW.TrodAll enc P W' 0 sp true f.params.toList args.toList (s.fn H (ds ++ gs)).args pa)
    (hvars : ∀ sp : Nat → Bool, (∀ p ∈ before, sp p.block = true) → DataW.TrodVars enc P W' sp s.vars (s.fn H (ds ++ gs)).vars pv)
    (hps : before = pa ++ pv) (hb : Below W.heap.size W W')
    (hok : ∀ (j : Nat) (t : TypeId) (r : Value), f.resultTypes[j]? = some t → (v.resultList f.resultTypes.size)[j]? = some r → Value.okWide P W' .any 0 t r) :
    s.post enc P f apart fresh handsOn again W args v W' := by
  have hlt : ∀ p ∈ before, p.block < W.heap.size := fun p hp => hW.lt p hp
  have hold : ∀ p ∈ before, (fun b => decide (b < W.heap.size)) p.block = true := fun p hp => by simpa using hlt p hp
  refine ⟨ds, gs, before, [], pa, pv, hW, hres _ _ _, hargs _ hold, hvars _ hold, World.keptBut_mono (fun p hp => ⟨hp, ?_⟩) (hb.frame (· ∈ before)), fun _ => ?_⟩
  · rw [hps, List.mem_append] at hp
    exact Or.inr hp
  · obtain ⟨_, _, _, _, _, hz, hn⟩ := hW
    refine ⟨hok, _, _, ([] ++ pa) ++ pv, ⟨[] ++ pa, pv, trodAll_append (hargs _ (fun _ _ => rfl)) (hres _ _ _), hvars _ (fun _ _ => rfl), rfl, ?_, ?_⟩, ?_⟩
    · intro b off hp
      have hin : MemPlace.cell b off ∈ before := by rw [hps]; simpa using hp
      rw [hb.frozen (hlt _ hin)]
      exact hz b off hin
    · intro ha
      have := hn ha
      rw [hps] at this
      simpa using this
    · intro p hp _
      rw [hps]
      simpa using hp
end
end
end Go.Proofs.Ythcfmklkbakkpaa
namespace Go.Proofs.Ythcfmklkbakkpaa
noncomputable section
open Go
namespace VT
def has : VT → Nat → Prop
  | .mt, _ => False
  | .nd _ _ _, 0 => True
  | .nd _ l r, k + 1 => if k % 2 = 0 then l.has (k / 2) else r.has (k / 2)
theorem has_succ (v : Value) (l r : VT) (k : Nat) : (VT.nd v l r).has (k + 1) = if k % 2 = 0 then l.has (k / 2) else r.has (k / 2) := by rw [has]
theorem ED : ∀ (t : VT) (i : Nat) (x : Value), (∀ j, j < i → t.has j) → ∃ t', t.set i x = some t'
  | .mt, 0, x, _ => ⟨_, rfl⟩
  | .mt, i + 1, x, h => (h 0 (Nat.succ_pos i)).elim
  | .nd v l r, 0, x, _ => ⟨_, rfl⟩
  | .nd v l r, k + 1, x, h => by
    rw [Cp]
    by_cases hk : k % 2 = 0
    · rw [if_pos hk]
      obtain ⟨l', hl⟩ := ED l (k / 2) x fun j hj => by
        have := h (2 * j + 1) (by omega)
        rw [has_succ, if_pos (by omega)] at this
        have e : 2 * j / 2 = j := by omega
        rwa [e] at this
      rw [hl]; exact ⟨_, rfl⟩
    · rw [if_neg hk]
      obtain ⟨r', hr⟩ := ED r (k / 2) x fun j hj => by
        have := h (2 * j + 1 + 1) (by omega)
        rw [has_succ, if_neg (by omega)] at this
        have e : (2 * j + 1) / 2 = j := by omega
        rwa [e] at this
      rw [hr]; exact ⟨_, rfl⟩
theorem E8 : ∀ (t : VT) (i : Nat) (x : Value) (t' : VT), t.set i x = some t' → ∀ j, (j = i ∨ t.has j) → t'.has j
  | .mt, 0, x, t', h, j, hj => by
    obtain rfl : VT.nd x .mt .mt = t' := Option.some.inj h
    rcases hj with rfl | hj
    · exact trivial
    · exact hj.elim
  | .mt, i + 1, x, t', h, j, hj => by cases h
  | .nd v l r, 0, x, t', h, j, hj => by
    obtain rfl : VT.nd x l r = t' := Option.some.inj h
    cases j with
    | zero => exact trivial
    | succ j =>
      rcases hj with hj | hj
      · cases hj
      · rw [has_succ] at hj ⊢; exact hj
  | .nd v l r, i + 1, x, t', h, j, hj => by
    rw [Cp] at h
    split at h
    · rename_i h0
      cases hs : l.set (i / 2) x with
      | none => rw [hs] at h; cases h
      | some l' =>
        rw [hs] at h
        obtain rfl : VT.nd v l' r = t' := Option.some.inj h
        cases j with
        | zero => exact trivial
        | succ j =>
          rw [has_succ]
          split
          · rename_i h1
            refine E8 l _ x l' hs _ ?_
            rcases hj with hj | hj
            · left; have : j = i := by omega
              rw [this]
            · right; rw [has_succ, if_pos h1] at hj; exact hj
          · rename_i h1
            rcases hj with hj | hj
            · have : j = i := by omega
              exact absurd (this ▸ h0) h1
            · rw [has_succ, if_neg h1] at hj; exact hj
    · rename_i h0
      cases hs : r.set (i / 2) x with
      | none => rw [hs] at h; cases h
      | some r' =>
        rw [hs] at h
        obtain rfl : VT.nd v l r' = t' := Option.some.inj h
        cases j with
        | zero => exact trivial
        | succ j =>
          rw [has_succ]
          split
          · rename_i h1
            rcases hj with hj | hj
            · have : j = i := by omega
              exact absurd (this ▸ h1) h0
            · rw [has_succ, if_pos h1] at hj; exact hj
          · rename_i h1
            refine E8 r _ x r' hs _ ?_
            rcases hj with hj | hj
            · left; have : j = i := by omega
              rw [this]
            · right; rw [has_succ, if_neg h1] at hj; exact hj
def lay (t : VT) (i : Nat) (x : Value) : VT := (t.set i x).getD t
theorem lay_is {t : VT} {i : Nat} {x : Value} (h : ∀ j, j < i → t.has j) : t.set i x = some (t.lay i x) := by
  obtain ⟨t', ht⟩ := ED t i x h
  unfold lay; rw [ht]; rfl
theorem lay_get {t : VT} {i : Nat} {x : Value} (h : ∀ j, j < i → t.has j) (j : Nat) : (t.lay i x).get j = if j = i then x else t.get j := get_set _ _ _ _ (lay_is h) j
theorem lay_has {t : VT} {i : Nat} {x : Value} (h : ∀ j, j < i → t.has j) (j : Nat) (hj : j = i ∨ t.has j) : (t.lay i x).has j := E8 _ _ _ _ (lay_is h) j hj
end VT
namespace BT
def has : BT → Nat → Prop
  | .mt, _ => False
  | .nd _ _ _, 0 => True
  | .nd _ l r, k + 1 => if k % 2 = 0 then l.has (k / 2) else r.has (k / 2)
theorem has_succ (v : Blk) (l r : BT) (k : Nat) : (BT.nd v l r).has (k + 1) = if k % 2 = 0 then l.has (k / 2) else r.has (k / 2) := by rw [has]
theorem ED : ∀ (t : BT) (i : Nat) (x : Blk), (∀ j, j < i → t.has j) → ∃ t', t.set i x = some t'
  | .mt, 0, x, _ => ⟨_, rfl⟩
  | .mt, i + 1, x, h => (h 0 (Nat.succ_pos i)).elim
  | .nd v l r, 0, x, _ => ⟨_, rfl⟩
  | .nd v l r, k + 1, x, h => by
    rw [Cp]
    by_cases hk : k % 2 = 0
    · rw [if_pos hk]
      obtain ⟨l', hl⟩ := ED l (k / 2) x fun j hj => by
        have := h (2 * j + 1) (by omega)
        rw [has_succ, if_pos (by omega)] at this
        have e : 2 * j / 2 = j := by omega
        rwa [e] at this
      rw [hl]; exact ⟨_, rfl⟩
    · rw [if_neg hk]
      obtain ⟨r', hr⟩ := ED r (k / 2) x fun j hj => by
        have := h (2 * j + 1 + 1) (by omega)
        rw [has_succ, if_neg (by omega)] at this
        have e : (2 * j + 1) / 2 = j := by omega
        rwa [e] at this
      rw [hr]; exact ⟨_, rfl⟩
theorem E8 : ∀ (t : BT) (i : Nat) (x : Blk) (t' : BT), t.set i x = some t' → ∀ j, (j = i ∨ t.has j) → t'.has j
  | .mt, 0, x, t', h, j, hj => by
    obtain rfl : BT.nd x .mt .mt = t' := Option.some.inj h
    rcases hj with rfl | hj
    · exact trivial
    · exact hj.elim
  | .mt, i + 1, x, t', h, j, hj => by cases h
  | .nd v l r, 0, x, t', h, j, hj => by
    obtain rfl : BT.nd x l r = t' := Option.some.inj h
    cases j with
    | zero => exact trivial
    | succ j =>
      rcases hj with hj | hj
      · cases hj
      · rw [has_succ] at hj ⊢; exact hj
  | .nd v l r, i + 1, x, t', h, j, hj => by
    rw [Cp] at h
    split at h
    · rename_i h0
      cases hs : l.set (i / 2) x with
      | none => rw [hs] at h; cases h
      | some l' =>
        rw [hs] at h
        obtain rfl : BT.nd v l' r = t' := Option.some.inj h
        cases j with
        | zero => exact trivial
        | succ j =>
          rw [has_succ]
          split
          · rename_i h1
            refine E8 l _ x l' hs _ ?_
            rcases hj with hj | hj
            · left; have : j = i := by omega
              rw [this]
            · right; rw [has_succ, if_pos h1] at hj; exact hj
          · rename_i h1
            rcases hj with hj | hj
            · have : j = i := by omega
              exact absurd (this ▸ h0) h1
            · rw [has_succ, if_neg h1] at hj; exact hj
    · rename_i h0
      cases hs : r.set (i / 2) x with
      | none => rw [hs] at h; cases h
      | some r' =>
        rw [hs] at h
        obtain rfl : BT.nd v l r' = t' := Option.some.inj h
        cases j with
        | zero => exact trivial
        | succ j =>
          rw [has_succ]
          split
          · rename_i h1
            rcases hj with hj | hj
            · have : j = i := by omega
              exact absurd (this ▸ h1) h0
            · rw [has_succ, if_pos h1] at hj; exact hj
          · rename_i h1
            refine E8 r _ x r' hs _ ?_
            rcases hj with hj | hj
            · left; have : j = i := by omega
              rw [this]
            · right; rw [has_succ, if_neg h1] at hj; exact hj
def lay (t : BT) (i : Nat) (x : Blk) : BT := (t.set i x).getD t
theorem lay_is {t : BT} {i : Nat} {x : Blk} (h : ∀ j, j < i → t.has j) : t.set i x = some (t.lay i x) := by
  obtain ⟨t', ht⟩ := ED t i x h
  unfold lay; rw [ht]; rfl
theorem lay_get {t : BT} {i : Nat} {x : Blk} (h : ∀ j, j < i → t.has j) (j : Nat) : (t.lay i x).get j = if j = i then x else t.get j := get_set _ _ _ _ (lay_is h) j
theorem lay_has {t : BT} {i : Nat} {x : Blk} (h : ∀ j, j < i → t.has j) (j : Nat) (hj : j = i ∨ t.has j) : (t.lay i x).has j := E8 _ _ _ _ (lay_is h) j hj
end BT
end
end Go.Proofs.Ythcfmklkbakkpaa
set_option linter.unusedVariables false
set_option linter.unusedSimpArgs false
namespace Go.Proofs.Ythcfmklkbakkpaa
noncomputable section
open Go
section
variable {F : CallF} {e : Env} {h h' : Hp} {k a b : C} {f : OpF} {x y : O}
def opX (i : Nat) (r : R) (k : C) (F : CallF) (e : Env) : X := match r with
  | .ok v h => k F (Env.set i v e) h
  | .no => .no
def doX (r : R) (k : C) (F : CallF) (e : Env) : X := match r with
  | .ok _ h => k F e h
  | .no => .no
def Fa (x : X) (b : C) (F : CallF) : X := match x with
  | .norm e h => b F e h
  | x => x
def Cb (id : Nat) (x : X) : X := match x with
  | .exit i e h => bif Nat.beq i id then .norm e h else .exit i e h
  | x => x
def NO (v : Value) (a b : C) (F : CallF) (e : Env) (h : Hp) : X := match v with
  | .bool c => (bif c then a else b) F e h
  | _ => .no
def RA (i : Nat) (k : C) : C := fun F e h => k F (Env.set i noRes e) h
def GA (v : Value) (want : Bool) (a b : C) (F : CallF) (e : Env) (h : Hp) : X := match v with
  | .bool c => (bif want == c then a else b) F e h
  | .tuple _ => b F e h
  | _ => .no
theorem Bs {i : Nat} {v : Value} : opX i (.ok v h) k F e = k F (Env.set i v e) h := rfl
theorem Cm {v : Value} : doX (.ok v h) k F e = k F e h := rfl
theorem BB : Fa (.norm e h) b F = b F e h := rfl
theorem Ds : Fa (.ret e h) b F = .ret e h := rfl
theorem Jc {i : Nat} : Fa (.exit i e h) b F = .exit i e h := rfl
theorem EJ {i : Nat} : Cb i (.norm e h) = .norm e h := rfl
theorem C2 {i : Nat} : Cb i (.ret e h) = .ret e h := rfl
theorem BJ {i : Nat} : Cb i (.exit i e h) = .norm e h := by
  show (bif Nat.beq i i then _ else _) = _
  rw [Nat.beq_refl]; rfl
theorem B3 : NO (.bool true) a b F e h = a F e h := rfl
theorem Ba : NO (.bool false) a b F e h = b F e h := rfl
theorem JI : GA (.bool true) true a b F e h = a F e h := rfl
theorem JH : GA (.bool true) false a b F e h = b F e h := rfl
theorem JG : GA (.bool false) true a b F e h = b F e h := rfl
theorem JF : GA (.bool false) false a b F e h = a F e h := rfl
theorem HN {w : Bool} : GA noRes w a b F e h = b F e h := rfl
theorem Li {i : Nat} : RA i k F e h = k F (Env.set i noRes e) h := rfl
theorem Br {i : Nat} (hi : i < 320) : AE (AC i) f k F e h = opX i (f F e h) k F e := by
  unfold AE opX
  cases f F e h with
  | ok v h => exact Eq i hi _ v e
  | no => rfl
theorem Ck : cDo f k F e h = doX (f F e h) k F e := by
  unfold cDo doX
  cases f F e h <;> rfl
theorem U0 {g : O} {w : Bool} {i : Nat} (hi : i < 320) : cG g w (AC i) f k F e h = GA (g e) w (AE (AC i) f k) (RA i k) F e h := by
  unfold cG GA RA
  cases g e with
  | bool c =>
    simp only
    cases w == c
    · exact Eq i hi _ _ e
    · rfl
  | tuple l => exact Eq i hi _ _ e
  | _ => rfl
theorem Be : As a b F e h = Fa (a F e h) b F := by
  unfold As Fa
  cases a F e h <;> rfl
theorem BQ {i : Nat} : Ab i a F e h = Cb i (a F e h) := by
  unfold Ab Cb
  cases a F e h <;> rfl
theorem Bh : AO x a b F e h = NO (x e) a b F e h := by
  unfold AO NO
  cases x e with
  | bool c => cases c <;> rfl
  | _ => rfl
theorem Dk : AQ F e h = .norm e h := rfl
theorem NL : Ak F e h = .ret e h := rfl
theorem GM {i : Nat} : A3 i F e h = .exit i e h := rfl
theorem AG {i j : Nat} {v : Value} (hi : i < 320) (hj : j < 320) : AB j (Env.set i v e) = if j = i then v else AB j e := by
  rw [EE j hj, Env.get_set _ _ _ _ hi hj, EE j hj]
theorem Bz {v : Value} : kV v e = v := rfl
theorem Al : vals e [] = [] := rfl
theorem Ae {l : List O} : vals e (x :: l) = x e :: vals e l := rfl
theorem Af {i : Nat} : Av e i [] = e := rfl
theorem Ac {i : Nat} {v : Value} {l : List Value} : Av e i (v :: l) = Av (Env.set i v e) (Nat.succ i) l := rfl
theorem BM : AF x F e h = .ok (x e) h := Dn _ _
theorem EN {j : IntKind} {n : Int} : CH j (.int j n) = .ok n := by cases j <;> rfl
theorem Fo {j : IntKind} {n : Nat} : C9 (.int j (n : Int)) = .ok n := rfl
theorem FW {c : Bool} : okB c h = .ok (.bool c) h := by cases c <;> rfl
theorem Pz (a b : Int) : iGt a b = decide (b < a) := C7 b a
theorem MR (a b : Int) : iLe a b = decide (a ≤ b) := by
  show (!iLt b a) = _
  rw [C7, ← decide_not]
  congr 1; simp
theorem Jv (a b : Int) : iGe a b = decide (b ≤ a) := MR b a
theorem Jw (a b : Int) : iNe a b = !(a == b) := by
  show (!iEq a b) = _
  rw [D8]
def XK (f : Int → Int → Bool) (j : IntKind) (a b : Value) (h : Hp) : R := SI f (CH j a) (CH j b) h
def Lu (f : Int → Int → Int) (j : IntKind) (a b : Value) (h : Hp) : R := VO f j (CH j a) (CH j b) h
theorem AZ {f : Int → Int → Bool} {j : IntKind} : AS f j x y F e h = XK f j (x e) (y e) h := rfl
theorem E3 {f : Int → Int → Int} {j : IntKind} : DF f j x y F e h = Lu f j (x e) (y e) h := rfl
theorem AY {f : Int → Int → Bool} {j : IntKind} {m n : Int} : XK f j (.int j m) (.int j n) h = .ok (.bool (f m n)) h := by
  unfold XK
  rw [EN, EN]; exact FW
theorem He {f : Int → Int → Int} {j : IntKind} {m n : Int} : Lu f j (.int j m) (.int j n) h = .ok (.int j (j.wrap (f m n))) h := by
  unfold Lu
  rw [EN, EN]
  show okI j (Du j (f m n)) h = _
  rw [FX, Cf]
def Jj (j : IntKind) (a b : Value) (h : Hp) : R := Rf j (At j) (CH j a) (CH j b) h
theorem Bl {j : IntKind} : A9 j (At j) x y F e h = Jj j (x e) (y e) h := rfl
theorem RY {j : IntKind} {n : Nat} (hn : Nat.ble n (At j) = true) : j.wrap (n : Int) = n := by
  rw [← Cf]
  show Bool.rec (motive := fun _ => Int) (j.wrap (.ofNat n)) (.ofNat n) (Nat.ble n (At j)) = _
  rw [hn]; rfl
theorem Fe {j : IntKind} {m n : Int} : Jj j (.int j m) (.int j n) h = .ok (.int j (j.wrap (m + n))) h := by
  unfold Jj
  rw [EN, EN]
  cases m with
  | negSucc m => show okI j (Du j _) h = _; rw [FX, Cf]
  | ofNat m =>
    cases n with
    | negSucc n => show okI j (Du j _) h = _; rw [FX, Cf]
    | ofNat n =>
      show Bool.rec (motive := fun _ => R) (okI j (j.wrap (.ofNat m + .ofNat n)) h) (forceN (Nat.add m n) fun n => .ok (.int j (.ofNat n)) h) (Nat.ble (Nat.add m n) (At j)) = _
      cases hb : Nat.ble (Nat.add m n) (At j) with
      | false => simp only; rw [FX]
      | true =>
        simp only
        rw [A0]
        have := RY hb
        have e : (Int.ofNat m + Int.ofNat n : Int) = ((Nat.add m n : Nat) : Int) := by
          show ((m : Int) + (n : Int)) = ((m + n : Nat) : Int)
          omega
        rw [e, this]; rfl
def Mx (j : IntKind) (a b : Value) (h : Hp) : R := Q1 j (CH j a) (CH j b) h
theorem KC {j : IntKind} : E4 j x y F e h = Mx j (x e) (y e) h := rfl
theorem Hq {j : IntKind} {m n : Int} (hn : n ≠ 0) : Mx j (.int j m) (.int j n) h = .ok (.int j (m.tmod n)) h := by
  unfold Mx
  rw [EN, EN]
  show (bif iEq n 0 then R.no else okI j (m.tmod n) h) = _
  rw [D8, FX, beq_false_of_ne hn]; rfl
def KW (j : IntKind) (a : Value) (h : Hp) : R := match OO a with
  | .ok n => okI j (Du j n) h
  | .no => .no
theorem QO {j : IntKind} : CX j x F e h = KW j (x e) h := rfl
theorem H8 {j q : IntKind} {n : Int} : KW j (.int q n) h = .ok (.int j (j.wrap n)) h := by
  show okI j (Du j n) h = _
  rw [FX, Cf]
def dB (a : Value) (h : Hp) : R := match a with
  | .bool b => okB (!b) h
  | _ => .no
theorem BP : BF x F e h = dB (x e) h := rfl
theorem BO {c : Bool} : dB (.bool c) h = .ok (.bool (!c)) h := FW
def Qw (c a b : Value) (h : Hp) : R := Qx c a b h
theorem LJ {c : O} : AW c x y F e h = Qw (c e) (x e) (y e) h := rfl
theorem Ie {v u : Value} : Qw (.bool true) v u h = .ok v h := Dn _ _
theorem HS {v u : Value} : Qw (.bool false) v u h = .ok u h := Dn _ _
theorem Ap {g : Nat} {l : List O} : AV g l F e h = F g (vals e l) h := CA _ _
theorem BN {bs : FT} {n f : Nat} {b : Body} (hb : bs.get f = some b) {args : List Value} : call bs (Nat.succ n) f args h = enter (call bs n) b args h := by
  show (match bs.get f with | some b => enter (call bs n) b args h | none => .no) = _
  rw [hb]
theorem BE {rs : List RV} {c : C} {args : List Value} (hl : Nat.ble (Bk args) 320 = true) (hx : NB rs = none := by rfl) : enter F ⟨rs, c⟩ args h = Bt rs (c F (Av e0 0 args) h) := by
  unfold enter
  rw [hx]
  show (bif Nat.ble (Bk args) 320 then Bt rs (c F (Av e0 0 args) h) else .no) = _
  rw [hl]; rfl
theorem Ao {rs : List RV} : Bt rs (.ret e h) = FN rs e h := rfl
theorem Ax {g : O} : FN [.t g] e h = .ok (g e) h := by
  show forceV (g e) _ = _
  rw [BR]; rfl
def GT (i : Nat) (a : Value) (h : Hp) : R := match a with
  | .tuple vs => match nth vs.toList i with
    | some v => .ok v h
    | none => .no
  | _ => .no
theorem B9 {i : Nat} : Ah i x F e h = GT i (x e) h := by
  show (match x e with | .tuple vs => (match nth vs.toList i with | some v => forceV v fun v => .ok v h | none => .no) | _ => .no) = _
  unfold GT
  cases x e with
  | tuple vs =>
    simp only
    cases nth vs.toList i with
    | some v => exact BR _ _
    | none => rfl
  | _ => rfl
theorem CJ {v : Value} {l : List Value} : GT 0 (.tuple ⟨v :: l⟩) h = .ok v h := rfl
theorem CL {u v : Value} {l : List Value} : GT 1 (.tuple ⟨u :: v :: l⟩) h = .ok v h := rfl
end
end
end Go.Proofs.Ythcfmklkbakkpaa
set_option linter.unusedVariables false
set_option linter.unusedSimpArgs false
namespace Go.Proofs.Ythcfmklkbakkpaa
noncomputable section
open Go
section
variable {F : CallF} {e : Env} {h h' : Hp} {x y : O}
structure Hp.Wf (h : Hp) : Prop where
  big : 256 ≤ h.next
  has : ∀ i, i < h.next → h.bl.has i
  fresh : ∀ i, h.next ≤ i → h.bl.get i = .dead
def Hp.push (h : Hp) (o : Blk) : Hp := { next := Nat.succ h.next, low := h.low, high := h.high, mark := h.mark, bl := h.bl.lay h.next o }
def Hp.put (h : Hp) (b : Nat) (o : Blk) : Hp := { next := h.next, low := CQ h.low b, high := DK h.high b, mark := h.mark, bl := h.bl.lay b o }
theorem Em (W : h.Wf) {o : Blk} {K : Nat → Hp → R} : EX h o K = K h.next (h.push o) := by
  unfold EX
  rw [BT.lay_is fun j hj => W.has j hj]
  simp only [A0]; rfl
theorem Ja (W : h.Wf) {b : Nat} (h256 : 256 ≤ b) (hb : b < h.next) {o : Blk} {K : Hp → R} : DP h b o K = K (h.put b o) := by
  unfold DP
  rw [BT.lay_is fun j hj => W.has j (Nat.lt_trans hj hb), Az.2 h256]
  simp only [A0]; rfl
theorem Hp.Wf.push_get (W : h.Wf) (o : Blk) (i : Nat) : (h.push o).bl.get i = if i = h.next then o else h.bl.get i := BT.lay_get (fun j hj => W.has j hj) i
theorem Hp.Wf.put_get (W : h.Wf) {b : Nat} (hb : b < h.next) (o : Blk) (i : Nat) : (h.put b o).bl.get i = if i = b then o else h.bl.get i := BT.lay_get (fun j hj => W.has j (Nat.lt_trans hj hb)) i
theorem Hp.Wf.push (W : h.Wf) (o : Blk) : (h.push o).Wf where
  big := Nat.le_succ_of_le W.big
  has := fun i hi => BT.lay_has (fun j hj => W.has j hj) i (by
    have hi : i < h.next + 1 := hi
    rcases Nat.lt_or_ge i h.next with h1 | h1
    · exact .inr (W.has i h1)
    · exact .inl (by omega))
  fresh := fun i hi => by
    have hi : h.next + 1 ≤ i := hi
    rw [W.push_get o i, if_neg (by omega)]
    exact W.fresh i (by omega)
theorem Hp.Wf.put (W : h.Wf) {b : Nat} (hb : b < h.next) (o : Blk) : (h.put b o).Wf where
  big := W.big
  has := fun i hi => BT.lay_has (fun j hj => W.has j (Nat.lt_trans hj hb)) i (.inr (W.has i hi))
  fresh := fun i hi => by
    have hi : h.next ≤ i := hi
    rw [W.put_get hb o i, if_neg (by omega)]
    exact W.fresh i hi
structure Hp.Ext (h h' : Hp) : Prop where
  next : h.next ≤ h'.next
  get : ∀ i, i < h.next → h'.bl.get i = h.bl.get i
  low : min h.low h.next ≤ h'.low
  wf : h'.Wf
theorem Hp.Ext.refl (W : h.Wf) : h.Ext h := ⟨Nat.le_refl _, fun _ _ => rfl, Nat.min_le_left _ _, W⟩
theorem Hp.Ext.trans {h₁ h₂ h₃ : Hp} (a : h₁.Ext h₂) (b : h₂.Ext h₃) : h₁.Ext h₃ where
  next := Nat.le_trans a.next b.next
  get := fun i hi => by rw [b.get i (Nat.lt_of_lt_of_le hi a.next), a.get i hi]
  low := by have := a.low; have := b.low; have := a.next; omega
  wf := b.wf
theorem Hp.Ext.push (a : h.Ext h') (o : Blk) : h.Ext (h'.push o) where
  next := Nat.le_succ_of_le a.next
  get := fun i hi => by rw [a.wf.push_get, if_neg (by have := a.next; omega), a.get i hi]
  low := a.low
  wf := a.wf.push o
theorem Hp.Ext.put (a : h.Ext h') {b : Nat} (h1 : h.next ≤ b) (hb : b < h'.next) (o : Blk) : h.Ext (h'.put b o) where
  next := a.next
  get := fun i hi => by rw [a.wf.put_get hb, if_neg (by omega), a.get i hi]
  low := by
    show _ ≤ CQ h'.low b
    rw [B0]
    have := a.low; omega
  wf := a.wf.put hb o
def VT.Is (t : VT) (l : List Value) : Prop := ∀ i, i < l.length → t.has i ∧ t.get i = l.getD i noRes
theorem Ep : ∀ (vs : List Value) (t : VT) (l : List Value) (i : Nat), t.Is l → i + vs.length ≤ l.length ∨ i = l.length → ∃ t', B5 t i vs = some t' ∧ t'.Is (l.take i ++ vs ++ l.drop (i + vs.length))
  | [], t, l, i, ht, hi => ⟨t, rfl, by simpa using ht⟩
  | v :: vs, t, l, i, ht, hi => by
    have hi' : i ≤ l.length := by simp only [List.length_cons] at hi; omega
    have hh : ∀ j, j < i → t.has j := fun j hj => (ht j (by omega)).1
    have h1 : (t.lay i v).Is (l.take i ++ [v] ++ l.drop (i + 1)) := fun j hj => by
      have hl : (l.take i).length = i := by simp; omega
      refine ⟨VT.lay_has hh j ?_, ?_⟩
      · by_cases hji : j = i
        · exact .inl hji
        · right
          refine (ht j ?_).1
          simp only [List.length_append, List.length_cons, List.length_nil, List.length_drop, List.length_take] at hj
          omega
      · rw [VT.lay_get hh]
        by_cases hji : j = i
        · rw [if_pos hji, hji, List.getD_eq_getElem?_getD, List.append_assoc, List.getElem?_append_right (by omega)]
          simp [hl]
        · rw [if_neg hji]
          have hjl : j < l.length := by
            simp only [List.length_append, List.length_cons, List.length_nil, List.length_drop, List.length_take] at hj
            omega
          rw [(ht j hjl).2, List.getD_eq_getElem?_getD, List.getD_eq_getElem?_getD]
          congr 1
          rcases Nat.lt_or_ge j i with h2 | h2
          · rw [List.append_assoc, List.getElem?_append_left (by omega), List.getElem?_take, if_pos h2]
          · rw [List.getElem?_append_right (by simp only [List.length_append, hl, List.length_cons, List.length_nil]; omega), List.getElem?_drop]
            congr 1
            simp only [List.length_append, hl, List.length_cons, List.length_nil]; omega
    have hlen : (l.take i ++ [v] ++ l.drop (i + 1)).length = max l.length (i + 1) := by
      simp only [List.length_append, List.length_cons, List.length_nil, List.length_drop, List.length_take]; omega
    obtain ⟨t', h2, h3⟩ := Ep vs (t.lay i v) _ (i + 1) h1 (by simp only [List.length_cons] at hi; omega)
    refine ⟨t', ?_, ?_⟩
    · show (match t.set i v with | some t' => B5 t' (Nat.succ i) vs | none => none) = _
      rw [VT.lay_is hh]; exact h2
    · have e : (l.take i ++ [v] ++ l.drop (i + 1)).take (i + 1) ++ vs ++ (l.take i ++ [v] ++ l.drop (i + 1)).drop (i + 1 + vs.length) = l.take i ++ (v :: vs) ++ l.drop (i + (v :: vs).length) := by
        have hl : (l.take i ++ [v]).length = i + 1 := by simp; omega
        rw [List.take_left' hl]
        have e2 : i + 1 + vs.length = (l.take i ++ [v]).length + vs.length := by rw [hl]
        rw [e2, List.drop_length_add_append, List.drop_drop]
        have e3 : i + 1 + vs.length = i + (v :: vs).length := by simp only [List.length_cons]; omega
        rw [e3]; simp
      rw [e] at h3; exact h3
theorem cz : VT.mt.Is [] := fun i h => by cases h
def ofL (l : List Value) : VT := (B5 .mt 0 l).getD .mt
theorem HH (l : List Value) : B5 .mt 0 l = some (ofL l) ∧ (ofL l).Is l := by
  obtain ⟨t', h1, h2⟩ := Ep l .mt [] 0 cz (.inr rfl)
  unfold ofL
  rw [h1]
  refine ⟨rfl, ?_⟩
  simpa using h2
theorem VT.Is.of {t : VT} {l : List Value} (h : B5 .mt 0 l = some t) : t.Is l := by
  have := HH l
  rw [h] at this
  rw [Option.some.inj this.1]; exact this.2
def Hp.Row (h : Hp) (b el : Nat) (l : List Value) : Prop := ∃ c, h.bl.get b = .cells c l.length el ∧ c.Is l
def Hp.pushRow (h : Hp) (el : Nat) (l : List Value) : Hp := h.push (.cells (ofL l) l.length el)
theorem D3 (W : h.Wf) {el : Nat} {l : List Value} {K : Nat → Hp → R} : newRow h el l K = K h.next (h.pushRow el l) := by
  unfold newRow
  rw [(HH l).1]
  show CU h el (ofL l) (Bk l) K = _
  unfold CU
  rw [A0, Em W, Bf]; rfl
theorem Hp.Row.lt (W : h.Wf) {b el : Nat} {l : List Value} (r : h.Row b el l) : b < h.next := by
  obtain ⟨c, hc, _⟩ := r
  rcases Nat.lt_or_ge b h.next with h1 | h1
  · exact h1
  · rw [W.fresh b h1] at hc; cases hc
theorem Hp.Row.new (W : h.Wf) (el : Nat) (l : List Value) : (h.pushRow el l).Row h.next el l := ⟨ofL l, by unfold Hp.pushRow; rw [W.push_get, if_pos rfl], (HH l).2⟩
theorem Hp.Row.ext {b el : Nat} {l : List Value} (r : h.Row b el l) (W : h.Wf) (x : h.Ext h') : h'.Row b el l := by
  have := r.lt W
  obtain ⟨c, hc, hl⟩ := r
  exact ⟨c, (x.get b this).trans hc, hl⟩
theorem Hp.Row.push {b el : Nat} {l : List Value} (r : h.Row b el l) (W : h.Wf) (o : Blk) : (h.push o).Row b el l := r.ext W ((Hp.Ext.refl W).push o)
theorem Hp.Ext.pushRow (a : h.Ext h') (el : Nat) (l : List Value) : h.Ext (h'.pushRow el l) := a.push _
theorem Hp.Row.rowOf {b el : Nat} {l : List Value} (r : h.Row b el l) : ∃ c, rowOf h b = .ok c l.length el ∧ c.Is l := by
  obtain ⟨c, hc, hl⟩ := r
  exact ⟨c, by unfold Go.Proofs.Ythcfmklkbakkpaa.rowOf; rw [hc]; rfl, hl⟩
theorem Hp.Row.load1 {b el off : Nat} {l : List Value} (r : h.Row b el l) (ho : off < l.length) : load1 ⟨b, off, none⟩ h = .ok (l.getD off noRes) h := by
  obtain ⟨c, hc, hl⟩ := r.rowOf
  unfold Go.Proofs.Ythcfmklkbakkpaa.load1
  simp only [hc]
  rw [Bu.2 ho]
  simp only [BR, (hl off ho).2]
theorem Is.rowL {c : VT} {l : List Value} (hl : c.Is l) (off n : Nat) (ho : off + n ≤ l.length) : rowL c off n = (l.drop off).take n := by
  refine List.ext_getElem? fun i => ?_
  unfold Go.Proofs.Ythcfmklkbakkpaa.rowL
  rw [List.getElem?_map, List.getElem?_take, List.getElem?_drop]
  by_cases hi : i < n
  · rw [if_pos hi, List.getElem?_range hi]
    have := (hl (off + i) (by omega)).2
    rw [List.getD_eq_getElem?_getD, List.getElem?_eq_getElem (by omega)] at this
    show some (c.get (off + i)) = _
    rw [this, List.getElem?_eq_getElem (by omega)]; rfl
  · rw [if_neg hi, List.getElem?_eq_none (by simpa using hi)]; rfl
theorem Hp.Row.loadN {b el off n : Nat} {l : List Value} (r : h.Row b el l) (ho : off + n ≤ l.length) : loadN n ⟨b, off, none⟩ h = .ok (.agg ⟨(l.drop off).take n⟩) h := by
  obtain ⟨c, hc, hl⟩ := r.rowOf
  unfold Go.Proofs.Ythcfmklkbakkpaa.loadN
  simp only [hc, Nat.add_eq]
  rw [Az.2 ho]
  simp only [cond_true, EM, List.append_nil, Is.rowL hl off n ho]
theorem Hp.Row.src {b el off n c : Nat} {l : List Value} (r : h.Row b el l) (ho : off + n ≤ l.length) {sl : Nat} {k : List Value → R} : BL h 1 (.slice (some ⟨b, off, none⟩) sl c) n k = k ((l.drop off).take n) := by
  obtain ⟨cc, hc, hl⟩ := r.rowOf
  unfold BL
  simp only [hc]
  have e : Nat.mul n 1 = n := Nat.mul_one n
  rw [e]
  simp only [Nat.add_eq]
  rw [Az.2 ho]
  simp only [cond_true, EM, List.append_nil, Is.rowL hl off n ho]
def Hp.wr (h : Hp) (b off : Nat) (vs : List Value) : Hp := match rowOf h b with
  | .ok c s e => h.put b (.cells ((B5 c off vs).getD c) s e)
  | .no => h
def over (l : List Value) (off : Nat) (vs : List Value) : List Value := l.take off ++ vs ++ l.drop (off + vs.length)
theorem ER {l vs : List Value} {off : Nat} (ho : off + vs.length ≤ l.length) : (over l off vs).length = l.length := by
  unfold over
  simp only [List.length_append, List.length_take, List.length_drop]; omega
theorem Hp.Row.wr_is {b el off : Nat} {l vs : List Value} (r : h.Row b el l) (ho : off + vs.length ≤ l.length) : ∃ c, c.Is (over l off vs) ∧ h.wr b off vs = h.put b (.cells c (over l off vs).length el) ∧
    ∀ (W : h.Wf) (h256 : 256 ≤ b) (h1 : Bj vs = true) (K : Hp → R), CM ⟨b, off, none⟩ vs h K = K (h.wr b off vs) := by
  obtain ⟨c, hc, hl⟩ := r.rowOf
  obtain ⟨c', h2, h3⟩ := Ep vs c l off hl (.inl ho)
  have e : h.wr b off vs = h.put b (.cells c' l.length el) := by
    unfold Hp.wr
    rw [hc]
    simp only [h2, Option.getD_some]
  refine ⟨c', h3, by rw [ER ho]; exact e, fun W h256 h1 K => ?_⟩
  unfold CM
  simp only [hc, Nat.add_eq]
  rw [Bf, Az.2 ho, h1]
  simp only [cond_true, h2]
  rw [e, Ja W h256 (r.lt W)]
theorem Hp.Row.store {b el off : Nat} {l vs : List Value} (r : h.Row b el l) (W : h.Wf) (h256 : 256 ≤ b) (ho : off + vs.length ≤ l.length) (h1 : Bj vs = true) (K : Hp → R) : CM ⟨b, off, none⟩ vs h K = K (h.wr b off vs) := by
  obtain ⟨_, _, _, h4⟩ := r.wr_is ho
  exact h4 W h256 h1 K
theorem Hp.Row.wr_self {b el off : Nat} {l vs : List Value} (r : h.Row b el l) (W : h.Wf) (ho : off + vs.length ≤ l.length) : (h.wr b off vs).Row b el (over l off vs) := by
  obtain ⟨c, h3, e, _⟩ := r.wr_is ho
  exact ⟨c, by rw [e, W.put_get (r.lt W), if_pos rfl], h3⟩
theorem Hp.Row.wr_other {b el off b' el' : Nat} {l vs l' : List Value} (r : h.Row b el l) (W : h.Wf) (ho : off + vs.length ≤ l.length) (r' : h.Row b' el' l') (hb : b' ≠ b) : (h.wr b off vs).Row b' el' l' := by
  obtain ⟨c, h3, e, _⟩ := r.wr_is ho
  obtain ⟨c', hc', hl'⟩ := r'
  exact ⟨c', by rw [e, W.put_get (r.lt W), if_neg hb, hc'], hl'⟩
theorem Hp.Row.wr_ext {h0 : Hp} {b el off : Nat} {l vs : List Value} (r : h.Row b el l) (x : h0.Ext h) (hb : h0.next ≤ b) (ho : off + vs.length ≤ l.length) : h0.Ext (h.wr b off vs) := by
  obtain ⟨c, h3, e, _⟩ := r.wr_is ho
  rw [e]; exact x.put hb (r.lt x.wf) _
theorem Hp.Row.wr_next {b el off : Nat} {l vs : List Value} (r : h.Row b el l) (ho : off + vs.length ≤ l.length) : (h.wr b off vs).next = h.next := by
  obtain ⟨c, h3, e, _⟩ := r.wr_is ho
  rw [e]; rfl
def JN (v : Value) (h : Hp) : R := match DG v with
  | .ok a => load1 a h
  | .no => .no
theorem AP : AH x F e h = JN (x e) h := by
  unfold AH JN
  cases DG (x e) <;> rfl
theorem AX {a : Addr} : JN (.pointer (some a)) h = load1 a h := rfl
def J1 (n : Nat) (v : Value) (h : Hp) : R := match DG v with
  | .ok a => loadN n a h
  | .no => .no
theorem Aa {n : Nat} : AL n x F e h = J1 n (x e) h := rfl
theorem AU {n : Nat} {a : Addr} : J1 n (.pointer (some a)) h = loadN n a h := rfl
def storeR (n : Nat) (p v : Value) (h : Hp) : R := match DG p with
  | .ok a => bif Nat.beq (Bk (cellsOf v)) n then CM a (cellsOf v) h Co else .no
  | .no => .no
theorem Ad {n : Nat} : AM n x y F e h = storeR n (x e) (y e) h := by
  unfold AM storeR
  simp only [BR]
  cases DG (x e) <;> rfl
theorem Hp.Row.storeR {n b el off : Nat} {l : List Value} {v : Value} (r : h.Row b el l) (W : h.Wf) (h256 : 256 ≤ b) (hn : (cellsOf v).length = n) (ho : off + (cellsOf v).length ≤ l.length) (h1 : Bj (cellsOf v) = true) :
    storeR n (.pointer (some ⟨b, off, none⟩)) v h = .ok noRes (h.wr b off (cellsOf v)) := by
  show (bif Nat.beq (Bk (cellsOf v)) n then CM ⟨b, off, none⟩ (cellsOf v) h Co else .no) = _
  rw [Bf, A1.2 hn, r.store W h256 ho h1]; rfl
def Rw (v : Value) (h : Hp) : R := bif known v then newRow h 0 (cellsOf v) GG else .no
theorem TP : Bd x F e h = Rw (x e) h := by
  unfold Bd Rw
  simp only [BR]
theorem Rx (W : h.Wf) {v : Value} (hk : known v = true := by rfl) : Rw v h = .ok (.pointer (some ⟨h.next, 0, none⟩)) (h.pushRow 0 (cellsOf v)) := by
  unfold Rw
  rw [hk, cond_true, D3 W]; rfl
theorem JS (W : h.Wf) {n : Nat} {t : VT} : Au n t F e h = .ok (.pointer (some ⟨h.next, 0, none⟩)) (h.push (.cells t n 0)) := by
  unfold Au
  rw [Em W]; rfl
theorem Hp.Row.alloc (W : h.Wf) {n : Nat} {t : VT} {l : List Value} (ht : B5 .mt 0 l = some t) (hn : l.length = n) : (h.push (.cells t n 0)).Row h.next 0 l := ⟨t, by rw [W.push_get, if_pos rfl, hn], .of ht⟩
theorem Iq {n : Nat} : AD n x F e h = match DG (x e) with | .ok a => .ok (.pointer (some ⟨a.block, a.off + n, none⟩)) h | .no => .no := by
  unfold AD
  cases DG (x e) with
  | ok a => exact A0 _ _
  | no => rfl
def NU (n : Nat) (v : Value) (h : Hp) : R := match DG v with
  | .ok a => .ok (.pointer (some ⟨a.block, a.off + n, none⟩)) h
  | .no => .no
theorem AJ {n : Nat} : AD n x F e h = NU n (x e) h := Iq
theorem AN {n b off : Nat} : NU n (.pointer (some ⟨b, off, none⟩)) h = .ok (.pointer (some ⟨b, off + n, none⟩)) h := rfl
theorem Ss {n es b off i : Nat} (hi : i < n) : Ip n es (.ok ⟨b, off, none⟩) (.ok i) h = .ok (.pointer (some ⟨b, off + i * es, none⟩)) h := by
  show Bool.rec (motive := fun _ => R) .no (JZ ⟨b, off, none⟩ (Nat.mul i es) h) (Nat.blt i n) = _
  rw [Bu.2 hi]
  exact A0 _ _
def Cv (es : Nat) (s i : Value) (h : Hp) : R := match s with
  | .slice (some a) n _ => Ip n es (.ok a) (C9 i) h
  | _ => .no
theorem BG {es : Nat} : A2 es x y F e h = Cv es (x e) (y e) h := rfl
theorem B6 {n c es b off i : Nat} {k : IntKind} (hi : i < n) : Cv es (.slice (some ⟨b, off, none⟩) n c) (.int k (i : Int)) h = .ok (.pointer (some ⟨b, off + i * es, none⟩)) h := Ss hi
def lenSR (v : Value) (h : Hp) : R := match v with
  | .slice _ n _ => .ok (.int .i64 (.ofNat n)) h
  | .chan (some _) => .ok (.int .i64 (.ofNat 0)) h
  | _ => .no
theorem Ai : Am x F e h = lenSR (x e) h := rfl
theorem B1 {o : Option Addr} {n c : Nat} : lenSR (.slice o n c) h = .ok (.int .i64 (n : Int)) h := rfl
end
end
end Go.Proofs.Ythcfmklkbakkpaa
set_option linter.unusedVariables false
set_option linter.unusedSimpArgs false
namespace Go.Proofs.Ythcfmklkbakkpaa
noncomputable section
open Go
section
variable {F : CallF} {e : Env} {h h' : Hp} {x y : O}
def VD : X → Bool
  | .norm _ _ => false
  | .no => false
  | _ => true
theorem Ky {body : C} {I : Nat → Env → Hp → Prop} {Q : X → Prop} (N : Nat)
    (step : ∀ i e h, I i e h → (i < N ∧ ∃ e' h', body F e h = .norm e' h' ∧ I (i + 1) e' h') ∨ (VD (body F e h) = true ∧ Q (body F e h))) :
    ∀ n i e h, N - i < n → I i e h → Q (iter body n F e h)
  | 0, i, e, h, hn, _ => absurd hn (Nat.not_lt_zero _)
  | n + 1, i, e, h, hn, hi => by
    unfold iter
    rcases step i e h hi with ⟨h1, e', h', h2, h3⟩ | ⟨h1, h2⟩
    · rw [h2]
      exact Ky N step n (i + 1) e' h' (by omega) h3
    · cases hb : body F e h with
      | norm e' h' => rw [hb] at h1; cases h1
      | no => rw [hb] at h1; cases h1
      | exit i e' h' => rw [hb] at h2; exact h2
      | ret e' h' => rw [hb] at h2; exact h2
theorem B8 {body : C} (I : Nat → Env → Hp → Prop) (Q : X → Prop) (N : Nat) (hN : N < 8796093022208)
    (step : ∀ i e h, I i e h → (i < N ∧ ∃ e' h', body F e h = .norm e' h' ∧ I (i + 1) e' h') ∨ (VD (body F e h) = true ∧ Q (body F e h))) (h0 : I 0 e h) : Q (Ay body F e h) :=
  Ky N step rounds 0 e h (by show N - 0 < 8796093022208; omega) h0
theorem Cg {n : Nat} (h : n ≤ 9223372036854775807) : IntKind.i64.wrap (n : Int) = n := Fd h
theorem RX {n : Int} (h0 : 0 ≤ n) (h : n ≤ 9223372036854775807) : IntKind.i64.wrap n = n := by
  obtain ⟨m, rfl⟩ := Int.eq_ofNat_of_zero_le h0
  exact Fd (by omega)
def bv (n : Nat) : Value := .int .u8 (n : Int)
theorem Hz : ∀ l : List Nat, bytesOf (l.map bv) = some (l.map UInt8.ofNat)
  | [] => rfl
  | n :: l => by
    show (match bytesOf (l.map bv) with | some bs => forceN n fun n => some (UInt8.ofNat n :: bs) | none => none) = _
    rw [Hz l]
    exact A0 _ _
theorem Gt : ∀ l : List Nat, Bj (l.map bv) = true
  | [] => rfl
  | n :: l => Gt l
def Hp.Bytes (h : Hp) (v : Value) (l : List Nat) : Prop := (v = .slice none 0 0 ∧ l = []) ∨ ∃ b off c el L, v = .slice (some ⟨b, off, none⟩) l.length c ∧ h.Row b el L ∧ off + l.length ≤ L.length ∧ (L.drop off).take l.length = l.map bv
theorem Hp.Bytes.ext {v : Value} {l : List Nat} (b : h.Bytes v l) (W : h.Wf) (x : h.Ext h') : h'.Bytes v l := by
  rcases b with ⟨h1, h2⟩ | ⟨b, off, c, el, L, h1, h2, h3, h4⟩
  · exact .inl ⟨h1, h2⟩
  · exact .inr ⟨b, off, c, el, L, h1, h2.ext W x, h3, h4⟩
theorem Hp.Bytes.src {v : Value} {l : List Nat} (b : h.Bytes v l) {n : Nat} (hn : n = l.length) (k : List Value → R) : BL h 1 v n k = k (l.map bv) := by
  subst hn
  rcases b with ⟨h1, h2⟩ | ⟨b, off, c, el, L, h1, h2, h3, h4⟩
  · rw [h1, h2]; rfl
  · rw [h1, h2.src h3, h4]
theorem Hp.Bytes.shape {v : Value} {l : List Nat} (b : h.Bytes v l) : ∃ a c, v = .slice a l.length c := by
  rcases b with ⟨h1, h2⟩ | ⟨b, off, c, el, L, h1, h2, h3, h4⟩
  · exact ⟨none, 0, by rw [h1, h2]; rfl⟩
  · exact ⟨_, _, h1⟩
def dM (v : Value) (h : Hp) : R := match v with
  | .slice a n c => BL h 1 (.slice a n c) n fun cs => match bytesOf cs with
    | some bs => .ok (.string ⟨⟨bs⟩⟩) h
    | none => .no
  | _ => .no
theorem On : EZ x F e h = dM (x e) h := rfl
theorem Hp.Bytes.str {v : Value} {l : List Nat} (b : h.Bytes v l) : dM v h = .ok (.string ⟨⟨l.map UInt8.ofNat⟩⟩) h := by
  obtain ⟨a, c, rfl⟩ := b.shape
  show BL h 1 (.slice a l.length c) l.length (fun cs => match bytesOf cs with
    | some bs => .ok (.string ⟨⟨bs⟩⟩) h
    | none => .no) = _
  rw [b.src rfl, Hz]
def bP (f : List UInt8 → List UInt8 → Bool) (a b : Value) (h : Hp) : R := RL f a b h
theorem Tx {f : List UInt8 → List UInt8 → Bool} : HF f x y F e h = bP f (x e) (y e) h := rfl
theorem SZ {f : List UInt8 → List UInt8 → Bool} {a b : List UInt8} : bP f (.string ⟨⟨a⟩⟩) (.string ⟨⟨b⟩⟩) h = .ok (.bool (f a b)) h := FW
theorem Hp.Bytes.len {v : Value} {l : List Nat} (b : h.Bytes v l) : lenSR v h = .ok (.int .i64 (l.length : Int)) h := by
  obtain ⟨a, c, rfl⟩ := b.shape; rfl
theorem Hp.Bytes.at {v : Value} {l : List Nat} (b : h.Bytes v l) {i : Nat} (hi : i < l.length) : ∃ a, Cv 1 v (.int .i64 (i : Int)) h = .ok (.pointer (some a)) h ∧ JN (.pointer (some a)) h = .ok (bv (l.getD i 0)) h := by
  rcases b with ⟨h1, h2⟩ | ⟨b, off, c, el, L, h1, h2, h3, h4⟩
  · rw [h2] at hi; cases hi
  · refine ⟨⟨b, off + i * 1, none⟩, by rw [h1]; exact B6 hi, ?_⟩
    rw [AX, h2.load1 (by omega)]
    have := congrArg (fun m => m[i]?) h4
    simp only [List.getElem?_take, List.getElem?_drop, if_pos hi, List.getElem?_map] at this
    rw [List.getD_eq_getElem?_getD, Nat.mul_one, this, List.getD_eq_getElem?_getD, List.getElem?_eq_getElem hi]; rfl
def FK (es eb en : Nat) (s v : Value) (h : Hp) : R := Eu es eb en s v h
theorem CC {es eb en : Nat} : Bb es eb en x y F e h = FK es eb en (x e) (y e) h := rfl
theorem Cr {cs : List Value} {k : List Value → R} : DT cs e k [] = k cs := CA _ _
theorem Bo {cs : List Value} {k : List Value → R} {off size : Nat} {rest : List (Nat × Nat × O)} (hk : known (x e) = true := by rfl) : DT cs e k ((off, size, x) :: rest) = (if (cellsOf (x e)).length = size then (if off + size ≤ cs.length then DT (over cs off (cellsOf (x e))) e k rest else .no) else .no) := by
  have e0 : DT cs e k ((off, size, x) :: rest) = (bif known (x e) then (bif Nat.beq (Bk (cellsOf (x e))) size then (bif Nat.ble (Nat.add off size) (Bk cs) then DT (lay cs off (cellsOf (x e))) e k rest else .no) else .no) else .no) := BR _ _
  have e1 : DT cs e k ((off, size, x) :: rest) = (bif Nat.beq (Bk (cellsOf (x e))) size then (bif Nat.ble (Nat.add off size) (Bk cs) then DT (lay cs off (cellsOf (x e))) e k rest else .no) else .no) := by rw [e0, hk]; rfl
  rw [e1, Bf, Bf, lay_is]
  by_cases h1 : (cellsOf (x e)).length = size
  · rw [if_pos h1, A1.2 h1]
    by_cases h2 : off + size ≤ cs.length
    · rw [if_pos h2, show Nat.ble (Nat.add off size) cs.length = true from Az.2 h2]; rfl
    · rw [if_neg h2]
      have : Nat.ble (Nat.add off size) cs.length = false := by
        cases e : Nat.ble (Nat.add off size) cs.length
        · rfl
        · exact absurd (Az.1 e) h2
      rw [this]; rfl
  · rw [if_neg h1]
    have : Nat.beq (cellsOf (x e)).length size = false := by
      cases e : Nat.beq (cellsOf (x e)).length size
      · rfl
      · exact absurd (A1.1 e) h1
    rw [this]; rfl
theorem Bv {k : IntKind} {n : Int} : cellsOf (.int k n) = [.int k n] := rfl
theorem Qs {l vs : List Value} (hl : l.length = vs.length) : over l 0 vs = vs := by
  unfold over
  rw [List.take_zero, List.nil_append, List.drop_of_length_le (by omega), List.append_nil]
theorem En {zero : List Value} {ps : List (Nat × Nat × O)} : A8 zero ps F e h = DT zero e (fun cs => .ok (.agg ⟨cs⟩) h) ps := rfl
theorem DM {n : Nat} {zero : List Value} {ps : List (Nat × Nat × O)} : Ar n zero ps F e h = DT zero e (fun cs => newRow h 0 cs (Eb n n)) ps := rfl
def Hp.marked (h : Hp) : Hp := { next := h.next, low := h.low, high := h.high, mark := h.next, bl := h.bl }
def Hp.quiet (h : Hp) : Hp := { next := h.next, low := h.next, high := 0, mark := h.mark, bl := h.bl }
def Hp.back (h h' : Hp) : Hp := { next := h'.next, low := CQ h.low h'.low, high := DK h.high h'.high, mark := h.mark, bl := h'.bl }
theorem Bc {k : C} : BH k F e h = k F e h.marked := rfl
theorem Hp.Wf.marked (W : h.Wf) : h.marked.Wf := ⟨W.big, W.has, W.fresh⟩
theorem Hp.Wf.quiet (W : h.Wf) : h.quiet.Wf := ⟨W.big, W.has, W.fresh⟩
theorem Hp.Ext.marked {h0 : Hp} (x : h0.Ext h) : h0.Ext h.marked := ⟨x.next, x.get, x.low, x.wf.marked⟩
theorem Hp.Row.same {b el : Nat} {l : List Value} (r : h.Row b el l) (hb : h'.bl = h.bl) : h'.Row b el l := by
  obtain ⟨c, hc, hl⟩ := r
  exact ⟨c, by rw [hb]; exact hc, hl⟩
theorem Hp.Ext.back (x : h.quiet.Ext h') : h.Ext (h.back h') where
  next := x.next
  get := x.get
  low := by
    show _ ≤ CQ h.low h'.low
    rw [B0]
    have h1 : min h.next h.next ≤ h'.low := x.low
    omega
  wf := ⟨x.wf.big, x.wf.has, x.wf.fresh⟩
theorem Gj {f : OpF} {m : Qm} {v : Value} (hf : f F e h.quiet = .ok v h') (x : h.quiet.Ext h') (hm : h.mark ≤ h.next) : Aj m f F e h = .ok v (h.back h') := by
  have h1 : min h.next h.next ≤ h'.low := x.low
  have hq : qOk m h h'.low = true := by
    cases m with
    | strong => exact Az.2 (by omega)
    | weak => exact Az.2 (by omega)
    | free => rfl
  show (match f F e h.quiet with | .ok v h' => bif qOk m h h'.low then DH h v h' else .no | .no => .no) = _
  rw [hf]
  simp only [hq, cond_true]
  unfold DH
  simp only [A0]; rfl
theorem GH {f : OpF} {v : Value} (hf : f F e h.quiet = .ok v h') : Aj .free f F e h = .ok v (h.back h') := by
  show (match f F e h.quiet with | .ok v h' => bif qOk .free h h'.low then DH h v h' else .no | .no => .no) = _
  rw [hf]
  show DH h v h' = _
  unfold DH
  simp only [A0]; rfl
def dF (v : Value) (k : C) (F : CallF) (e : Env) (h : Hp) : X := match blkOf v with
  | .ok b => bif Nat.blt b h.mark then k F e h else .no
  | .no => k F e h
theorem Fh {k : C} : CR x k F e h = dF (x e) k F e h := rfl
theorem Dp {b off : Nat} {k : C} (hb : b < h.mark) : dF (.pointer (some ⟨b, off, none⟩)) k F e h = k F e h := by
  show (bif Nat.blt b h.mark then k F e h else .no) = _
  rw [Bu.2 hb]; rfl
theorem Eg {k : C} : Bi x [] k F e h = k F e h := by
  unfold Bi
  cases blkOf (x e) <;> rfl
theorem Hp.Ext.quiet {h0 : Hp} (x : h0.Ext h) : h0.Ext h.quiet := ⟨x.next, x.get, by show _ ≤ h.next; have := x.next; omega, x.wf.quiet⟩
theorem Hp.Ext.back2 {h0 : Hp} (x : h0.Ext h) (y : h0.Ext h') : h0.Ext (h.back h') where
  next := y.next
  get := y.get
  low := by
    show _ ≤ CQ h.low h'.low
    rw [B0]
    have := x.low
    have := y.low
    omega
  wf := ⟨y.wf.big, y.wf.has, y.wf.fresh⟩
end
end
end Go.Proofs.Ythcfmklkbakkpaa
set_option linter.unusedVariables false
namespace Go.Proofs.Ythcfmklkbakkpaa
noncomputable section
open Go Go.RowKit Go.WideShapes Go.ChangeShapes
def sliceAt (b : Nat) (a : Addr) (n c : Nat) : Phi := fun i => if i = b then some { blk := a.block, off := a.off, sz := c, room := c, es := 1, inp := true } else none
theorem Oz {P : Program} {W : World} {base t e : Nat} {v : Value} (ht : P.underlying t = some (.slice e)) (h : Value.okWide P W .any base t v) :
    v = .slice none 0 0 ∨ ∃ a n c, v = .slice (some a) n c ∧ n ≤ c ∧ a.spot = none ∧ a.block < W.heap.size := by
  unfold Value.okWide at h
  rw [ht] at h
  simp only at h
  unfold Cell.okWide at h
  rw [ht] at h
  have h : Cell.ok P W .any base t v := by cases v <;> exact h
  unfold Cell.ok at h
  rw [ht] at h
  split at h <;> first | (exact h.elim; done) | skip
  all_goals (rename_i e1 _; cases e1)
  · exact .inl rfl
  · obtain ⟨h1, _, h2⟩ := h
    obtain ⟨_, h3, row, cells, h4, _⟩ := h2
    refine .inr ⟨_, _, _, rfl, h1, h3, ?_⟩
    unfold World.shape? at h4
    split at h4
    · rename_i hb; exact (Array.getElem?_eq_some_iff.1 hb).1
    all_goals first | (cases h4; done) | (rename_i hb; exact (Array.getElem?_eq_some_iff.1 hb).1)
theorem M0 {P : Program} {W : World} {base t e : Nat} {v : Value} (ht : P.underlying t = some (.slice e)) (h : Cell.okWide P W .any base t v) :
    v = .slice none 0 0 ∨ ∃ a n c, v = .slice (some a) n c ∧ n ≤ c ∧ a.spot = none ∧ a.block < W.heap.size :=
  Oz (base := base) ht (by unfold Value.okWide; rw [ht]; exact h)
theorem NF {P : Program} {W : World} {base t : Nat} {v : Value} {fs : Array Field} {ts : List Nat} (ht : P.underlying t = some (.struct fs)) (hts : P.cellTypes P.depth t = some ts) (hn : P.cellsOf t = ts.length) (h : Value.okWide P W .any base t v) :
    ∃ l : List Value, v = .agg ⟨l⟩ ∧ l.length = ts.length ∧ ∀ (i : Nat) (u : Nat) (x : Value), ts[i]? = some u → l[i]? = some x → Cell.okWide P W .any base u x := by
  unfold Value.okWide at h
  rw [ht] at h
  obtain ⟨cs, rfl, hsz, ts', hts', _, hc⟩ := h
  rw [hts] at hts'
  cases hts'
  cases cs with | mk l =>
  refine ⟨l, rfl, by rw [← hn]; exact hsz, fun i u x hu hx => ?_⟩
  obtain ⟨u', h1, h2⟩ := hc i x (by simpa using hx)
  have hi : i < ts.length := (List.getElem?_eq_some_iff.1 hu).1
  rw [Nat.mod_eq_of_lt hi, hu] at h1
  cases h1
  exact h2
end
end Go.Proofs.Ythcfmklkbakkpaa
set_option linter.unusedVariables false
set_option linter.unusedSimpArgs false
namespace Go.Proofs.Ythcfmklkbakkpaa
noncomputable section
open Go Go.RowKit Go.WideShapes Go.ChangeShapes
theorem UF {P : Program} {ty : TTy} {bs : FT} (hC : ∀ n, Ca P ty (call bs n)) {n f : Nat} {xs args : List Value} {φ : Phi} {w : World} {h0 h' : Hp} (hr : call bs n f xs h0 = .ok (.bool true) h') (x : h0.Ext h') (hl : h0.low = h0.next)
    (ha : RelL φ xs args) (H : RelW ty φ nil h0 w) : Calls P f ⟨args⟩ w fun e w' => e = .returned (.bool true) ∧ Below w.heap.size w w' := by
  obtain ⟨_, hc⟩ := hC n f xs h0 _ h' hr
  refine (hc φ w args ha H).mono fun e w' ⟨v', ψ, he, hv, _, ev⟩ => ?_
  have := hv.bool_inv
  subst this
  refine ⟨he, ⟨ev.os, ev.tape, ev.output, ev.size, fun k hk => ev.frame k hk fun i p hp hn h1 _ _ => ?_⟩⟩
  have h2 := (H.dom i p hp).1
  have h3 := x.low
  omega
theorem JD : ∀ (n i : Nat), i + 1 < 2 ^ n → (D7 n).has i
  | 0, i, h => by rw [Nat.pow_zero] at h; omega
  | n + 1, 0, _ => trivial
  | n + 1, k + 1, h => by
    show (BT.nd .dead (D7 n) (D7 n)).has (k + 1)
    rw [BT.has_succ]
    have h1 : k / 2 + 1 < 2 ^ n := by
      have : 2 ^ (n + 1) = 2 * 2 ^ n := by rw [Nat.pow_succ, Nat.mul_comm]
      omega
    split <;> exact JD n _ h1
def HP (L : List Value) : Blk := .cells (ofL L) L.length 0
def inB : List (List Value) → Nat → BT → BT
  | [], _, t => t
  | L :: Ls, i, t => inB Ls (i + 1) (t.lay i (HP L))
theorem Jx : ∀ (Ls : List (List Value)) (i : Nat) (t : BT), (∀ j, j < 256 → t.has j) → i + Ls.length ≤ 256 →
    (∀ j, j < 256 → (inB Ls i t).has j) ∧ (∀ k L, Ls[k]? = some L → (inB Ls i t).get (i + k) = HP L) ∧ (∀ j, j < i ∨ i + Ls.length ≤ j → (inB Ls i t).get j = t.get j)
  | [], i, t, ht, _ => ⟨ht, (fun k L h => by cases h), fun _ _ => rfl⟩
  | L :: Ls, i, t, ht, hl => by
    have hl' : i + 1 + Ls.length ≤ 256 := by simp only [List.length_cons] at hl; omega
    have hi : ∀ j, j < i → t.has j := fun j hj => ht j (by omega)
    obtain ⟨a, b, c⟩ := Jx Ls (i + 1) (t.lay i (HP L)) (fun j hj => BT.lay_has hi j (.inr (ht j hj))) hl'
    refine ⟨a, fun k M h => ?_, fun j hj => ?_⟩
    · cases k with
      | zero =>
        obtain rfl : L = M := Option.some.inj h
        show (inB Ls (i + 1) (t.lay i (HP L))).get i = _
        rw [c i (.inl (Nat.lt_succ_self i)), BT.lay_get hi, if_pos rfl]
      | succ k =>
        have := b k M h
        rw [show i + 1 + k = i + (k + 1) by omega] at this
        exact this
    · show (inB Ls (i + 1) (t.lay i (HP L))).get j = _
      simp only [List.length_cons] at hj
      rw [c j (by omega), BT.lay_get hi, if_neg (by omega)]
def inH (Ls : List (List Value)) : Hp := { next := 256, low := 256, high := 0, mark := 256, bl := inB Ls 0 (D7 9) }
theorem II (j : Nat) (hj : j < 256) : (D7 9).has j := JD 9 j (by omega)
theorem Jy {Ls : List (List Value)} (hl : Ls.length ≤ 256) {i : Nat} {L : List Value} (h : Ls[i]? = some L) : (inH Ls).bl.get i = HP L := by
  have := (Jx Ls 0 (D7 9) II (by omega)).2.1 i L h
  rwa [Nat.zero_add] at this
theorem P0 {Ls : List (List Value)} (hl : Ls.length ≤ 256) : (inH Ls).Wf where
  big := Nat.le_refl _
  has := (Jx Ls 0 (D7 9) II (by omega)).1
  fresh := fun i hi => by
    have hi : 256 ≤ i := hi
    have := (Jx Ls 0 (D7 9) II (by omega)).2.2 i (.inr (by omega))
    show (inB Ls 0 (D7 9)).get i = _
    rw [this]; exact G8 9 i
theorem Hg {Ls : List (List Value)} (hl : Ls.length ≤ 256) {i : Nat} {L : List Value} (h : Ls[i]? = some L) : (inH Ls).Row i 0 L := ⟨ofL L, Jy hl h, (HH L).2⟩
def HI (W : World) (a : Addr) (L : List Value) : Prop := ∃ cs t fr, W.heap[a.block]? = some (.cells cs t fr) ∧ (∀ j, j < L.length → cs[a.off + j]? = some (L.getD j noRes)) ∧ ∀ j, j < L.length → ¬ (fr.1 ≤ a.off + j ∧ a.off + j < fr.2)
def Iu (a : Addr) (c : Nat) : Pl := { blk := a.block, off := if c = 0 then 0 else a.off, sz := c, room := c, es := 1, inp := true }
def HO (ps : List (Option Pl)) : Phi := fun i => (ps[i]?).getD none
theorem Qy {W : World} {ty : TTy} {φ : Phi} {a : Addr} {L L' : List Value} (h : HI W a L') (hL : RelL φ L L') : RelB ty φ (Iu a L.length) (HP L) W.heap[a.block]? := by
  obtain ⟨cs, t, fr, hb, hc, hf⟩ := h
  have hlen : L'.length = L.length := hL.length
  rw [hlen] at hc hf
  rw [hb]
  refine .cells { kind := ⟨rfl, .inl ⟨rfl, rfl, rfl, .inr rfl⟩⟩, room := Nat.le_refl _, fits := ?_, loose := .inr ⟨rfl, rfl, fun o h1 h2 => ?_⟩, cell := fun j hj => ?_ }
  · show (if L.length = 0 then 0 else a.off) + L.length ≤ cs.size
    rcases Nat.eq_zero_or_pos L.length with h0 | h0
    · rw [if_pos h0, h0]; exact Nat.zero_le _
    · rw [if_neg (by omega)]
      have := (Array.getElem?_eq_some_iff.1 (hc (L.length - 1) (by omega))).1
      omega
  · have h1 : (if L.length = 0 then 0 else a.off) ≤ o := h1
    have h2 : o < (if L.length = 0 then 0 else a.off) + L.length := h2
    rcases Nat.eq_zero_or_pos L.length with h0 | h0
    · rw [if_pos h0] at h2; omega
    · rw [if_neg (by omega)] at h1 h2
      have := hf (o - a.off) (by omega)
      have e : a.off + (o - a.off) = o := by omega
      rw [e] at this; exact this
  · have h1 := hc j hj
    obtain ⟨v', hv1, hv2⟩ := hL.get j (L.getD j noRes) (by rw [List.getD_eq_getElem?_getD, List.getElem?_eq_getElem hj]; rfl)
    refine ⟨v', ?_, ?_⟩
    · show cs[(if L.length = 0 then 0 else a.off) + j]? = _
      rw [if_neg (by omega), h1, List.getD_eq_getElem?_getD, hv1]; rfl
    · rw [((HH L).2 j hj).2]; exact hv2
theorem HI.lt {W : World} {a : Addr} {L : List Value} (h : HI W a L) : a.block < W.heap.size := by
  obtain ⟨cs, t, fr, hb, _⟩ := h
  exact (Array.getElem?_eq_some_iff.1 hb).1
theorem YA {W : World} {ty : TTy} {ps : List (Option Pl)} {Ls : List (List Value)} (h256 : Ls.length ≤ 256)
    (h : ∀ i p, HO ps i = some p → ∃ a L, p = Iu a L.length ∧ Ls[i]? = some L ∧ a.block < W.heap.size ∧ RelB ty (HO ps) (Iu a L.length) (HP L) W.heap[a.block]?) : RelW ty (HO ps) nil (inH Ls) W where
  dom := fun i p e => by
    obtain ⟨a, L, rfl, h1, h2, _⟩ := h i p e
    have h3 := (List.getElem?_eq_some_iff.1 h1).1
    exact ⟨by show i < 256; omega, h2⟩
  inj := fun i j p q h1 h2 _ _ _ _ hor => by
    obtain ⟨a, L, rfl, _⟩ := h i p h1
    obtain ⟨b, M, rfl, _⟩ := h j q h2
    rcases hor with h3 | h3 <;> cases h3
  row := fun i p e _ => by
    obtain ⟨a, L, rfl, h1, _, h3⟩ := h i p e
    rw [Jy h256 h1]; exact h3
  fresh := (P0 h256).fresh
  kind := fun i p c s e hp hc => by
    obtain ⟨a, L, rfl, h1, _, h3⟩ := h i p hp
    rw [Jy h256 h1] at hc
    have hc : Blk.cells (ofL L) L.length 0 = .cells c s e := hc
    cases hc
    exact ⟨rfl, .inl ⟨rfl, rfl, rfl, .inr rfl⟩⟩
  inp := fun i p e _ => by
    obtain ⟨a, L, rfl, h1, _⟩ := h i p e
    have h3 := (List.getElem?_eq_some_iff.1 h1).1
    omega
theorem RC {φ : Phi} {a : Addr} {n c i : Nat} (hs : a.spot = none) (hn : n ≤ c) (hp : φ i = some (Iu a c)) : RelV φ (.slice (some ⟨i, 0, none⟩) n c) (.slice (some a) n c) := by
  refine .slice hn ⟨rfl, hs, _, hp, rfl, ?_⟩
  rcases Nat.eq_zero_or_pos c with h | h
  · exact .inr ⟨h, .inl h⟩
  · refine .inl ⟨h, ?_, .inl rfl⟩
    show a.off = (if c = 0 then 0 else a.off) + 0
    rw [if_neg (by omega), Nat.add_zero]
def ints (k : IntKind) (Z : List Int) : List Value := Z.map (.int k)
def PH (k : IntKind) (W : World) (v : Value) (zs : List Int) : Prop := (v = .slice none 0 0 ∧ zs = []) ∨ ∃ (a : Addr) (n c : Nat) (Z : List Int), v = .slice (some a) n c ∧ n ≤ c ∧ a.spot = none ∧ Z.length = c ∧ zs = Z.take n ∧ HI W a (ints k Z)
def Hp.Vals (h : Hp) (v : Value) (xs : List Value) : Prop := (v = .slice none 0 0 ∧ xs = []) ∨ ∃ b off c el L, v = .slice (some ⟨b, off, none⟩) xs.length c ∧ h.Row b el L ∧ off + xs.length ≤ L.length ∧ (L.drop off).take xs.length = xs
def N9 (W : World) (L : List Value) (q : Option Pl) : Prop := q = none ∨ ∃ a, q = some (Iu a L.length) ∧ HI W a L
theorem PH.rel {k : IntKind} {W : World} {v : Value} {zs : List Int} (b : PH k W v zs) (i : Nat) : ∃ (u : Value) (q : Option Pl) (Z : List Int), N9 W (ints k Z) q ∧ (∀ φ : Phi, φ i = q → RelV φ u v) ∧ (∀ h : Hp, h.Row i 0 (ints k Z) → h.Vals u (ints k zs)) := by
  rcases b with ⟨rfl, rfl⟩ | ⟨a, n, c, Z, rfl, hn, hs, hZ, rfl, hr⟩
  · exact ⟨.slice none 0 0, none, [], .inl rfl, fun _ _ => .slice0, fun _ _ => .inl ⟨rfl, rfl⟩⟩
  · have hlen : (ints k Z).length = c := by unfold ints; rw [List.length_map]; exact hZ
    have hlen2 : (ints k (Z.take n)).length = n := by unfold ints; rw [List.length_map, List.length_take]; omega
    refine ⟨.slice (some ⟨i, 0, none⟩) n c, some (Iu a (ints k Z).length), Z, .inr ⟨a, rfl, hr⟩, fun φ hφ => RC hs hn (by rw [hφ, hlen]), fun h hrow => .inr ⟨i, 0, c, 0, ints k Z, ?_, hrow, ?_, ?_⟩⟩
    · rw [hlen2]
    · rw [hlen2, hlen]; omega
    · rw [hlen2, List.drop_zero]; unfold ints; rw [List.map_take]
end
end Go.Proofs.Ythcfmklkbakkpaa
set_option linter.unusedVariables false
set_option linter.unusedSimpArgs false
namespace Go.Proofs.Ythcfmklkbakkpaa
noncomputable section
open Go Go.RowKit Go.ChangeShapes
theorem sT : type_of% (And.intro @Br (And.intro @Ck (And.intro @Bh (And.intro @Be (And.intro @BQ (And.intro @Dk (And.intro @NL (And.intro @GM (And.intro @Bs (And.intro @Cm (And.intro @B3 (And.intro @Ba (And.intro @BB (And.intro @Jc (And.intro @Ds (And.intro @EJ (And.intro @C2 (And.intro @BJ (And.intro @BM (And.intro @Bz @AG)))))))))))))))))))) := And.intro @Br (And.intro @Ck (And.intro @Bh (And.intro @Be (And.intro @BQ (And.intro @Dk (And.intro @NL (And.intro @GM (And.intro @Bs (And.intro @Cm (And.intro @B3 (And.intro @Ba (And.intro @BB (And.intro @Jc (And.intro @Ds (And.intro @EJ (And.intro @C2 (And.intro @BJ (And.intro @BM (And.intro @Bz @AG)))))))))))))))))))
theorem gD : type_of% (And.intro @U0 (And.intro @JI (And.intro @JH (And.intro @JG (And.intro @JF (And.intro @HN (And.intro @Li (And.intro @LJ (And.intro @Ie @HS))))))))) := And.intro @U0 (And.intro @JI (And.intro @JH (And.intro @JG (And.intro @JF (And.intro @HN (And.intro @Li (And.intro @LJ (And.intro @Ie @HS))))))))
section
variable {F : CallF} {e : Env} {h h' : Hp} {x y : O}
theorem Hp.Vals.ext {v : Value} {l : List Value} (b : h.Vals v l) (W : h.Wf) (x : h.Ext h') : h'.Vals v l := by
  rcases b with h1 | ⟨b, off, c, el, L, h1, h2, h3⟩
  · exact .inl h1
  · exact .inr ⟨b, off, c, el, L, h1, h2.ext W x, h3⟩
theorem Hp.Vals.same {v : Value} {l : List Value} (b : h.Vals v l) (hb : h'.bl = h.bl) : h'.Vals v l := by
  rcases b with h1 | ⟨b, off, c, el, L, h1, h2, h3⟩
  · exact .inl h1
  · exact .inr ⟨b, off, c, el, L, h1, h2.same hb, h3⟩
theorem Hp.Vals.src {v : Value} {l : List Value} (b : h.Vals v l) {n : Nat} (hn : n = l.length) (k : List Value → R) : BL h 1 v n k = k l := by
  subst hn
  rcases b with ⟨h1, h2⟩ | ⟨b, off, c, el, L, h1, h2, h3, h4⟩
  · rw [h1, h2]; rfl
  · rw [h1, h2.src h3, h4]
theorem Hp.Vals.shape {v : Value} {l : List Value} (b : h.Vals v l) : ∃ a c, v = .slice a l.length c := by
  rcases b with ⟨h1, h2⟩ | ⟨b, off, c, el, L, h1, h2, h3, h4⟩
  · exact ⟨none, 0, by rw [h1, h2]; rfl⟩
  · exact ⟨_, _, h1⟩
theorem Hp.Vals.len {v : Value} {l : List Value} (b : h.Vals v l) : lenSR v h = .ok (.int .i64 (l.length : Int)) h := by
  obtain ⟨a, c, rfl⟩ := b.shape; rfl
theorem Hp.Vals.lenV {v : Value} {l : List Value} (b : h.Vals v l) : lenV v = .ok l.length := by
  obtain ⟨a, c, rfl⟩ := b.shape; rfl
theorem Hp.Vals.at {v : Value} {l : List Value} (b : h.Vals v l) {i : Nat} (hi : i < l.length) : ∃ a, Cv 1 v (.int .i64 (i : Int)) h = .ok (.pointer (some a)) h ∧ JN (.pointer (some a)) h = .ok (l.getD i noRes) h := by
  rcases b with ⟨h1, h2⟩ | ⟨b, off, c, el, L, h1, h2, h3, h4⟩
  · rw [h2] at hi; cases hi
  · refine ⟨⟨b, off + i * 1, none⟩, by rw [h1]; exact B6 hi, ?_⟩
    rw [AX, h2.load1 (by omega)]
    have := congrArg (fun m => m[i]?) h4
    simp only [List.getElem?_take, List.getElem?_drop, if_pos hi] at this
    rw [List.getD_eq_getElem?_getD, Nat.mul_one, this, List.getD_eq_getElem?_getD]
theorem Hp.Vals.bytes {v : Value} {l : List Nat} (b : h.Vals v (l.map bv)) : h.Bytes v l := by
  rcases b with ⟨h1, h2⟩ | ⟨b, off, c, el, L, h1, h2, h3, h4⟩
  · exact .inl ⟨h1, by cases l with
      | nil => rfl
      | cons a l => cases h2⟩
  · rw [List.length_map] at h1 h3 h4
    exact .inr ⟨b, off, c, el, L, h1, h2, h3, h4⟩
theorem Hp.Vals.cut {v : Value} {l : List Value} (b : h.Vals v l) {n : Nat} (hn : n < l.length) : ∃ o c, v = .slice (some o) l.length c ∧ h.Vals (.slice (some o) n c) (l.take n) := by
  rcases b with ⟨h1, h2⟩ | ⟨b, off, c, el, L, h1, h2, h3, h4⟩
  · rw [h2] at hn; cases hn
  · have hl : (l.take n).length = n := by rw [List.length_take]; omega
    refine ⟨⟨b, off, none⟩, c, h1, .inr ⟨b, off, c, el, L, by rw [hl], h2, by omega, ?_⟩⟩
    rw [hl, ← h4, List.take_take, Nat.min_eq_left (by omega)]
def gk (v : Value) (b : Nat) : Prop := ∃ off n c, v = .slice (some ⟨b, off, none⟩) n c
def Hp.Own (h : Hp) (k en : Nat) (v : Value) (xs : List Value) : Prop := (v = .slice none 0 0 ∧ xs = []) ∨ ∃ b, v = .slice (some ⟨b, 0, none⟩) xs.length xs.length ∧ h.Row b (en + 1) xs ∧ k ≤ b ∧ 256 ≤ b
theorem Hp.Own.vals {k en : Nat} {v : Value} {xs : List Value} (o : h.Own k en v xs) : h.Vals v xs := by
  rcases o with h1 | ⟨b, h1, h2, _⟩
  · exact .inl h1
  · exact .inr ⟨b, 0, _, _, xs, h1, h2, by omega, by rw [List.drop_zero, List.take_length]⟩
theorem Hp.Own.le {k k' en : Nat} {v : Value} {xs : List Value} (o : h.Own k en v xs) (hk : k' ≤ k) : h.Own k' en v xs := by
  rcases o with h1 | ⟨b, h1, h2, h3, h4⟩
  · exact .inl h1
  · exact .inr ⟨b, h1, h2, Nat.le_trans hk h3, h4⟩
theorem Hp.Own.keep {k en : Nat} {v : Value} {xs : List Value} (o : h.Own k en v xs) (hk : ∀ b el L, gk v b → h.Row b el L → h'.Row b el L) : h'.Own k en v xs := by
  rcases o with h1 | ⟨b, h1, h2, h3, h4⟩
  · exact .inl h1
  · exact .inr ⟨b, h1, hk b _ _ ⟨0, _, _, h1⟩ h2, h3, h4⟩
theorem Hp.Own.ext {k en : Nat} {v : Value} {xs : List Value} (o : h.Own k en v xs) (W : h.Wf) (x : h.Ext h') : h'.Own k en v xs := o.keep fun _ _ _ _ r => r.ext W x
theorem Hp.Own.same {k en : Nat} {v : Value} {xs : List Value} (o : h.Own k en v xs) (hb : h'.bl = h.bl) : h'.Own k en v xs := o.keep fun _ _ _ _ r => r.same hb
theorem Di (k : IntKind) : ∀ Z : List Int, Bj (ints k Z) = true
  | [] => rfl
  | z :: Z => Di k Z
def Lt (F : CallF) (v : Value) (args : List Value) (h : Hp) : R := match v with
  | .func (.func g) first cap => F g (first.toList ++ (args ++ cap.toList)) h
  | _ => .no
theorem JT {f : O} {l : List O} : Cy f l F e h = Lt F (f e) (vals e l) h := by
  show (match f e with | .func (.func g) first cap => forceL (vals e l) (fun args => F g (first.toList ++ (args ++ cap.toList)) h) | _ => .no) = _
  unfold Lt
  split <;> simp only [CA]
theorem Iz {g : Nat} {l c args : List Value} : Lt F (.func (.func g) ⟨l⟩ ⟨c⟩) args h = F g (l ++ (args ++ c)) h := rfl
theorem Gg {fn : Fn} {l c : List O} : Do fn l c F e h = .ok (.func fn ⟨vals e l⟩ ⟨vals e c⟩) h := by
  show forceL (vals e l) (fun f => forceL (vals e c) fun c => .ok (.func fn ⟨f⟩ ⟨c⟩) h) = _
  rw [CA, CA]
end
def PQ (args : List Value) (h : Hp) : R := match args with
  | [] => .ok (.bool true) h
  | _ :: _ => .no
def Gv : Body := ⟨[.x (fun _ => PQ)], cNo⟩
theorem Ii {ty : TTy} {φ : Phi} {E : Nat → Prop} {h : Hp} {w w' : World} (H : RelW ty φ E h w) (hb : Below w.heap.size w w') : RelW ty φ E h w' ∧ Evo φ h w φ h w' :=
  ⟨{ dom := fun i p e => ⟨(H.dom i p e).1, Nat.lt_of_lt_of_le (H.dom i p e).2 hb.size⟩
     inj := H.inj
     row := fun i p e hE => (by rw [hb.block _ (H.dom i p e).2]; exact H.row i p e hE)
     fresh := H.fresh
     kind := H.kind
     inp := H.inp },
   { le := .refl _
     new := fun _ _ e => .inl e
     next := Nat.le_refl _
     size := hb.size
     tape := hb.tape
     os := hb.os
     output := hb.output
     frame := fun k hk _ => hb.block k hk
     back := fun i p e hl _ => ⟨i, p, e, hl, rfl, rfl, .inl rfl⟩
     kept := fun _ _ _ => rfl
     low := Nat.le_refl _
     high := Nat.le_refl _
     shape := fun _ _ => .refl _
     only := fun _ _ _ => rfl
     all := fun _ h1 h2 => absurd h2 (Nat.not_lt.2 h1) }⟩
theorem O9 {P : Program} {ty : TTy} {f : Nat} (hS : ∃ fn, P.funcs[f]? = some fn ∧ fn.name ≠ "runtime.NumGoroutine" ∧ fn.body.isNone = false) (hc : ∀ w : World, Calls P f #[] w fun e w' => e = .returned (.bool true) ∧ Below w.heap.size w w') : Ji P ty f Gv := fun F args h v h' _ hr => ⟨hS, fun φ w args' hrel H => by
  have hr : PQ args h = .ok v h' := hr
  cases args with
  | cons a l => cases hr
  | nil =>
    cases hr
    cases hrel
    exact (hc w).mono fun e w' ⟨he, hb⟩ => ⟨_, φ, he, .bool true, (Ii H hb).1, (Ii H hb).2⟩⟩
theorem L8 {bs : FT} {n f : Nat} (hb : bs.get f = some Gv) {h : Hp} : call bs (Nat.succ n) f [] h = .ok (.bool true) h := by
  rw [BN hb]; rfl
end
end Go.Proofs.Ythcfmklkbakkpaa
