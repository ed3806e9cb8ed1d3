/-
  Code: what the machine makes of it is what the model does.
-/
import Derived.Test.YtkafejncffinmaaWalk
import Derived.LoopN
import Derived.Scope
set_option linter.unusedSimpArgs false
set_option linter.unusedVariables false
namespace Go.Proofs.Ytkafejncffinmaa
open Go

section
variable {P : Program} {ty : TTy} {F : CallF} {A : List Nat} {N : Nat}

theorem Evo.of_low {φ ψ : Phi} {h g h' : Hp} {w w' : World} (ev : Evo φ g w ψ h' w') (h1 : g.bl = h.bl) (h2 : g.next = h.next) (h3 : g.low = h.low) (h4 : g.high = h.high) : Evo φ h w ψ h' w' where
  le := ev.le
  new := by rw [← h2]; exact ev.new
  next := by rw [← h2]; exact ev.next
  size := ev.size
  tape := ev.tape
  os := ev.os
  output := ev.output
  frame := by unfold Live; rw [← h1]; exact ev.frame
  back := by
    have := ev.back
    unfold Live at this ⊢
    rw [h1] at this; exact this
  kept := by rw [← h1, ← h2]; exact ev.kept
  low := by rw [← h3]; exact ev.low
  high := by rw [← h4]; exact ev.high
  shape := by rw [← h1, ← h2]; exact ev.shape
  only := by rw [← h1, ← h2]; exact ev.only
  all := by rw [← h2]; exact ev.all

theorem region_ok (hT : TabOk P ty) (hF : CallOk P ty F) (hm : P.follows .mixedOrders = true) {id : Nat} {ops : Array Oper} {draw : Bool} {σ : Sg} {k : Option (Sg → C)} {e : Env} {h : Hp} {X : X} (hr : codeC ty A (.region id ops draw) σ k F e h = X) (hn : X ≠ .no)
    (hd : dstOk N (.region id ops draw) = true) {φ : Phi} {w : World} {a : Act} (hS : SgOk A σ) (HW : RelW ty φ nil h w) (HA : AR N φ (rhoOf A σ e) a) {Q : Exit → Act → World → Prop} (p : Post ty A N F φ h w k X Q) : (Code.region id ops draw).wp P Q a w := by
  have hN : ∀ o ∈ ops.toList, ∀ d, o.dst = some d → d < N := by
    intro o ho d hod
    unfold dstOk at hd
    rw [List.all_eq_true] at hd
    have := hd o ho
    rw [hod] at this
    exact nat_blt.1 this
  unfold codeC at hr
  cases draw with
  | false =>
    simp only at hr
    obtain ⟨ρ, H, V, run, T, σ', e', tr, q1, q2, q3, q4, q5⟩ := opsC_tr hT hF ops.toList [] σ e h X (fun j o _ => .plain ty o) hS hr hn
    refine wp_region_list ?_
    have := tr_text (Q := Q) (a := a) (w := w) (φ := φ) ops.toList tr hN (by rw [q2]; exact HW) (by rw [q1]; exact HA) fun _ ψ a' w' r1 r2 r3 => p.then ⟨q4, r1, by rw [← q3]; exact r2, by rw [← q2]; exact r3⟩ q5
    simpa using this
  | true =>
    simp only at hr
    cases hdr : drawC ty ops.toList with
    | none => rw [hdr] at hr; exact absurd hr.symm hn
    | some ahs =>
      rw [hdr] at hr
      obtain ⟨bs, hbs, he, hs, hah⟩ := drawC_ok hdr
      have hr : opsC ty A ops.toList (thenC k) ahs ops.toList σ F e { next := h.next, low := h.low, high := h.high, mark := h.next, bl := h.bl } = X := hr
      obtain ⟨ρ, H, V, run, T, σ', e', tr, q1, q2, q3, q4, q5⟩ := opsC_tr hT hF ops.toList ahs σ e _ X (fun j o ho => by obtain ⟨xs, _, h⟩ := hah j o ho; exact h.ok) hS hr hn
      have := tr_open (id := id) (Q := Q) (a := a) (w := w) (φ0 := φ) hm (edges_ok hbs he) (laws_ok hbs he hs hah tr) tr hN (by rw [q2]; exact HW.of_bl rfl rfl) (by rw [q1]; exact HA)
        fun ψ a' w' r1 r2 r3 => p.then ⟨q4, r1, by rw [← q3]; exact r2, by rw [q2] at r3; exact r3.of_low rfl rfl rfl rfl⟩ q5
      simpa using this

theorem loop_ok (hm : P.follows .mixedOrders = true) {c : Code} {body : C} (ih : ∀ {e : Env} {h : Hp} {X : X}, body F e h = X → X ≠ .no → ∀ (φ : Phi) (w : World) (a : Act), RelW ty φ nil h w → AR N φ (rhoOf A [] e) a → ∀ (Q : Exit → Act → World → Prop), Post ty A N F φ h w none X Q → c.wp P Q a w) :
    ∀ (n : Nat) {e : Env} {h : Hp} {X : X}, iter body n F e h = X → X ≠ .no → ∀ (φ : Phi) (w : World) (a : Act), RelW ty φ nil h w → AR N φ (rhoOf A [] e) a → ∀ (Q : Exit → Act → World → Prop), Post ty A N F φ h w none X Q → Code.rounds P c Q n a w
  | 0, e, h, X, hr, hn => by exact absurd hr.symm hn
  | n + 1, e, h, X, hr, hn => by
    intro φ w a HW HA Q p
    unfold iter at hr
    cases hb : body F e h with
    | no => rw [hb] at hr; exact absurd hr.symm hn
    | norm e1 h1 =>
      rw [hb] at hr
      simp only at hr
      refine ih hb (fun h => by cases h) φ w a HW HA _ { go := (fun _ h => by cases h), norm := fun _ e' h' ψ a' w' g hx => ?_, exit := (fun _ _ _ _ _ _ _ hx => by cases hx), ret := (fun _ _ _ _ _ _ hx => by cases hx) }
      cases hx
      exact loop_ok hm ih n hr hn _ _ _ g.rel g.ar _ { go := (fun _ h => by cases h), norm := fun h e2 h2 χ a2 w2 g2 hx => p.norm h e2 h2 χ a2 w2 (g.trans g2) hx, exit := fun id e2 h2 χ a2 w2 g2 hx => p.exit id e2 h2 χ a2 w2 (g.trans g2) hx, ret := fun e2 h2 χ a2 w2 g2 hx => p.ret e2 h2 χ a2 w2 (g.trans g2) hx }
    | exit i e1 h1 =>
      rw [hb] at hr
      refine ih hb (fun h => by cases h) φ w a HW HA _ { go := (fun _ h => by cases h), norm := (fun _ _ _ _ _ _ _ hx => by cases hx), exit := fun id e2 h2 χ a2 w2 g2 hx => p.exit id e2 h2 χ a2 w2 g2 (hr.symm.trans hx), ret := (fun _ _ _ _ _ _ hx => by cases hx) }
    | ret e1 h1 =>
      rw [hb] at hr
      refine ih hb (fun h => by cases h) φ w a HW HA _ { go := (fun _ h => by cases h), norm := (fun _ _ _ _ _ _ _ hx => by cases hx), exit := (fun _ _ _ _ _ _ _ hx => by cases hx), ret := fun e2 h2 χ a2 w2 g2 hx => p.ret e2 h2 χ a2 w2 g2 (hr.symm.trans hx) }

/-- behind a piece that ends on its own, the rest -/
theorem seq_post {φ : Phi} {h : Hp} {w : World} {k' : Sg → C} {X : X} {Q : Exit → Act → World → Prop} (p : Post ty A N F φ h w (some k') X Q) {a : C} {e : Env} (hr : cSeq a (k' []) F e h = X) (hn : X ≠ .no) :
    ∃ X1, a F e h = X1 ∧ X1 ≠ .no ∧ Post ty A N F φ h w none X1 Q := by
  unfold cSeq at hr
  cases hb : a F e h with
  | no => rw [hb] at hr; exact absurd hr.symm hn
  | norm e1 h1 =>
    rw [hb] at hr
    exact ⟨_, rfl, (fun h => by cases h), { go := (fun _ h => by cases h), norm := fun _ e2 h2 χ a2 w2 g2 hx => by cases hx; exact p.go k' rfl [] _ _ χ a2 w2 g2 hr, exit := (fun _ _ _ _ _ _ _ hx => by cases hx), ret := (fun _ _ _ _ _ _ hx => by cases hx) }⟩
  | exit i e1 h1 =>
    rw [hb] at hr
    exact ⟨_, rfl, (fun h => by cases h), { go := (fun _ h => by cases h), norm := (fun _ _ _ _ _ _ _ hx => by cases hx), exit := fun id e2 h2 χ a2 w2 g2 hx => p.exit id e2 h2 χ a2 w2 g2 (hr.symm.trans hx), ret := (fun _ _ _ _ _ _ hx => by cases hx) }⟩
  | ret e1 h1 =>
    rw [hb] at hr
    exact ⟨_, rfl, (fun h => by cases h), { go := (fun _ h => by cases h), norm := (fun _ _ _ _ _ _ _ hx => by cases hx), exit := (fun _ _ _ _ _ _ _ hx => by cases hx), ret := fun e2 h2 χ a2 w2 g2 hx => p.ret e2 h2 χ a2 w2 g2 (hr.symm.trans hx) }⟩
theorem block_post {φ : Phi} {h : Hp} {w : World} {X : X} {Q : Exit → Act → World → Prop} (p : Post ty A N F φ h w none X Q) {id : Nat} {a : C} {e : Env} (hr : cBlock id a F e h = X) (hn : X ≠ .no) :
    ∃ X1, a F e h = X1 ∧ X1 ≠ .no ∧ Post ty A N F φ h w none X1 (Exit.inBlock id Q) := by
  unfold cBlock at hr
  cases hb : a F e h with
  | no => rw [hb] at hr; exact absurd hr.symm hn
  | norm e1 h1 =>
    rw [hb] at hr
    exact ⟨_, rfl, (fun h => by cases h), { go := (fun _ h => by cases h), norm := fun h e2 h2 χ a2 w2 g2 hx => p.norm h e2 h2 χ a2 w2 g2 (hr.symm.trans hx), exit := (fun _ _ _ _ _ _ _ hx => by cases hx), ret := (fun _ _ _ _ _ _ hx => by cases hx) }⟩
  | exit i e1 h1 =>
    rw [hb] at hr
    simp only at hr
    refine ⟨_, rfl, (fun h => by cases h), { go := (fun _ h => by cases h), norm := fun _ _ _ _ _ _ _ hx => (by cases hx), exit := fun j e2 h2 χ a2 w2 g2 hx => ?_, ret := fun _ _ _ _ _ _ hx => (by cases hx) }⟩
    cases hx
    unfold Exit.inBlock
    cases hq : Nat.beq i id with
    | true =>
      rw [hq] at hr
      simp only [nat_beq.1 hq, if_true]
      exact p.norm rfl _ _ χ a2 w2 g2 hr.symm
    | false =>
      rw [hq] at hr
      simp only [beq_false hq, if_false]
      exact p.exit i _ _ χ a2 w2 g2 hr.symm
  | ret e1 h1 =>
    rw [hb] at hr
    exact ⟨_, rfl, (fun h => by cases h), { go := (fun _ h => by cases h), norm := (fun _ _ _ _ _ _ _ hx => by cases hx), exit := (fun _ _ _ _ _ _ _ hx => by cases hx), ret := fun e2 h2 χ a2 w2 g2 hx => p.ret e2 h2 χ a2 w2 g2 (hr.symm.trans hx) }⟩

theorem codeC_ok (hT : TabOk P ty) (hF : CallOk P ty F) (hm : P.follows .mixedOrders = true) : ∀ (c : Code) {σ : Sg} {k : Option (Sg → C)} {e : Env} {h : Hp} {X : X}, codeC ty A c σ k F e h = X → X ≠ .no → dstOk N c = true →
    ∀ (φ : Phi) (w : World) (a : Act), SgOk A σ → RelW ty φ nil h w → AR N φ (rhoOf A σ e) a → ∀ (Q : Exit → Act → World → Prop), Post ty A N F φ h w k X Q → c.wp P Q a w
  | .skip, σ, k, e, h, X, hr, hn, hd => by
    intro φ w a hS HW HA Q p
    exact wp_skip (p.then ⟨hS, HW, HA, .refl _ _ _⟩ hr)
  | .region id ops draw, σ, k, e, h, X, hr, hn, hd => by
    intro φ w a hS HW HA Q p
    exact region_ok hT hF hm hr hn hd hS HW HA p
  | .seq x y, σ, k, e, h, X, hr, hn, hd => by
    intro φ w a hS HW HA Q p
    have hd : (dstOk N x && dstOk N y) = true := hd
    rw [Bool.and_eq_true] at hd
    have hr : codeC ty A x σ (some fun σ => codeC ty A y σ k) F e h = X := hr
    refine wp_seq (codeC_ok hT hF hm x hr hn hd.1 _ _ _ hS HW HA _ { go := fun k' hk σ' e' h' ψ a' w' g hx => ?_, norm := fun h => (by cases h), exit := p.exit, ret := p.ret })
    cases hk
    exact codeC_ok hT hF hm y hx hn hd.2 _ _ _ g.sg g.rel g.ar _ { go := fun k' hk σ2 e2 h2 χ a2 w2 g2 hx => p.go k' hk σ2 e2 h2 χ a2 w2 (g.trans g2) hx, norm := fun h e2 h2 χ a2 w2 g2 hx => p.norm h e2 h2 χ a2 w2 (g.trans g2) hx, exit := fun id e2 h2 χ a2 w2 g2 hx => p.exit id e2 h2 χ a2 w2 (g.trans g2) hx, ret := fun e2 h2 χ a2 w2 g2 hx => p.ret e2 h2 χ a2 w2 (g.trans g2) hx }
  | .cond c x y, σ, k, e, h, X, hr, hn, hd => by
    intro φ w a hS HW HA Q p
    have hd : (dstOk N x && dstOk N y) = true := hd
    rw [Bool.and_eq_true] at hd
    unfold codeC at hr
    cases hc : cO ⟨A, σ⟩ c with
    | none => rw [hc] at hr; exact absurd hr.symm hn
    | some cc =>
      rw [hc] at hr
      simp only at hr
      have hrel := HA.ev (cO_ev hc e)
      have two : ∀ {kx : Option (Sg → C)} {Y : Go.Proofs.Ytkafejncffinmaa.X}, cCond cc (codeC ty A x σ kx) (codeC ty A y σ kx) F e h = Y → Y ≠ .no → Post ty A N F φ h w kx Y Q → (Code.cond c x y).wp P Q a w := by
        intro kx Y hr hn p
        unfold cCond at hr
        cases hv : cc e with
        | bool t =>
          rw [hv] at hr hrel
          have hev := hrel.bool_inv
          cases t with
          | true => exact wp_cond_true hev (codeC_ok hT hF hm x hr hn hd.1 _ _ _ hS HW HA _ p)
          | false => exact wp_cond_false hev (codeC_ok hT hF hm y hr hn hd.2 _ _ _ hS HW HA _ p)
        | _ => rw [hv] at hr; exact absurd hr.symm hn
      cases k with
      | none => exact two hr hn p
      | some k' =>
        simp only at hr
        cases hf : (falls x && falls y) with
        | false => rw [hf] at hr; exact two hr hn p
        | true =>
          rw [hf] at hr
          obtain ⟨X1, h1, h2, p1⟩ := seq_post p hr hn
          exact two h1 h2 p1
  | .block id x, σ, k, e, h, X, hr, hn, hd => by
    intro φ w a hS HW HA Q p
    have hd : dstOk N x = true := hd
    have one : ∀ {Y : Go.Proofs.Ytkafejncffinmaa.X}, cBlock id (codeC ty A x [] none) F e h = Y → Y ≠ .no → Post ty A N F φ h w none Y Q → (Code.block id x).wp P Q a w := by
      intro Y hr hn p
      obtain ⟨X1, h1, h2, p1⟩ := block_post p hr hn
      exact wp_block (codeC_ok hT hF hm x h1 h2 hd _ _ _ (.nil A) HW (HA.nil hS) _ p1)
    unfold codeC at hr
    cases k with
    | none => exact one hr hn p
    | some k' =>
      simp only at hr
      obtain ⟨X1, h1, h2, p1⟩ := seq_post p hr hn
      exact one h1 h2 p1
  | .loop x, σ, k, e, h, X, hr, hn, hd => by
    intro φ w a hS HW HA Q p
    have hd : dstOk N x = true := hd
    have plain : iter (codeC ty A x [] none) rounds F e h = X → (Code.loop x).wp P Q a w := by
      intro hr
      refine wp_loop_rounds rounds (loop_ok hm (fun h1 h2 φ w a HW HA Q p => codeC_ok hT hF hm x h1 h2 hd _ _ _ (.nil A) HW HA _ p) rounds hr hn _ _ _ HW (HA.nil hS) _ { go := fun _ h => (by cases h), norm := fun _ e2 h2 χ a2 w2 g2 hx => ?_, exit := p.exit, ret := p.ret })
      exfalso
      subst hx
      have : ∀ (n : Nat) (e : Env) (h : Hp), iter (codeC ty A x [] none) n F e h ≠ .norm e2 h2 := by
        intro n
        induction n with
        | zero => intro e h hq; cases hq
        | succ n ih =>
          intro e h hq
          unfold iter at hq
          cases hb : codeC ty A x [] none F e h with
          | norm e1 h1 => rw [hb] at hq; exact ih e1 h1 hq
          | no => rw [hb] at hq; cases hq
          | exit _ _ _ => rw [hb] at hq; cases hq
          | ret _ _ => rw [hb] at hq; cases hq
      exact this _ e h hr
    unfold codeC at hr
    cases hw : walkP A x with
    | none => rw [hw] at hr; exact plain hr
    | some kw =>
      rw [hw] at hr
      have hr : cWalk kw (codeC ty A x [] none) F e h = X := hr
      obtain ⟨id, o1, o2, r2, W⟩ := walkP_ok hw
      unfold cWalk at hr
      split at hr
      case h_2 => exact absurd hr.symm hn
      rename_i ad hit
      split at hr
      case h_2 => exact plain hr
      rename_i m since seen last hiter
      split at hr
      case h_2 => exact absurd hr.symm hn
      split at hr
      case h_2 => exact absurd hr.symm hn
      rename_i es c hents
      split at hr
      case h_2 => exact plain hr
      have hdd : dstOk N (.region id #[o1, o2] false) = true ∧ dstOk N (.seq (.cond (.tmp kw.more) .skip (.exit kw.out)) r2) = true := by
        rw [W.code] at hd
        have hd : (dstOk N (.region id #[o1, o2] false) && dstOk N (.seq (.cond (.tmp kw.more) .skip (.exit kw.out)) r2)) = true := hd
        exact Bool.and_eq_true_iff.1 hd
      have hnm : kw.nx < N ∧ kw.more < N := by
        have := hdd.1
        unfold dstOk at this
        simp only [List.all_cons, List.all_nil, Bool.and_true, Bool.and_eq_true, W.dst1, W.dst2] at this
        exact ⟨nat_blt.1 this.1, nat_blt.1 this.2⟩
      have hdec : SizeOf.sizeOf (Code.seq (.cond (.tmp kw.more) .skip (.exit kw.out)) r2) < SizeOf.sizeOf x := by
        rw [W.code]; simp; omega
      split at hr
      · obtain ⟨hoff, hr⟩ := bifX hr hn
        obtain ⟨h256, hr⟩ := bifX hr hn
        exact allWalk_ok W hnm (fun h1 h2 φ w a HW HA Q p => codeC_ok hT hF hm (.seq (.cond (.tmp kw.more) .skip (.exit kw.out)) r2) h1 h2 hdd.2 _ _ _ (.nil A) HW HA _ p) hit hoff (nat_ble.1 h256) hr hn HW (HA.nil hS) p.exit
      · exact walk_ok W hnm (fun h1 h2 φ w a HW HA Q p => codeC_ok hT hF hm (.seq (.cond (.tmp kw.more) .skip (.exit kw.out)) r2) h1 h2 hdd.2 _ _ _ (.nil A) HW HA _ p) hit hiter hents hr hn HW (HA.nil hS) p.exit p.ret
  | .exit id, σ, k, e, h, X, hr, hn, hd => by
    intro φ w a hS HW HA Q p
    have hr : (.exit id e h : Go.Proofs.Ytkafejncffinmaa.X) = X := hr
    exact wp_exit (p.exit id e h φ a w ⟨.nil A, HW, HA.nil hS, .refl _ _ _⟩ hr.symm)
  | .ret, σ, k, e, h, X, hr, hn, hd => by
    intro φ w a hS HW HA Q p
    have hr : (.ret e h : Go.Proofs.Ytkafejncffinmaa.X) = X := hr
    exact wp_ret (p.ret e h φ a w ⟨.nil A, HW, HA.nil hS, .refl _ _ _⟩ hr.symm)
  | .rangeFunc _ _ _ _, _, _, _, _, X, hr, hn, _ => by exact absurd hr.symm hn
  | .scope x, σ, k, e, h, X, hr, hn, hd => by
    intro φ w a hS HW HA Q p
    have hd : dstOk N x = true := hd
    have hr : codeC ty A x σ k F e h = X := hr
    exact wp_scope_straight (codeC_ok hT hF hm x hr hn hd _ _ _ hS HW HA _ { go := p.go, norm := p.norm, exit := p.exit, ret := p.ret })
  | .label _, σ, k, e, h, X, hr, hn, hd => by
    intro φ w a hS HW HA Q p
    exact wp_label (p.then ⟨hS, HW, HA, .refl _ _ _⟩ hr)
  | .goto _, _, _, _, _, X, hr, hn, _ => by exact absurd hr.symm hn
  | .refuse _, _, _, _, _, X, hr, hn, _ => by exact absurd hr.symm hn
termination_by c => SizeOf.sizeOf c
decreasing_by
  all_goals simp_wf
  all_goals first | omega | (simp_all; omega)
end
end Go.Proofs.Ytkafejncffinmaa
