/-
  'NodeNone' of layer 11 answers true, whatever memory it is called in, whatever it is handed and whatever the tape answers: no condition. The run is reckoned by the kernel on the canonical machine, the arguments left open; that machine is sound for the model (YtokpmjbljhkeiaaGreatFns).
-/
import Derived.Test.YtokpmjbljhkeiaaGreatRows
import Derived.Test.YtokpmjbljhkeiaaGreatArgs
import Derived.Test.YtokpmjbljhkeiaaGreatBodies
import Derived.ProofKit
import Derived.OpenShut
import Derived.Carry
namespace Go.Proofs.YtokpmjbljhkeiaaGreat.nodeNone
open Go Go.ChangeShapes Go.WideShapes Go.ChangeAt Go.RowKit
set_option linter.unusedVariables false
theorem own : ownKnob Tryz.prog.godebug = none := by kernel_rfl
theorem laidOut : laidOutB Tryz.prog = true := by kernel_rfl
theorem run_is (a b : Int) (c : Int) (d e f : Int) (o p : Option Addr) (n m k l : Nat) : okTrue (call bodies 64 3 [.agg ⟨[.int .i64 a, .int .i64 b, .int .u8 c, .int .i64 d, .int .i64 e, .int .i64 f, .slice o n k]⟩, .slice p m l] (behind 2)) = true := by kernel_rfl
set_option maxRecDepth 100000 in
/-- a slice that came in, at a place -/
theorem slice_in {W : World} {base : Nat} {v : Value} (i : Nat) (h : Cell.okWide Tryz.prog W .any base 23 v) : ∃ (o : Option Addr) (n c : Nat) (φ : Phi), RelV φ (.slice o n c) v ∧ ∀ j p, φ j = some p → j = i ∧ p.blk < W.heap.size := by
  rcases slice_cell Tryz.underlying23 h with rfl | ⟨a, n, c, rfl, h1, h2, h3⟩
  · exact ⟨none, 0, 0, phi0, .slice0, fun j p hp => by cases hp⟩
  · refine ⟨some ⟨i, 0, none⟩, n, c, sliceAt i a n c, slice_rel h2 h1 i, fun j p hp => ?_⟩
    unfold sliceAt at hp
    split at hp
    · rename_i hi
      cases hp
      exact ⟨hi, h3⟩
    · cases hp
/-- two of them -/
def both (φ ψ : Phi) : Phi := fun i => match φ i with
  | some p => some p
  | none => ψ i
theorem both_l (φ ψ : Phi) : φ.Le (both φ ψ) := fun i p h => by unfold both; rw [h]
theorem both_r {φ ψ : Phi} (h : ∀ i p, ψ i = some p → φ i = none) : ψ.Le (both φ ψ) := fun i p e => by unfold both; rw [h i p e]; exact e
set_option maxRecDepth 100000 in
theorem walk (x y : Value) (w : World) {base : Nat} (hx : Value.okWide Tryz.prog w .any base 25 x) (hy : Value.okWide Tryz.prog w .any base 23 y) :
    Calls Tryz.prog 3 #[x, y] w fun e w' => e = .returned (.bool true) ∧ Below w.heap.size w w' := by
  obtain ⟨l, rfl, hl, hc⟩ := agg_arg Tryz.underlying25 (ts := [3, 3, 22, 3, 3, 3, 23]) (by kernel_rfl) (by kernel_rfl) hx
  match l, hl, hc with
  | [x0, x1, x2, x3, x4, x5, x6], _, hc =>
    obtain ⟨a, rfl⟩ := int_cell Tryz.underlying3 (hc 0 3 x0 rfl rfl)
    obtain ⟨b, rfl⟩ := int_cell Tryz.underlying3 (hc 1 3 x1 rfl rfl)
    obtain ⟨c, rfl⟩ := int_cell Tryz.underlying22 (hc 2 22 x2 rfl rfl)
    obtain ⟨d, rfl⟩ := int_cell Tryz.underlying3 (hc 3 3 x3 rfl rfl)
    obtain ⟨e, rfl⟩ := int_cell Tryz.underlying3 (hc 4 3 x4 rfl rfl)
    obtain ⟨f, rfl⟩ := int_cell Tryz.underlying3 (hc 5 3 x5 rfl rfl)
    obtain ⟨o, n, k, φ, h1, h2⟩ := slice_in 0 (hc 6 23 x6 rfl rfl)
    have hy' : Cell.okWide Tryz.prog w .any base 23 y := by unfold Value.okWide at hy; rw [Tryz.underlying23] at hy; exact hy
    obtain ⟨p, m, q, ψ, h3, h4⟩ := slice_in 1 hy'
    have hd : ∀ i r, ψ i = some r → φ i = none := fun i r hr => by
      cases e : φ i with
      | none => rfl
      | some r' =>
        have := (h2 i r' e).1
        have := (h4 i r hr).1
        omega
    refine run_args (φ := both φ ψ) calls_ok (run_is a b c d e f o p n m k q) (.cons (.agg (.cons (.int _ _) (.cons (.int _ _) (.cons (.int _ _) (.cons (.int _ _) (.cons (.int _ _) (.cons (.int _ _) (.cons (h1.mono (both_l φ ψ)) .nil)))))))) (.cons (h3.mono (both_r hd)) .nil)) fun i r hr => ?_
    unfold both at hr
    cases e : φ i with
    | none => rw [e] at hr; have := h4 i r hr; exact ⟨by omega, this.2⟩
    | some r' =>
      rw [e] at hr
      cases hr
      have := h2 i r e
      exact ⟨by omega, this.2⟩
set_option maxRecDepth 100000 in
theorem lifted (os : Os) (started : os.Started) (H : Type) (enc : TypeId × Value → H) :
    ReturnsInHanded {} Tryz.checked os 3 .any (Rows.nodeNoneSpec.pre6 enc Tryz.prog Tryz.f3 Rows.nodeNoneRow.domain false) (Rows.nodeNoneSpec.post enc Tryz.prog Tryz.f3 false true false false) := by
  refine returnsInHanded_of_change (C := Tryz.checked) own started (by kernel_rfl) Tryz.func3
    (ChangeSpec.witness6 (enc := enc) (C := Tryz.checked) false ⟨#[], #[.agg #[.int .i64 0, .int .i64 0, .int .u8 0, .int .i64 0, .int .i64 0, .int .i64 0, .slice none 0 0], .slice none 0 0], []⟩ 8 (by kernel_rfl) (by kernel_rfl) (by kernel_rfl) (by kernel_rfl)) ?_
  intro W base args ds gs before hval0 hW hcnd _
  have hval : ∀ (j : Nat) t v, Tryz.f3.params[j]? = some t → args[j]? = some v → Value.okWide Tryz.prog W .any base t v := hval0
  have hW' := hW
  obtain ⟨p, q, hA0, hV, rfl, hfz, hnd⟩ := hW
  have hA : DataW.TrodAll enc Tryz.prog W 0 (fun _ => true) true Tryz.f3.params.toList args.toList ds p := hA0
  rw [Tryz.params3] at hA hval
  obtain ⟨v0, vs0, d0, ds0, p0, q0, hargs, rfl, rfl, h0, r0⟩ := trodAll_cons hA
  obtain ⟨v1, vs1, d1, ds1, p1, q1, rfl, rfl, rfl, h1, r1⟩ := trodAll_cons r0
  obtain ⟨rfl, rfl, rfl⟩ := trodAll_nil r1
  obtain rfl : args = #[v0, v1] := by cases args; simp_all
  obtain ⟨rfl, rfl⟩ := trodVars_none hV
  clear hA0 hval0
  simp only [List.append_nil] at hW'
  have hlt : ∀ x ∈ p0 ++ p1, x.block < W.heap.size := fun x hx => hW'.lt x hx
  refine (walk v0 v1 W (hval 0 25 v0 rfl rfl) (hval 1 23 v1 rfl rfl)).mono fun e W' ⟨he, hb⟩ => ?_
  subst he
  refine ⟨_, rfl, post_of_below (pa := p0 ++ p1) (pv := []) hW' (fun _ _ _ => (trodAll_cons_mk (shut_bool Tryz.underlying4 _) trodAll_mk0)) (fun sp hsp => ?_) (fun _ _ => rfl) (by simp) hb (ok_one (by kernel_rfl) rfl (okWide_bool_mk Tryz.underlying4 _))⟩
  have := trodAll_cons_mk (WideElems.Trod_stays laidOut (by kernel_rfl) (of_decide_eq_true (by kernel_rfl)) h0 (fun x hx => hb.same (hlt x (List.mem_append_left _ hx))) (fun x hx => hsp x (List.mem_append_left _ hx))) (trodAll_cons_mk (WideElems.Trod_stays laidOut (by kernel_rfl) (of_decide_eq_true (by kernel_rfl)) h1 (fun x hx => hb.same (hlt x (List.mem_append_right _ hx))) (fun x hx => hsp x (List.mem_append_right _ hx))) (trodAll_mk0 (enc := enc) (P := Tryz.prog) (w := W') (base := 0) (spare := sp) (held := true)))
  rw [List.append_nil] at this
  exact this

theorem over : Rows.nodeNoneRow.holds Tryz.pinned (OpenSpec.ofChange Rows.nodeNoneSpec) :=
  OpenClaim.holds_of_wide 3 Tryz.f3 rfl rfl rfl rfl rfl rfl rfl ⟨rfl, rfl, rfl, rfl, rfl⟩ rfl rfl rfl rfl rfl (by kernel_rfl) Tryz.func3 (by kernel_rfl)
    (of_decide_eq_true (by kernel_rfl)) (by unfold Func.isWrapper; first | (rw [if_pos (by decide +kernel)]; kernel_rfl) | (rw [if_neg (by decide +kernel)]; exact ⟨rfl, rfl⟩))
    (fun os started H enc _ => lifted os started H enc)
theorem proved : Rows.NodeNoneSaid :=
  over
#print axioms proved
end Go.Proofs.YtokpmjbljhkeiaaGreat.nodeNone
