/-
  'KeepNone' of layer 15 answers true, whatever memory it is called in, whatever it is handed and whatever the tape answers: no condition. The run is reckoned by the kernel on the canonical machine, the arguments left open; that machine is sound for the model (YtokpmjbljhkeiaaGreatFns).
-/
import Derived.Test.YtokpmjbljhkeiaaGreatRows
import Derived.Test.YtokpmjbljhkeiaaGreatArgs
import Derived.Test.YtokpmjbljhkeiaaGreatBodies
import Derived.ProofKit
import Derived.OpenShut
import Derived.Carry
namespace Go.Proofs.YtokpmjbljhkeiaaGreat.keepNone
open Go Go.ChangeShapes Go.WideShapes Go.ChangeAt Go.RowKit
set_option linter.unusedVariables false
theorem own : ownKnob Tryz.prog.godebug = none := by kernel_rfl
theorem laidOut : laidOutB Tryz.prog = true := by kernel_rfl
set_option maxHeartbeats 0 in
theorem run_is (s v : Int) (o : Option Addr) (n c : Nat) : okTrue (call bodies 64 5 [.int .i64 s, .int .i64 v, .slice o n c] start) = true := by kernel_rfl
set_option maxRecDepth 100000 in
theorem walk (s v : Int) (b : Value) (w : World) {base : Nat} (h : Value.okWide Tryz.prog w .any base 23 b) :
    Calls Tryz.prog 5 #[.int .i64 s, .int .i64 v, b] w fun e w' => e = .returned (.bool true) ∧ Below w.heap.size w w' := by
  rcases slice_arg Tryz.underlying23 h with rfl | ⟨a, n, c, rfl, h1, h2, h3⟩
  · exact run_args (φ := phi0) calls_ok (run_is s v none 0 0) (.cons (.int _ _) (.cons (.int _ _) (.cons .slice0 .nil))) (fun i p hp => by cases hp) (fun i p hp => by cases hp)
  · have hat : ∀ i p, sliceAt 0 a n c i = some p → i = 0 ∧ p.inp = true ∧ p.blk = a.block := fun i p hp => by
      unfold sliceAt at hp
      split at hp
      · rename_i hi
        cases hp
        exact ⟨hi, rfl, rfl⟩
      · cases hp
    exact run_args (φ := sliceAt 0 a n c) calls_ok (run_is s v (some ⟨0, 0, none⟩) n c) (.cons (.int _ _) (.cons (.int _ _) (.cons (slice_rel h2 h1 0) .nil))) (fun i p hp => by
      obtain ⟨q1, q2, _⟩ := hat i p hp
      exact ⟨by omega, q2⟩) (fun i p hp => by
      obtain ⟨_, _, q3⟩ := hat i p hp
      rw [q3]; exact h3)
set_option maxRecDepth 100000 in
theorem lifted (os : Os) (started : os.Started) (H : Type) (enc : TypeId × Value → H) :
    ReturnsInHanded {} Tryz.checked os 5 .any (Rows.keepNoneSpec.pre6 enc Tryz.prog Tryz.f5 Rows.keepNoneRow.domain false) (Rows.keepNoneSpec.post enc Tryz.prog Tryz.f5 false true false false) := by
  refine returnsInHanded_of_change (C := Tryz.checked) own started (by kernel_rfl) Tryz.func5
    (ChangeSpec.witness6 (enc := enc) (C := Tryz.checked) false ⟨#[], #[.int .i64 0, .int .i64 0, .slice none 0 0], []⟩ 8 (by kernel_rfl) (by kernel_rfl) (by kernel_rfl) (by kernel_rfl)) ?_
  intro W base args ds gs before hval0 hW hcnd _
  have hval : ∀ (j : Nat) t v, Tryz.f5.params[j]? = some t → args[j]? = some v → Value.okWide Tryz.prog W .any base t v := hval0
  have hW' := hW
  obtain ⟨p, q, hA0, hV, rfl, hfz, hnd⟩ := hW
  have hA : DataW.TrodAll enc Tryz.prog W 0 (fun _ => true) true Tryz.f5.params.toList args.toList ds p := hA0
  rw [Tryz.params5] at hA hval
  obtain ⟨v0, vs0, d0, ds0, p0, q0, hargs, rfl, rfl, h0, r0⟩ := trodAll_cons hA
  obtain ⟨v1, vs1, d1, ds1, p1, q1, rfl, rfl, rfl, h1, r1⟩ := trodAll_cons r0
  obtain ⟨v3, vs3, d3, ds3, p3, q3, rfl, rfl, rfl, h3, r3⟩ := trodAll_cons r1
  obtain ⟨rfl, rfl, rfl⟩ := trodAll_nil r3
  obtain rfl : args = #[v0, v1, v3] := by cases args; simp_all
  obtain ⟨rfl, rfl⟩ := trodVars_none hV
  obtain ⟨a0, rfl, rfl, rfl, w0⟩ := open_int Tryz.underlying3 (hval 0 3 v0 rfl rfl) h0
  obtain ⟨a1, rfl, rfl, rfl, w1⟩ := open_int Tryz.underlying3 (hval 1 3 v1 rfl rfl) h1
  clear hA0 hval0
  simp only [List.append_nil, List.nil_append] at hW'
  have hlt : ∀ x ∈ p3, x.block < W.heap.size := fun x hx => hW'.lt x hx
  refine (walk a0 a1 v3 W (hval 2 23 v3 rfl rfl)).mono fun e W' ⟨he, hb⟩ => ?_
  subst he
  refine ⟨_, rfl, post_of_below (pa := p3) (pv := []) hW' (fun _ _ _ => (trodAll_cons_mk (shut_bool Tryz.underlying4 _) trodAll_mk0)) (fun sp hsp => ?_) (fun _ _ => rfl) (by simp) hb (ok_one (by kernel_rfl) rfl (okWide_bool_mk Tryz.underlying4 _))⟩
  have := trodAll_cons_mk (shut_int Tryz.underlying3 w0) (trodAll_cons_mk (shut_int Tryz.underlying3 w1) (trodAll_cons_mk (WideElems.Trod_stays laidOut (by kernel_rfl) (of_decide_eq_true (by kernel_rfl)) h3 (fun x hx => hb.same (hlt x hx)) (fun x hx => hsp x hx)) (trodAll_mk0 (enc := enc) (P := Tryz.prog) (w := W') (base := 0) (spare := sp) (held := true))))
  rw [List.nil_append, List.nil_append, List.append_nil] at this
  exact this

theorem over : Rows.keepNoneRow.holds Tryz.pinned (OpenSpec.ofChange Rows.keepNoneSpec) :=
  OpenClaim.holds_of_wide 5 Tryz.f5 rfl rfl rfl rfl rfl rfl rfl ⟨rfl, rfl, rfl, rfl, rfl⟩ rfl rfl rfl rfl rfl (by kernel_rfl) Tryz.func5 (by kernel_rfl)
    (of_decide_eq_true (by kernel_rfl)) (by unfold Func.isWrapper; first | (rw [if_pos (by decide +kernel)]; kernel_rfl) | (rw [if_neg (by decide +kernel)]; exact ⟨rfl, rfl⟩))
    (fun os started H enc _ => lifted os started H enc)
theorem proved : Rows.KeepNoneSaid :=
  over
#print axioms proved
end Go.Proofs.YtokpmjbljhkeiaaGreat.keepNone
