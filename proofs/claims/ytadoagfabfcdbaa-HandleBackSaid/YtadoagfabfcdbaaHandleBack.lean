/-
  'HandleBack' of layer 20 answers true, whatever memory it is called in, whatever it is handed and whatever the tape answers: no condition. What the canonical machine gives is shown for any handle and any bytes (YtadoagfabfcdbaaBack); that machine is sound for the model (YtadoagfabfcdbaaFns).
-/
import Derived.Test.YtadoagfabfcdbaaRows
import Derived.Test.YtadoagfabfcdbaaIn
import Derived.Test.YtadoagfabfcdbaaBack
import Derived.ProofKit
import Derived.OpenShut
import Derived.Carry
namespace Go.Proofs.Ytadoagfabfcdbaa.handleBack
open Go Go.ChangeShapes Go.WideShapes Go.ChangeAt Go.RowKit
set_option linter.unusedVariables false
theorem own : ownKnob Try.prog.godebug = none := by kernel_rfl
theorem laidOut : laidOutB Try.prog = true := by kernel_rfl
theorem cells5 : Try.prog.cellsOf 5 = 1 := by kernel_rfl
theorem int_cell2 {P : Program} {W : World} {base t : Nat} {v : Value} (ht : P.underlying t = some (.int .i64)) (h : Cell.okWide P W .any base t v) : ∃ n, v = .int .i64 n ∧ in64 n := by
  unfold Cell.okWide at h
  rw [ht] at h
  have h : Cell.ok P W .any base t v := by cases v <;> exact h
  unfold Cell.ok at h
  rw [ht] at h
  split at h <;> first | (exact h.elim; done) | skip
  all_goals (rename_i e1 _; cases e1)
  exact ⟨_, by rw [h.1], h.2.1, h.2.2⟩
theorem handle_in {W : World} {base : Nat} {v : Value} (h : Value.okWide Try.prog W .any base 23 v) : ∃ a b, v = .agg ⟨[.int .i64 a, .int .i64 b]⟩ ∧ in64 a ∧ in64 b := by
  obtain ⟨l, rfl, hl, hc⟩ := agg_arg Try.underlying23 (ts := [3, 3]) (by kernel_rfl) (by kernel_rfl) h
  match l, hl, hc with
  | [x0, x1], _, hc =>
    obtain ⟨a, rfl, ha⟩ := int_cell2 Try.underlying3 (hc 0 3 x0 rfl rfl)
    obtain ⟨b, rfl, hb⟩ := int_cell2 Try.underlying3 (hc 1 3 x1 rfl rfl)
    exact ⟨a, b, rfl, ha, hb⟩
set_option maxRecDepth 100000 in
theorem walk {H : Type} {enc : TypeId × Value → H} (x z y : Value) (w : World) {base : Nat} {d : DataW H} {p : List MemPlace} (hx : Value.okWide Try.prog w .any base 23 x) (hz : Value.okWide Try.prog w .any base 23 z) (hy : Value.okWide Try.prog w .any base 24 y)
    (ht : DataW.Trod enc Try.prog w 0 (fun _ => true) true 24 y d p) (hfz : ∀ b off, MemPlace.cell b off ∈ p → w.frozen? ⟨b, off, none⟩ = false) :
    Calls Try.prog 4 #[x, z, y] w fun e w' => e = .returned (.bool true) ∧ Below w.heap.size w w' := by
  obtain ⟨a, b, rfl, ha, hb'⟩ := handle_in hx
  obtain ⟨c, d, rfl, hc, hd⟩ := handle_in hz
  obtain ⟨l, hb, B⟩ := bytes_in Try.underlying24 Try.underlying5 cells5 hy ht hfz
  obtain ⟨L, u, φ, h1, h2, h3⟩ := B.rel (ty := ty)
  obtain ⟨h', hr, hx'⟩ := backs_is (n := 59) (inH_wf L) ha hb' hc hd h3 hb
  exact run_ext calls_ok hr hx' rfl (.cons (.agg (.cons (.int _ _) (.cons (.int _ _) .nil))) (.cons (.agg (.cons (.int _ _) (.cons (.int _ _) .nil))) (.cons h1 .nil))) h2
set_option maxRecDepth 100000 in
theorem lifted (os : Os) (started : os.Started) (H : Type) (enc : TypeId × Value → H) :
    ReturnsInHanded {} Try.checked os 4 .any (Rows.handleBackSpec.pre6 enc Try.prog Try.f4 Rows.handleBackRow.domain false) (Rows.handleBackSpec.post enc Try.prog Try.f4 false true false false) := by
  refine returnsInHanded_of_change (C := Try.checked) own started (by kernel_rfl) Try.func4
    (ChangeSpec.witness6 (enc := enc) (C := Try.checked) false ⟨#[], #[.agg #[.int .i64 0, .int .i64 0], .agg #[.int .i64 0, .int .i64 0], .slice none 0 0], []⟩ 8 (by kernel_rfl) (by kernel_rfl) (by kernel_rfl) (by kernel_rfl)) ?_
  intro W base args ds gs before hval0 hW hcnd _
  have hval : ∀ (j : Nat) t v, Try.f4.params[j]? = some t → args[j]? = some v → Value.okWide Try.prog W .any base t v := hval0
  have hW' := hW
  obtain ⟨p, q, hA0, hV, rfl, hfz, hnd⟩ := hW
  have hA : DataW.TrodAll enc Try.prog W 0 (fun _ => true) true Try.f4.params.toList args.toList ds p := hA0
  rw [Try.params4] at hA hval
  obtain ⟨v0, vs0, d0, ds0, p0, q0, hargs, rfl, rfl, h0, r0⟩ := trodAll_cons hA
  obtain ⟨v1, vs1, d1, ds1, p1, q1, rfl, rfl, rfl, h1, r1⟩ := trodAll_cons r0
  obtain ⟨v2, vs2, d2, ds2, p2, q2, rfl, rfl, rfl, h2, r2⟩ := trodAll_cons r1
  obtain ⟨rfl, rfl, rfl⟩ := trodAll_nil r2
  obtain rfl : args = #[v0, v1, v2] := by cases args; simp_all
  obtain ⟨rfl, rfl⟩ := trodVars_none hV
  clear hA0 hval0
  simp only [List.append_nil] at hW' hfz
  have hlt : ∀ x ∈ p0 ++ (p1 ++ p2), x.block < W.heap.size := fun x hx => hW'.lt x hx
  refine (walk v0 v1 v2 W (hval 0 23 v0 rfl rfl) (hval 1 23 v1 rfl rfl) (hval 2 24 v2 rfl rfl) h2 (fun b off hm => hfz b off (List.mem_append_right _ (List.mem_append_right _ hm)))).mono fun e W' ⟨he, hb⟩ => ?_
  subst he
  refine ⟨_, rfl, post_of_below (pa := p0 ++ (p1 ++ p2)) (pv := []) hW' (fun _ _ _ => (trodAll_cons_mk (shut_bool Try.underlying4 _) trodAll_mk0)) (fun sp hsp => ?_) (fun _ _ => rfl) (by simp) hb (ok_one (by kernel_rfl) rfl (okWide_bool_mk Try.underlying4 _))⟩
  have := trodAll_cons_mk (WideElems.Trod_stays laidOut (by kernel_rfl) (of_decide_eq_true (by kernel_rfl)) h0 (fun x hx => hb.same (hlt x (List.mem_append_left _ hx))) (fun x hx => hsp x (List.mem_append_left _ hx))) (trodAll_cons_mk (WideElems.Trod_stays laidOut (by kernel_rfl) (of_decide_eq_true (by kernel_rfl)) h1 (fun x hx => hb.same (hlt x (List.mem_append_right _ (List.mem_append_left _ hx)))) (fun x hx => hsp x (List.mem_append_right _ (List.mem_append_left _ hx)))) (trodAll_cons_mk (WideElems.Trod_stays laidOut (by kernel_rfl) (of_decide_eq_true (by kernel_rfl)) h2 (fun x hx => hb.same (hlt x (List.mem_append_right _ (List.mem_append_right _ hx)))) (fun x hx => hsp x (List.mem_append_right _ (List.mem_append_right _ hx)))) (trodAll_mk0 (enc := enc) (P := Try.prog) (w := W') (base := 0) (spare := sp) (held := true))))
  rw [List.append_nil] at this
  exact this

theorem over : Rows.handleBackRow.holds Try.pinned (OpenSpec.ofChange Rows.handleBackSpec) :=
  OpenClaim.holds_of_wide 4 Try.f4 rfl rfl rfl rfl rfl rfl rfl ⟨rfl, rfl, rfl, rfl, rfl⟩ rfl rfl rfl rfl rfl (by kernel_rfl) Try.func4 (by kernel_rfl)
    (of_decide_eq_true (by kernel_rfl)) (by unfold Func.isWrapper; first | (rw [if_pos (by decide +kernel)]; kernel_rfl) | (rw [if_neg (by decide +kernel)]; exact ⟨rfl, rfl⟩))
    (fun os started H enc _ => lifted os started H enc)
theorem proved : Rows.HandleBackSaid :=
  over
#print axioms proved
end Go.Proofs.Ytadoagfabfcdbaa.handleBack
