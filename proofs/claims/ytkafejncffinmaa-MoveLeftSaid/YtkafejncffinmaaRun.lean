/-
  A closed run: what the kernel has reckoned holds of every memory and every tape.
-/
import Derived.Test.YtkafejncffinmaaFns
import Derived.Below
import Derived.ChangeSame
set_option linter.unusedVariables false
namespace Go.Proofs.Ytkafejncffinmaa
open Go Go.RowKit Go.WideShapes Go.ChangeShapes

noncomputable def okTrue : R → Bool
  | .ok (.bool b) _ => b
  | _ => false
def phi0 : Phi := fun _ => none
theorem start_rel (ty : TTy) (w : World) : RelW ty phi0 nil start w where
  dom := fun i p h => by cases h
  inj := fun i j p q h => by cases h
  row := fun i p h => by cases h
  fresh := fun i _ => fullT_get 9 i
  kind := fun i p c s e h => by cases h
  inp := fun i p h => by cases h
theorem run_true {P : Program} {ty : TTy} {bs : FT} (hC : ∀ n, CallOk P ty (call bs n)) {n f : Nat} (h : okTrue (call bs n f [] start) = true) (w : World) :
    Calls P f #[] w fun e w' => e = .returned (.bool true) ∧ Below w.heap.size w w' := by
  cases hr : call bs n f [] start with
  | no => rw [hr] at h; cases h
  | ok v h' =>
    rw [hr] at h
    obtain ⟨_, hc⟩ := hC n f [] start v h' hr
    refine (hc phi0 w [] .nil (start_rel ty w)).mono fun e w' ⟨v', ψ, he, hv, _, ev⟩ => ?_
    cases v with
    | bool b =>
      have h : b = true := h
      subst h
      have := hv.bool_inv
      subst this
      exact ⟨he, ⟨ev.os, ev.tape, ev.output, ev.size, fun k hk => ev.frame k hk fun i p hp => by cases hp⟩⟩
    | _ => cases h

section
variable {H : Type} {enc : TypeId × Value → H} {P : Program}
theorem post_of_below {f : Func} {s : ChangeSpec} {apart fresh handsOn again : Bool} {W W' : World} {args : Array Value} {v : Value} {ds gs : List (DataW H)} {before pa pv : List MemPlace}
    (hW : DataW.Whole enc P f.params.toList s.vars apart W args.toList ds gs before)
    (hres : ∀ (b : Nat) (sp : Nat → Bool) (hd : Bool), DataW.TrodAll enc P W' b sp hd f.resultTypes.toList (v.resultList f.resultTypes.size) (s.fn H (ds ++ gs)).results [])
    (hargs : ∀ sp : Nat → Bool, (∀ p ∈ before, sp p.block = true) → DataW.TrodAll enc P W' 0 sp true f.params.toList args.toList (s.fn H (ds ++ gs)).args pa)
    (hvars : ∀ sp : Nat → Bool, (∀ p ∈ before, sp p.block = true) → DataW.TrodVars enc P W' sp s.vars (s.fn H (ds ++ gs)).vars pv)
    (hps : before = pa ++ pv) (hb : Below W.heap.size W W')
    (hok : ∀ (j : Nat) (t : TypeId) (r : Value), f.resultTypes[j]? = some t → (v.resultList f.resultTypes.size)[j]? = some r → Value.okWide P W' .any 0 t r) :
    s.post enc P f apart fresh handsOn again W args v W' := by
  have hlt : ∀ p ∈ before, p.block < W.heap.size := fun p hp => hW.lt p hp
  have hold : ∀ p ∈ before, (fun b => decide (b < W.heap.size)) p.block = true := fun p hp => by simpa using hlt p hp
  refine ⟨ds, gs, before, [], pa, pv, hW, hres _ _ _, hargs _ hold, hvars _ hold, World.keptBut_mono (fun p hp => ⟨hp, ?_⟩) (hb.frame (· ∈ before)), fun _ => ?_⟩
  · rw [hps, List.mem_append] at hp
    exact Or.inr hp
  · obtain ⟨_, _, _, _, _, hz, hn⟩ := hW
    refine ⟨hok, _, _, ([] ++ pa) ++ pv, ⟨[] ++ pa, pv, trodAll_append (hargs _ (fun _ _ => rfl)) (hres _ _ _), hvars _ (fun _ _ => rfl), rfl, ?_, ?_⟩, ?_⟩
    · intro b off hp
      have hin : MemPlace.cell b off ∈ before := by rw [hps]; simpa using hp
      rw [hb.frozen (hlt _ hin)]
      exact hz b off hin
    · intro ha
      have := hn ha
      rw [hps] at this
      simpa using this
    · intro p hp _
      rw [hps]
      simpa using hp
end
end Go.Proofs.Ytkafejncffinmaa
