/-
  What is plain, or reads, leaves the machine's heap as it is.
-/
import Derived.Test.YtkafejncffinmaaStill
set_option linter.unusedSimpArgs false
set_option linter.unusedVariables false
namespace Go.Proofs.Ytkafejncffinmaa
open Go

theorem Kp.oNo : Kp oNo := fun _ _ => .no
theorem Kp.w1 {f : Fr} {x : Operand} {k : O → OpF} (hk : ∀ y, Kp (k y)) : Kp (w1 f x k) := by
  unfold Go.Proofs.Ytkafejncffinmaa.w1; split
  · exact hk _
  · exact .oNo
theorem Kp.w2 {f : Fr} {x y : Operand} {k : O → O → OpF} (hk : ∀ x y, Kp (k x y)) : Kp (w2 f x y k) := .w1 fun x => .w1 fun y => hk x y
theorem Kp.wTy {ty : TTy} {t : Nat} {k : TI → OpF} (hk : ∀ ti, ty.get t = some ti → Kp (k ti)) : Kp (wTy ty t k) := by
  unfold Go.Proofs.Ytkafejncffinmaa.wTy; split
  · rename_i ti h; exact hk ti h
  · exact .oNo
theorem Kp.wZ {ti : TI} {k : OpF} (hk : Kp k) : Kp (wZ ti k) := by
  unfold Go.Proofs.Ytkafejncffinmaa.wZ; split
  · exact hk
  · exact .oNo
theorem Kp.wZero {ti : TI} {k : Value → OpF} (hk : ∀ z, Kp (k z)) : Kp (wZero ti k) := by
  unfold Go.Proofs.Ytkafejncffinmaa.wZero; split
  · exact hk _
  · exact .oNo
theorem Kp.wKey {ty : TTy} {t : Nat} {k : KS → OpF} (hk : ∀ z, Kp (k z)) : Kp (wKey ty t k) := by
  unfold Go.Proofs.Ytkafejncffinmaa.wKey
  refine .wTy fun ti _ => ?_
  split
  · refine .wTy fun ki _ => ?_
    split
    · exact hk _
    · exact .oNo
  · exact .oNo

section
variable {x y z : O}
theorem oMove_kp : Kp (oMove x) := fun F e => .moveR _
theorem oPick_kp : Kp (oPick x y z) := fun F e => by
  show Kr fun h => pickV (x e) (y e) (z e) h
  cases x e with
  | bool t => cases t <;> exact .moveR _
  | _ => exact .no
theorem oBuild_kp {zs : List Value} {ps : List (Nat × Nat × O)} : Kp (oBuild zs ps) := fun F e => fillL_kr (k := fun cs h => .ok (.agg ⟨cs⟩) h) (fun l => .ok _) ps zs
theorem oNil_kp : Kp (oNil x) := fun F e => by
  show Kr fun h => nilF (x e) h
  unfold nilF
  cases x e with
  | pointer a => cases a; exact .no; exact .ok _
  | func f a b => cases f <;> first | exact .ok _ | exact .no
  | slice a n c => exact .ok _
  | map m => exact .ok _
  | iface t v => exact .forceV (k := fun v h => .ok (.iface t v) h) fun v => .ok _
  | _ => exact .no
theorem oCmp_kp {f : Int → Int → Bool} {k : IntKind} : Kp (oCmp f k x y) := fun F e => by
  show Kr fun h => cmpF f (intK k (x e)) (intK k (y e)) h
  cases intK k (x e) with
  | no => exact .no
  | ok a => cases intK k (y e) with
    | no => exact .no
    | ok b => exact .okB _
theorem oAri_kp {f : Int → Int → Int} {k : IntKind} : Kp (oAri f k x y) := fun F e => by
  show Kr fun h => ariF f k (intK k (x e)) (intK k (y e)) h
  cases intK k (x e) with
  | no => exact .no
  | ok a => cases intK k (y e) with
    | no => exact .no
    | ok b => exact .okI _ _
theorem oAdd_kp {k : IntKind} {top : Nat} : Kp (oAdd k top x y) := fun F e => by
  show Kr fun h => addF k top (intK k (x e)) (intK k (y e)) h
  cases intK k (x e) with
  | no => exact .no
  | ok a => cases intK k (y e) with
    | no => exact .no
    | ok b =>
      cases a with
      | negSucc _ => exact .okI _ _
      | ofNat a => cases b with
        | negSucc _ => exact .okI _ _
        | ofNat b =>
          unfold addF
          simp only
          cases Nat.ble (Nat.add a b) top with
          | true => exact .forceN (k := fun n h => .ok (.int k (.ofNat n)) h) fun n => .ok _
          | false => exact .okI _ _
theorem oDiv_kp {k : IntKind} : Kp (oDiv k x y) := fun F e => by
  show Kr fun h => divF k (intK k (x e)) (intK k (y e)) h
  unfold divF
  cases intK k (x e) with
  | no => exact .no
  | ok a => cases intK k (y e) with
    | no => exact .no
    | ok b => exact .bif .no (.okI _ _)
theorem oRem_kp {k : IntKind} : Kp (oRem k x y) := fun F e => by
  show Kr fun h => remF k (intK k (x e)) (intK k (y e)) h
  unfold remF
  cases intK k (x e) with
  | no => exact .no
  | ok a => cases intK k (y e) with
    | no => exact .no
    | ok b => exact .bif .no (.okI _ _)
theorem oBit_kp {f : Nat → Nat → Nat} {k : IntKind} : Kp (oBit f k x y) := fun F e => by
  show Kr fun h => bitF f k (natK k (x e)) (natK k (y e)) h
  unfold bitF
  cases natK k (x e) with
  | no => exact .no
  | ok a => cases natK k (y e) with
    | no => exact .no
    | ok b => exact .bif (.bif (.okI _ _) .no) .no
theorem oShl_kp {k : IntKind} : Kp (oShl k x y) := fun F e => by
  show Kr fun h => shlF k (natK k (x e)) (natV (y e)) h
  unfold shlF
  cases natK k (x e) with
  | no => exact .no
  | ok a => cases natV (y e) with
    | no => exact .no
    | ok b => exact .okI _ _
theorem oShr_kp {k : IntKind} : Kp (oShr k x y) := fun F e => by
  show Kr fun h => shrF k (natK k (x e)) (natV (y e)) h
  unfold shrF
  cases natK k (x e) with
  | no => exact .no
  | ok a => cases natV (y e) with
    | no => exact .no
    | ok b => exact .okI _ _
theorem oStr_kp {f : List UInt8 → List UInt8 → Bool} : Kp (oStr f x y) := fun F e => by
  show Kr fun h => strF f (x e) (y e) h
  unfold strF
  cases x e with
  | string a => cases y e with
    | string b => exact .okB _
    | _ => exact .no
  | _ => exact .no
theorem oCat_kp : Kp (oCat x y) := fun F e => by
  show Kr fun h => catF (x e) (y e) h
  unfold catF
  cases x e with
  | string a => cases y e with
    | string b => exact .bif (.ok _) .no
    | _ => exact .no
  | _ => exact .no
theorem oEq_kp {k : TK} {n : Bool} : Kp (oEq k n x y) := fun F e => by
  unfold oEq
  cases eqV k (x e) (y e) with
  | some r => exact .okB _
  | none => exact .no
theorem oNilI_kp {n : Bool} : Kp (oNilI n x) := fun F e => by
  show Kr fun h => nilI n (x e) h
  unfold nilI
  cases x e <;> first | exact .okB _ | exact .no
theorem oEqC_kp {k : KS} {n : Bool} : Kp (oEqC k n x y) := fun F e => by
  unfold oEqC
  cases eqC k (x e) (y e) with
  | some r => exact .okB _
  | none => exact .no
theorem oNot_kp : Kp (oNot x) := fun F e => by
  unfold oNot
  cases x e with
  | bool b => exact .okB _
  | _ => exact .no
theorem oCpl_kp : Kp (oCpl x) := fun F e => by
  unfold oCpl
  cases natK .u8 (x e) with
  | no => exact .no
  | ok n => exact .bif (.okI _ _) .no
theorem oNeg_kp {k : IntKind} : Kp (oNeg k x) := fun F e => by
  unfold oNeg
  cases intK k (x e) with
  | no => exact .no
  | ok n => exact .okI _ _
theorem oConv_kp {k : IntKind} : Kp (oConv k x) := fun F e => by
  unfold oConv
  cases intV (x e) with
  | no => exact .no
  | ok n => exact .okI _ _
theorem oSame_kp : Kp (oSame x) := fun F e => by
  unfold oSame
  cases x e with
  | string b => exact .ok _
  | _ => exact .no
theorem oToStr_kp : Kp (oToStr x) := fun F e => by
  unfold oToStr
  cases x e with
  | slice a n c =>
    refine srcCells_kr (k := fun cs h => match bytesOf cs with | some bs => .ok (.string ⟨⟨bs⟩⟩) h | none => .no) fun l => ?_
    cases bytesOf l with
    | some bs => exact .ok _
    | none => exact .no
  | _ => exact .no
theorem oIface_kp {t : Nat} : Kp (oIface t x) := fun F e => .forceV (k := fun v h => .ok (.iface t v) h) fun v => .ok _
theorem oFunc_kp {fn : Fn} {a b : List O} : Kp (oFunc fn a b) := fun F e => .forceL (k := fun f h => forceL (vals e b) fun c => .ok (.func fn ⟨f⟩ ⟨c⟩) h) fun f => .forceL (k := fun c h => .ok (.func fn ⟨f⟩ ⟨c⟩) h) fun c => .ok _
theorem oCutStr_kp {lo hi : Option O} : Kp (oCutStr x lo hi) := fun F e => by
  unfold oCutStr
  cases x e with
  | string s => exact bounds_kr (k := fun l hh _ h => .ok (.string ⟨⟨takeL (Nat.sub hh l) (dropL l s.data.toList)⟩⟩) h) fun a b c => .ok _
  | _ => exact .no
theorem cutF_kr {el s : Nat} {a : Option Addr} {mx : Bool} {l hh m : Nat} : Kr fun h => cutF el s a mx l hh m h := by
  unfold cutF
  cases mx with
  | true => exact sliceOf_kr
  | false =>
    cases l with
    | zero => exact sliceOf_kr
    | succ l =>
      intro h h2 hb
      have : fitsE el a h2 = fitsE el a h := by
        unfold fitsE
        cases a with
        | none => rfl
        | some a =>
          have : rowOf h2 a.block = rowOf h a.block := by unfold rowOf; rw [hb]
          simp only [this]
      simp only [this]
      cases fitsE el a h with
      | true => exact sliceOf_kr h h2 hb
      | false => rfl
theorem oCut_kp {el s : Nat} {lo hi mx : Option O} : Kp (oCut el s x lo hi mx) := fun F e => by
  unfold oCut
  cases x e with
  | slice a n c => exact bounds_kr (k := fun l hh m h => cutF el s a mx.isSome l hh m h) fun _ _ _ => cutF_kr
  | _ => exact .no
theorem oCutArr_kp {n s : Nat} {lo hi mx : Option O} : Kp (oCutArr n s x lo hi mx) := fun F e => by
  unfold oCutArr
  cases adrV (x e) with
  | ok a => exact bounds_kr (k := fun l hh m h => sliceOf (some a) s l hh m h) fun _ _ _ => sliceOf_kr
  | no => exact .no
theorem oFieldAddr_kp {o : Nat} : Kp (oFieldAddr o x) := fun F e => by
  unfold oFieldAddr
  cases adrV (x e) with
  | ok a => exact ptrTo_kr
  | no => exact .no
theorem oField_kp {g : Bool} {s o : Nat} : Kp (oField g s o x) := fun F e => by
  unfold oField
  cases x e with
  | agg cs => exact partL_kr
  | _ => exact .no
theorem idxF_kr {n s : Nat} {a : AA} {i : NN} : Kr fun h => idxF n s a i h := by
  unfold idxF
  cases i with
  | no => exact .no
  | ok i =>
    simp only
    cases Nat.blt i n with
    | false => exact .no
    | true =>
      cases a with
      | no => exact .no
      | ok a => exact ptrTo_kr
theorem oIdxArr_kp {n s : Nat} : Kp (oIdxArr n s x y) := fun F e => idxF_kr
theorem oIdx_kp {s : Nat} : Kp (oIdx s x y) := fun F e => by
  unfold oIdx
  cases x e with
  | slice a n c => cases a; exact .no; exact idxF_kr
  | _ => exact .no
theorem oAt_kp {g : Bool} {n s : Nat} : Kp (oAt g n s x y) := fun F e => by
  show Kr fun h => atF g n s (x e) (natV (y e)) h
  unfold atF
  cases natV (y e) with
  | no => exact .no
  | ok i =>
    refine .bif ?_ .no
    cases x e with
    | agg cs => exact partL_kr
    | _ => exact .no
theorem oAtStr_kp : Kp (oAtStr x y) := fun F e => by
  show Kr fun h => atStrF (x e) (natV (y e)) h
  unfold atStrF
  cases natV (y e) with
  | no => exact .no
  | ok i =>
    simp only
    cases x e with
    | string s =>
      simp only
      cases nth s.data.toList i with
      | some b => exact .okI _ _
      | none => exact .no
    | _ => exact .no
theorem oExtract_kp {i : Nat} : Kp (oExtract i x) := fun F e => by
  unfold oExtract
  cases x e with
  | tuple vs =>
    simp only
    cases nth vs.toList i with
    | some v => exact .forceV (k := fun v h => .ok v h) fun v => .ok v
    | none => exact .no
  | _ => exact .no
theorem oArr_kp {n : Nat} : Kp (oArr n x) := fun F e => by
  unfold oArr
  cases x e with
  | slice a l c => cases a; exact .no; exact .bif (.ok _) .no
  | _ => exact .no
theorem oLenS_kp : Kp (oLenS x) := fun F e => by
  unfold oLenS
  cases x e with
  | slice a n c => exact .ok _
  | _ => exact .no
theorem oLenT_kp : Kp (oLenT x) := fun F e => by
  unfold oLenT
  cases x e with
  | string s => exact .forceN (k := fun n h => .ok (.int .i64 (.ofNat n)) h) fun n => .ok _
  | _ => exact .no
theorem oLenM_kp : Kp (oLenM x) := fun F e => by
  unfold oLenM
  cases x e with
  | map r =>
    cases r with
    | none => exact .ok _
    | some r => exact .ents (k := fun es _ h => forceN (lenL es) fun n => .ok (.int .i64 (.ofNat n)) h) (z := fun _ => .no) (fun es _ => .forceN (k := fun n h => .ok (.int .i64 (.ofNat n)) h) fun n => .ok _) .no
  | _ => exact .no
theorem minmax_kr {l : Bool} {a b : Value} : Kr fun h => minmax l a b h := by
  unfold minmax
  cases a with
  | int k a =>
    simp only
    cases intV b with
    | no => exact .no
    | ok b => exact .bif (.ok _) (.ok _)
  | _ => exact .no
theorem oMin_kp : Kp (oMin x y) := fun F e => minmax_kr
theorem oMax_kp : Kp (oMax x y) := fun F e => minmax_kr
theorem oLoad1_kp : Kp (oLoad1 x) := fun F e => by
  unfold oLoad1
  cases adrV (x e) with
  | no => exact .no
  | ok a =>
    intro h h2 hb
    show load1 a h2 = lift h2 (load1 a h)
    have : rowOf h2 a.block = rowOf h a.block := by unfold rowOf; rw [hb]
    unfold load1
    rw [this]
    cases rowOf h a.block with
    | no => rfl
    | ok c s t =>
      simp only
      cases Nat.blt a.off s with
      | false => rfl
      | true => simp only [forceV_is]; rfl
theorem oLoadN_kp {n : Nat} : Kp (oLoadN n x) := fun F e => by
  unfold oLoadN
  cases adrV (x e) with
  | no => exact .no
  | ok a => exact .row (k := fun c s _ h => bif Nat.ble (Nat.add a.off n) s then getN c a.off (fun l => .ok (.agg ⟨l⟩) h) n [] else .no) (z := fun _ => .no) (fun c s _ => .bif (getN_kr (k := fun l h => .ok (.agg ⟨l⟩) h) (fun l => .ok _) _ _) .no) .no
theorem oLookup_kp {K : KS} {zv : Value} {ok : Bool} : Kp (oLookup K zv ok x y) := fun F e => by
  show Kr fun h => lookupF K zv (x e) (y e) ok h
  unfold lookupF
  cases fitK K (y e) with
  | false => exact .no
  | true =>
    simp only
    cases x e with
    | map r =>
      cases r with
      | none => exact lookOut_kr
      | some r =>
        refine .ents (k := fun es _ h => match findE K (y e) es with
          | some (some en) => lookOut ok en.val true h
          | some none => lookOut ok zv false h
          | none => .no) (z := fun _ => .no) (fun es _ => ?_) .no
        cases findE K (y e) es with
        | none => exact .no
        | some o => cases o <;> exact lookOut_kr
    | _ => exact .no
end
section
variable {ty : TTy} {f : Fr}
theorem binC_kp {op : BinOp} {t : Nat} {x y : Operand} : Kp (binC ty f op t x y) := by
  unfold binC
  refine .wTy fun ti _ => .w2 fun x y => ?_
  split
  · split
    · cases op <;> first | exact oNilI_kp | exact .oNo
    · exact .oNo
  · cases op <;> first | exact oAdd_kp | exact oAri_kp | exact oDiv_kp | exact oRem_kp | exact oBit_kp | exact oShl_kp | exact oShr_kp | exact oCmp_kp | exact .oNo
  · cases op <;> first | exact oCat_kp | exact oStr_kp | exact .oNo
  · split
    · cases op <;> first | exact oEqC_kp | exact .oNo
    · exact .oNo
  · split
    · cases op <;> first | exact oEqC_kp | exact .oNo
    · exact .oNo
  · cases op <;> first | exact oEq_kp | exact .oNo

theorem opC_kp {op : Op} (hk : kd ty op = .p ∨ ∃ x, kd ty op = .r x) : Kp (opC ty f op) := by
  cases op with
  | move x => exact .w1 fun x => oMove_kp
  | assign x => exact .w1 fun x => oMove_kp
  | pick c a b => exact .w1 fun c => .w2 fun a b => oPick_kp
  | build t ps =>
    refine .wTy fun ti _ => .wZ ?_
    split
    · split
      · exact oBuild_kp
      · exact .oNo
    · refine .wTy fun ei _ => ?_
      split
      · exact oBuild_kp
      · exact .oNo
    · exact .oNo
  | load t x =>
    refine .wTy fun ti _ => .w1 fun x => ?_
    split
    · exact oLoadN_kp
    · exact oLoad1_kp
  | nilCheck x => exact .w1 fun x => oNil_kp
  | binOp op t x y u => exact binC_kp
  | unOp op t x =>
    refine .wTy fun ti _ => .w1 fun x => ?_
    split <;> first | exact oNot_kp | exact oNeg_kp | exact oCpl_kp | exact .oNo
  | convert src dst x =>
    refine .wTy fun si hsi => .wTy fun di hdi => .w1 fun x => ?_
    split
    · exact oConv_kp
    · exact oSame_kp
    · refine .wTy fun ei _ => ?_
      split
      · exact oToStr_kp
      · exact .oNo
    · rename_i hd hs
      exfalso
      simp only [kd] at hk
      cases hb : Nat.beq src dst with
      | true => simp only [hb] at hk; rcases hk with hk | ⟨_, hk⟩ <;> cases hk
      | false =>
        have h1 : isIntT ty src = false := by unfold isIntT; rw [hsi]; simp only [hs]
        have h2 : isSliceT ty dst = true := by unfold isSliceT; rw [hdi]; simp only [hd]
        simp only [hb, h1, h2] at hk
        rcases hk with hk | ⟨_, hk⟩ <;> cases hk
    · rename_i hs hd
      split
      · rename_i hb
        exfalso
        simp only [kd, hb] at hk
        rcases hk with hk | ⟨_, hk⟩ <;> cases hk
      · exact .oNo
    · exact .oNo
  | makeInterface t x =>
    refine .wTy fun ti _ => .w1 fun x => ?_
    split
    · exact .oNo
    · exact oIface_kp
  | makeFunc fn a b =>
    show Kp (match cOs f a.toList, cOs f b.toList with
      | some fs, some c => oFunc fn fs c
      | _, _ => oNo)
    split
    · exact oFunc_kp
    · exact .oNo
  | slice t x lo hi mx =>
    refine .wTy fun ti _ => .w1 fun x => ?_
    split
    · split
      · split
        · exact oCutStr_kp
        · exact .oNo
      · exact .wTy fun ei _ => oCut_kp
      · exact .wTy fun ei _ => oCutArr_kp
      · exact .oNo
    · exact .oNo
  | fieldAddr t x i =>
    refine .wTy fun ti _ => .w1 fun x => ?_
    split
    · split <;> first | exact oFieldAddr_kp | exact .oNo
    · exact .oNo
  | field t x i =>
    refine .wTy fun ti _ => .w1 fun x => ?_
    split
    · split
      · exact .wTy fun fi _ => oField_kp
      · exact .oNo
    · exact .oNo
  | indexAddr t x i =>
    refine .wTy fun ti _ => .w2 fun x y => ?_
    split
    · exact .wTy fun fi _ => oIdxArr_kp
    · exact .wTy fun fi _ => oIdx_kp
    · exact .oNo
  | index t x i =>
    refine .wTy fun ti _ => .w2 fun x y => ?_
    split
    · exact .wTy fun fi _ => oAt_kp
    · exact oAtStr_kp
    · exact .oNo
  | lookup t x i ok =>
    refine .wTy fun ti _ => .w2 fun x y => ?_
    split
    · exact .wTy fun ei _ => .wZ (.wZero fun z => .wKey fun ks => oLookup_kp)
    · exact .oNo
  | extract t i => exact .w1 fun t => oExtract_kp
  | sliceToArrayPointer t x =>
    refine .wTy fun ti _ => ?_
    split
    · exact .w1 fun x => oArr_kp
    · exact .oNo
  | call c =>
    simp only [kd] at hk
    cases hc : c.callee with
    | builtin b =>
      show Kp (match cOs f c.args.toList with
        | some args => match c.callee with
          | .builtin b => builtC ty b c.argTypes.toList args
          | .value g => match g with
            | .func g => oCall g args
            | g => w1 f g fun g => oApply g args
          | .invoke recv name => w1 f recv fun x => oInvoke (ty.meths name fun k => k) x args
        | none => oNo)
      split
      · rename_i args ha
        simp only [hc]
        cases b with
        | len =>
          unfold builtC
          split <;> rename_i h1 <;> first | (cases h1; done) | skip
          all_goals (try (exact .oNo))
          split
          · refine .wTy fun ti _ => ?_
            split
            · exact oLenS_kp
            · exact oLenT_kp
            · exact oLenM_kp
            · exact oMove_kp
            · exact .oNo
          · exact .oNo
        | min =>
          unfold builtC
          split <;> rename_i h1 <;> first | (cases h1; done) | exact oMin_kp | exact .oNo
        | max =>
          unfold builtC
          split <;> rename_i h1 <;> first | (cases h1; done) | exact oMax_kp | exact .oNo
        | _ =>
          exfalso
          simp only [hc] at hk
          cases hl : c.args.toList with
          | nil => simp only [hl] at hk; rcases hk with hk | ⟨_, hk⟩ <;> cases hk
          | cons _ _ => simp only [hl] at hk; rcases hk with hk | ⟨_, hk⟩ <;> cases hk
      · exact .oNo
    | _ =>
      exfalso
      simp only [hc] at hk
      rcases hk with hk | ⟨_, hk⟩ <;> cases hk
  | _ => first | exact .oNo | (exfalso; rcases hk with hk | ⟨_, hk⟩ <;> cases hk)
end
end Go.Proofs.Ytkafejncffinmaa
