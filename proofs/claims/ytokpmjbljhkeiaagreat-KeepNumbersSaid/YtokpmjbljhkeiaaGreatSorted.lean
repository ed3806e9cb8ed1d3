/-
  slices.Sorted(maps.Keys(m)) as one step, the keys ints from 0: the kit's contracts say what the call does; it is what the machine gives.
-/
import Derived.Test.YtokpmjbljhkeiaaGreatFns
import Derived.Shelf.SlIterI.Nil
import Derived.Shelf.SortM.Plain
import Derived.Shelf.SortM.SortNone
set_option linter.unusedSimpArgs false
set_option linter.unusedVariables false
namespace Go.Proofs.YtokpmjbljhkeiaaGreat
open Go Go.Proofs Go.RowKit Go.Shelf Go.Maps Go.MapKept Go.ChangeShapes

/-! ### the machine's step -/
noncomputable def insN (m : Nat) : List Nat → List Nat
  | [] => [m]
  | x :: l => match Nat.ble m x with
    | true => m :: x :: l
    | false => x :: insN m l
noncomputable def sortN : List Nat → List Nat
  | [] => []
  | x :: l => insN x (sortN l)
noncomputable def ascN : List Nat → Bool
  | [] => true
  | x :: l => (match l with
    | [] => true
    | y :: _ => Nat.blt x y) && ascN l
noncomputable def natKey : Value → Option Nat
  | .int k n => match k, n with
    | .i64, .ofNat m => some m
    | _, _ => none
  | _ => none
noncomputable def keysN (clk : Nat) : List Ent → Nat → Option (List Nat)
  | [], _ => some []
  | e :: l, lo => match natKey e.key with
    | some m => match Nat.blt m 9223372036854775808 && (Nat.ble lo e.born && Nat.blt e.born clk) with
      | true => match keysN clk l (Nat.succ e.born) with
        | some r => some (m :: r)
        | none => none
      | false => none
    | none => none
noncomputable def nv (m : Nat) : Value := .int .i64 (.ofNat m)
noncomputable def sortedK (t : Nat) (h : Hp) : List Nat → R
  | [] => .ok (.slice none 0 0) h
  | x :: l => match ascN (x :: l) with
    | true => forceN (lenL (x :: l)) fun n => newRow h (Nat.succ t) ((x :: l).map nv) (slcNew n n)
    | false => .no
noncomputable def sortedV (t : Nat) (h : Hp) (v : Value) : R := match v with
  | .map none => .ok (.slice none 0 0) h
  | .map (some r) => match entsOf h r with
    | .ok es clk => match Nat.ble (lenL es) 1000000 with
      | true => match keysN clk es 0 with
        | some ks => sortedK t h (sortN ks)
        | none => .no
      | false => .no
    | .no => .no
  | _ => .no
noncomputable def sortedA (t : Nat) (a : Addr) (h : Hp) : R := match Nat.beq a.off 0 && Nat.ble 256 a.block with
  | true => match rowOf h a.block with
    | .ok c s e => match Nat.beq e 0 && Nat.blt 0 s with
      | true => sortedV t h (c.get 0)
      | false => .no
    | .no => .no
  | false => .no
noncomputable def sortedF (Ks : List Nat) (t : Nat) (args : List Value) (h : Hp) : R := match args with
  | [v] => match v with
    | .func fn f c => match fn with
      | .func g => match memN g Ks with
        | true => match f.toList with
          | [] => match c.toList with
            | [p] => match p with
              | .pointer (some a) => sortedA t a h
              | _ => .no
            | _ => .no
          | _ :: _ => .no
        | false => .no
      | _ => .no
    | _ => .no
  | _ => .no
noncomputable def bSorted (Ks : List Nat) (t : Nat) : Body := ⟨[.x (fun _ => sortedF Ks t)], cNo⟩

/-! ### sorting -/
theorem insN_perm (m : Nat) : ∀ l : List Nat, (insN m l).Perm (m :: l)
  | [] => .refl _
  | x :: l => by
    unfold insN
    split
    · exact .refl _
    · exact ((insN_perm m l).cons x).trans (.swap m x l)
theorem sortN_perm : ∀ l : List Nat, (sortN l).Perm l
  | [] => .refl _
  | x :: l => (insN_perm x _).trans ((sortN_perm l).cons x)
theorem ascN_pair : ∀ {l : List Nat}, ascN l = true → l.Pairwise (· < ·)
  | [], _ => .nil
  | x :: l, h => by
    unfold ascN at h
    rw [Bool.and_eq_true] at h
    have hl := ascN_pair h.2
    refine List.pairwise_cons.2 ⟨fun y hy => ?_, hl⟩
    cases l with
    | nil => cases hy
    | cons z l =>
      have h1 : x < z := nat_blt.1 h.1
      rcases List.mem_cons.1 hy with rfl | hy
      · exact h1
      · exact Nat.lt_trans h1 ((List.pairwise_cons.1 hl).1 y hy)
theorem nv_inj {a b : Nat} (h : nv a = nv b) : a = b := by
  unfold nv at h
  injection h with _ h
  injection h
theorem sortN_merge {ks : List Nat} (h : ascN (sortN ks) = true) : ((ks.map Int.ofNat).mergeSort leI).map encZ = (sortN ks).map nv := by
  have hp := ascN_pair h
  have h1 : (ks.map Int.ofNat).mergeSort leI = ((sortN ks).map Int.ofNat).mergeSort leI := mergeSort_of_perm_i ((sortN_perm ks).symm.map _)
  have h2 : ((sortN ks).map Int.ofNat).Pairwise (fun a b => leI a b = true) := List.pairwise_map.2 (hp.imp fun {a b} hab => by
    simp only [leI, decide_eq_true_eq]
    exact Int.ofNat_le.2 (Nat.le_of_lt hab))
  rw [h1, List.mergeSort_of_pairwise h2, List.map_map]
  rfl

/-! ### the kit's word -/
structure SortedSays (P : Program) (S K t : Nat) : Prop where
  nil : ∀ (w : World) (b : Nat), b < w.heap.size → w.cell? ⟨b, 0, none⟩ = some (.map none) →
    Calls P S #[.func (.func K) #[] #[.pointer (some ⟨b, 0, none⟩)]] w fun e w' => e = .returned (.slice none 0 0) ∧ Below w.heap.size w w'
  map : ∀ (w : World) (b r : Nat) (es : Array MapEntry) (clk : Nat) (ks : List Nat), b < w.heap.size → w.cell? ⟨b, 0, none⟩ = some (.map (some r)) → w.heap[r]? = some (.map es clk) → es.size ≤ 1000000 → Stamped es clk →
    es.toList.map (·.key) = ks.map nv → (∀ k ∈ ks, k < 9223372036854775808) →
    Calls P S #[.func (.func K) #[] #[.pointer (some ⟨b, 0, none⟩)]] w fun e w' => ∃ v, e = .returned v ∧ w'.ownsRow w.heap.size t 1 v ks.length (((ks.map Int.ofNat).mergeSort leI).map encZ) ∧ (v = .slice none 0 0 ↔ ks = []) ∧ Below w.heap.size w w'

def keyV : Value → Int
  | .int _ q => q
  | _ => 0
theorem nv_wf {m : Nat} (h : m < 9223372036854775808) : (Lit.int .i64 (Int.ofNat m)).wf = true := by
  simp [Lit.wf, IntKind.min, IntKind.max, IntKind.signed, IntKind.bits]
  omega
theorem sortedSays {P : Program} {ρ ρ' : Ren} (L : SlLaysZI.n6 P ρ) (L' : SlLaysZI.n10 P ρ') (hsort : ∀ m, AnyZI.SortsIn P ρ Fence.wide m)
    (e9 : ∀ args w, (callFunc (ρ.f 9) args).run P w = .ok (.enter (ρ.f 9) args) w) (eg : ∀ args w, (callFunc (ρ'.f 10) args).run P w = .ok (.enter (ρ'.f 10) args) w) : SortedSays P (ρ.f 6) (ρ'.f 10) (ρ.t 26) where
  nil := fun w b hb hc => by
    have hseq : SeqGives Fence.wide 2 P (ρ'.f 10) #[.pointer (some ⟨b, 0, none⟩)] encZ (fun ss : List Int => ss = []) 0 w := AnyZI.keys_gives_nil L' Fence.wide 2 trivial rfl b w hb hc
    have cS := AnyZI.sorted_in L Fence.wide 5 trivial trivial trivial trivial rfl (by omega) (hsort _) e9 (ρ'.f 10) #[.pointer (some ⟨b, 0, none⟩)] trivial eg _ 0 (Nat.zero_le _) (by omega) w hseq
    refine (callsIn_wide.1 cS).mono ?_
    rintro e w' ⟨v, ss, rfl, rfl, hrow, hnil, hbl⟩
    exact ⟨by rw [hnil.2 rfl], hbl⟩
  map := fun w b r es clk ks hb hc hr hsz hst hk hlt => by
    let R : Value → Option (DataW Unit × List MemPlace) := fun _ => some (.nil, [])
    have hkey : ∀ x ∈ es.toList, ∃ m, x.key = nv m ∧ m < 9223372036854775808 := fun x hx => by
      have : x.key ∈ ks.map nv := hk ▸ List.mem_map_of_mem hx
      obtain ⟨m, hm, he⟩ := List.mem_map.1 this
      exact ⟨m, he.symm, hlt m hm⟩
    have hrd : ∀ x ∈ es.toList, ∀ m, x.key = nv m → m < 9223372036854775808 → Go.WideElems.rd P (ρ'.t 26) R x = some (.int .i64 (Int.ofNat m), .nil) := fun x hx m he hm => by
      unfold Go.WideElems.rd
      rw [he, nv, keyOf_int_mk L'.t26 (nv_wf hm)]
      rfl
    have hown : w.ownsMap P (ρ'.t 26) R r es.size (.map ((es.toList.map (Go.WideElems.rg P (ρ'.t 26) R)).foldr DataW.insert [])) :=
      ⟨es, clk, hr, ⟨by unfold maxLen; omega, hst, fun x hx => by
        obtain ⟨m, he, hm⟩ := hkey x hx
        exact ⟨_, hrd x hx m he hm⟩⟩, Nat.le_refl _, rfl⟩
    have hlen : Maps.size (DataW.map ((es.toList.map (Go.WideElems.rg P (ρ'.t 26) R)).foldr DataW.insert [])) = es.size := by
      show ((es.toList.map (Go.WideElems.rg P (ρ'.t 26) R)).foldr DataW.insert []).length = _
      rw [(Go.WideShapes.sorted_perm _).length_eq]
      simp
    have hper : (intKeys (DataW.map ((es.toList.map (Go.WideElems.rg P (ρ'.t 26) R)).foldr DataW.insert []))).Perm (ks.map Int.ofNat) := by
      show (((es.toList.map (Go.WideElems.rg P (ρ'.t 26) R)).foldr DataW.insert []).map fun p => Go.intOf p.1).Perm _
      refine ((Go.WideShapes.sorted_perm _).map _).trans ?_
      have e1 : ks.map Int.ofNat = es.toList.map fun x => keyV x.key := by
        have : (es.toList.map (·.key)).map keyV = (ks.map nv).map keyV := by rw [hk]
        rw [List.map_map, List.map_map] at this
        exact this.symm
      have e2 : (es.toList.map (Go.WideElems.rg P (ρ'.t 26) R)).map (fun p => Go.intOf p.1) = es.toList.map fun x => keyV x.key := by
        rw [List.map_map]
        refine List.map_congr_left fun x hx => ?_
        obtain ⟨m, he, hm⟩ := hkey x hx
        show Go.intOf (Go.WideElems.rg P (ρ'.t 26) R x).1 = keyV x.key
        unfold Go.WideElems.rg
        rw [hrd x hx m he hm, he]
        rfl
      rw [e1, e2]
    have hseq := AnyZI.keys_gives L' Fence.wide 2 trivial rfl (by omega) b r es.size _ w hb hc hown
    have cS := AnyZI.sorted_in L Fence.wide 5 trivial trivial trivial trivial rfl (by omega) (hsort _) e9 (ρ'.f 10) #[.pointer (some ⟨b, 0, none⟩)] trivial eg _ _ (by rw [hlen]; unfold maxLen; omega) (by rw [hlen]; omega) w hseq
    refine (callsIn_wide.1 cS).mono ?_
    rintro e w' ⟨v, ss, rfl, hS, hrow, hnil, hbl⟩
    have hp : ss.Perm (ks.map Int.ofNat) := hS.trans hper
    have hl : ss.length = ks.length := by rw [hp.length_eq]; simp
    refine ⟨v, rfl, ?_, hnil.trans ?_, hbl⟩
    · have h1 : ss.mergeSort leI = (ks.map Int.ofNat).mergeSort leI := mergeSort_of_perm_i hp
      rw [← hl, ← h1]; exact hrow
    · constructor
      · rintro rfl
        simp only [List.length_nil] at hl
        exact List.eq_nil_of_length_eq_zero hl.symm
      · rintro rfl
        exact List.eq_nil_of_length_eq_zero hl

/-! ### the step is what the call does -/
section
variable {P : Program} {ty : TTy} {φ : Phi} {E : Nat → Prop} {h h' : Hp} {w w' : World} {v : Value}

theorem RelW.below (H : RelW ty φ E h w) (hb : Below w.heap.size w w') : RelW ty φ E h w' ∧ Evo φ h w φ h w' :=
  ⟨{ dom := fun i p e => ⟨(H.dom i p e).1, Nat.lt_of_lt_of_le (H.dom i p e).2 hb.size⟩
     inj := H.inj
     row := fun i p e hE => (by rw [hb.block _ (H.dom i p e).2]; exact H.row i p e hE)
     fresh := H.fresh
     kind := H.kind
     inp := H.inp },
   { le := .refl _
     new := fun _ _ e => .inl e
     next := Nat.le_refl _
     size := hb.size
     tape := hb.tape
     os := hb.os
     output := hb.output
     frame := fun k hk _ => hb.block k hk
     back := fun i p e hl _ => ⟨i, p, e, hl, rfl, rfl, .inl rfl⟩
     kept := fun _ _ _ => rfl
     low := Nat.le_refl _
     high := Nat.le_refl _
     shape := fun _ _ => .refl _
     only := fun _ _ _ => rfl
     all := fun _ h1 h2 => absurd h2 (Nat.not_lt.2 h1) }⟩

theorem natKey_ok {u u' : Value} {m : Nat} (hn : natKey u = some m) (hr : RelV φ u u') : u' = nv m := by
  unfold natKey at hn
  split at hn
  · split at hn
    · cases hn; cases hr; rfl
    · cases hn
  · cases hn
theorem keysN_ok {clk : Nat} : ∀ {es : List Ent} {es' : List MapEntry} {lo : Nat} {ks : List Nat}, keysN clk es lo = some ks → RelE φ es es' →
    es'.map (·.key) = ks.map nv ∧ (∀ k ∈ ks, k < 9223372036854775808) ∧ (∀ x ∈ es', lo ≤ x.born ∧ x.born < clk) ∧ (es'.map (·.born)).Nodup
  | [], es', lo, ks, hk, he => by
    cases he
    cases hk
    exact ⟨rfl, (fun k hk => by cases hk), (fun x hx => by cases hx), .nil⟩
  | e :: es, es', lo, ks, hk, he => by
    cases he with
    | @cons k k' v v' b _ l' hkey hv ht =>
    unfold keysN at hk
    split at hk
    case h_2 => cases hk
    rename_i m hm
    split at hk
    case h_2 => cases hk
    rename_i hb
    simp only [Bool.and_eq_true] at hb
    split at hk
    case h_2 => cases hk
    rename_i r hr
    cases hk
    obtain ⟨h1, h2, h3, h4⟩ := keysN_ok hr ht
    have b1 : lo ≤ b := nat_ble.1 hb.2.1
    have b2 : b < clk := nat_blt.1 hb.2.2
    refine ⟨?_, fun x hx => ?_, fun x hx => ?_, ?_⟩
    · simp only [List.map_cons, h1, natKey_ok hm hkey]
    · rcases List.mem_cons.1 hx with rfl | hx
      · exact nat_blt.1 hb.1
      · exact h2 x hx
    · rcases List.mem_cons.1 hx with rfl | hx
      · exact ⟨b1, b2⟩
      · have := h3 x hx
        have h5 : b + 1 ≤ x.born := this.1
        exact ⟨by omega, this.2⟩
    · rw [List.map_cons, List.nodup_cons]
      refine ⟨fun hx => ?_, h4⟩
      obtain ⟨x, hx, he⟩ := List.mem_map.1 hx
      have h5 : b + 1 ≤ x.born := (h3 x hx).1
      have he : x.born = b := he
      omega

theorem sortedF_inv {Ks : List Nat} {t : Nat} {args : List Value} (hr : sortedF Ks t args h = .ok v h') : ∃ g a, args = [.func (.func g) ⟨[]⟩ ⟨[.pointer (some a)]⟩] ∧ memN g Ks = true ∧ sortedA t a h = .ok v h' := by
  unfold sortedF at hr
  split at hr
  case h_2 => cases hr
  split at hr
  case h_2 => cases hr
  rename_i fn f c
  split at hr
  case h_2 => cases hr
  rename_i g
  split at hr
  case h_2 => cases hr
  rename_i hm
  split at hr
  case h_2 => cases hr
  rename_i hf
  split at hr
  case h_2 => cases hr
  rename_i p hc
  split at hr
  case h_2 => cases hr
  rename_i a
  refine ⟨g, a, ?_, hm, hr⟩
  have e1 : f = ⟨[]⟩ := Array.ext' hf
  have e2 : c = ⟨[.pointer (some a)]⟩ := Array.ext' hc
  rw [e1, e2]

theorem sortedK_ok (H : RelW ty φ nil h w) {t : Nat} {ti : TI} (hty : ty.get t = some ti) (hs : ti.size = 1) {ks : List Nat} (hk : sortedK t h (sortN ks) = .ok v h') (hb : Below w.heap.size w w') {v' : Value}
    (ho : w'.ownsRow w.heap.size t 1 v' ks.length (((ks.map Int.ofNat).mergeSort leI).map encZ)) (hn : v' = .slice none 0 0 ↔ ks = []) :
    ∃ ψ, RelV ψ v v' ∧ RelW ty ψ nil h' w' ∧ Evo φ h w ψ h' w' := by
  have hpl := (sortN_perm ks).length_eq
  unfold sortedK at hk
  split at hk
  · rename_i he
    cases hk
    rw [he] at hpl
    have : ks = [] := List.eq_nil_of_length_eq_zero hpl.symm
    rw [hn.2 this]
    exact ⟨φ, .slice0, H.below hb⟩
  · rename_i x l he
    split at hk
    case h_2 => cases hk
    rename_i hasc
    rw [← he] at hasc hk
    rw [forceN_is, lenL_is, hpl] at hk
    have hpos : 0 < ks.length := by rw [← hpl, he]; simp
    rw [sortN_merge hasc] at ho
    obtain ⟨_, ⟨_, h0⟩ | ⟨g, cap, cur, rfl, hg, hgb, hcap, _, hcs, htake⟩⟩ := ho
    · omega
    unfold newRow at hk
    split at hk
    case h_2 => cases hk
    rename_i c hset
    unfold newRowT at hk
    rw [forceN_is] at hk
    obtain ⟨bl, hbl, hk'⟩ := newBlk_ok hk
    cases hk'
    have hlen : lenL ((sortN ks).map nv) = ks.length := by rw [lenL_is, List.length_map, hpl]
    rw [hlen] at hbl
    rw [Nat.mul_one] at hcs htake
    let p : Pl := { blk := g, off := 0, sz := ks.length, room := cap, es := 1 }
    have hsame : ∀ k, k < w.heap.size → w'.heap[k]? = w.heap[k]? := hb.block
    have hgl : g < w'.heap.size := (Array.getElem?_eq_some_iff.1 hgb).1
    have hB : RelB ty (φ.put h.next p) p (.cells c ks.length (Nat.succ t)) w'.heap[p.blk]? := by
      show RelB ty (φ.put h.next p) p (.cells c ks.length (Nat.succ t)) w'.heap[g]?
      rw [hgb]
      refine .cells { kind := ⟨rfl, .inr ⟨t, ti, rfl, hty, hs.symm⟩⟩, room := hcap, fits := (by show 0 + cap ≤ cur.size; omega), loose := .inl (.inl rfl), cell := fun j hj => ?_ }
      have hj2 : j < ((sortN ks).map nv).length := by rw [List.length_map, hpl]; exact hj
      have e1 := setAll_new hset j hj2
      rw [e1]
      refine ⟨((sortN ks).map nv).getD j undef, ?_, ?_⟩
      · show cur[0 + j]? = _
        rw [Nat.zero_add, ← Array.getElem?_toList]
        have e2 : (cur.toList.take ks.length)[j]? = ((sortN ks).map nv)[j]? := by rw [htake]
        rw [List.getElem?_take, if_pos hj] at e2
        rw [e2, List.getD_eq_getElem?_getD, List.getElem?_eq_getElem hj2]
        rfl
      · rw [List.getD_eq_getElem?_getD, List.getElem?_eq_getElem hj2]
        show RelV _ (((sortN ks).map nv)[j]) _
        rw [List.getElem_map]
        exact .int _ _
    refine ⟨φ.put h.next p, ?_, H.new hbl hb.size hgl (fun j q e _ => by have := (H.dom j q e).2; show q.blk ≠ g; omega) (fun k hk _ => hsame k hk) hB, .made H hbl hg hb.size hsame hb.tape hb.os hb.output⟩
    refine .slice (Nat.le_refl _) ⟨rfl, rfl, p, Phi.put_self _ _ _, rfl, .inl ⟨hpos, rfl, .inr ⟨?_, hcap, ?_⟩⟩⟩
    · show 0 + ks.length * 1 = ks.length
      omega
    · show 0 + cap * 1 ≤ cap
      omega

theorem sorted_does {S t : Nat} {Ks : List Nat} {ti : TI} (hS : ∃ fn, P.funcs[S]? = some fn ∧ fn.name ≠ "runtime.NumGoroutine" ∧ fn.body.isNone = false) (hc : ∀ K, memN K Ks = true → SortedSays P S K t)
    (hty : ty.get t = some ti) (hs : ti.size = 1) : FnDoes P ty S (bSorted Ks t) := fun F args h v h' _ hr => ⟨hS, fun φ w args' hrel H => by
  have hr : sortedF Ks t args h = .ok v h' := hr
  obtain ⟨g, a, rfl, hg, hr⟩ := sortedF_inv hr
  obtain ⟨cn, cm⟩ := hc g hg
  cases hrel with
  | cons hv hn =>
  cases hn
  cases hv with
  | func _ h1 h2 =>
  cases h1
  cases h2 with
  | cons hp hn =>
  cases hn
  cases hp with
  | @ptr _ a' ha =>
  obtain ⟨s1, s2, p, hp, hbl, ho⟩ := ha
  unfold sortedA at hr
  split at hr
  case h_2 => cases hr
  rename_i hq
  rw [Bool.and_eq_true] at hq
  have q1 := nat_beq.1 hq.1
  have q2 := nat_ble.1 hq.2
  split at hr
  case h_2 => cases hr
  rename_i c s e hrow
  split at hr
  case h_2 => cases hr
  rename_i hq3
  rw [Bool.and_eq_true] at hq3
  have q3 := nat_beq.1 hq3.1
  have q4 := nat_blt.1 hq3.2
  subst q3
  have hoff : p.off = 0 := by
    rcases (H.kind a.block p c s 0 hp (rowOf_ok hrow)).2 with ⟨_, _, _, h0 | h0⟩ | ⟨_, _, h0, _⟩
    · exact h0
    · have := H.inp a.block p hp h0
      omega
    · omega
  have ea : a' = ⟨p.blk, 0, none⟩ := by
    obtain ⟨ab, ao, asp⟩ := a'
    simp only at s2 hbl ho
    subst s2; subst hbl
    congr 1
    omega
  subst ea
  obtain ⟨cs, tt, fr, hw, R⟩ := H.rowAt hp (fun h => h) hrow
  obtain ⟨x, hx, hxr⟩ := R.cell 0 q4
  rw [hoff, Nat.zero_add] at hx
  have hcell : w.cell? ⟨p.blk, 0, none⟩ = some x := by rw [cell_of hw]; exact hx
  have hpb := (H.dom _ _ hp).2
  generalize c.get 0 = y at hr hxr
  unfold sortedV at hr
  split at hr
  · cases hxr
    cases hr
    refine (cn w p.blk hpb hcell).mono ?_
    rintro e w' ⟨rfl, hb⟩
    exact ⟨_, φ, rfl, .slice0, H.below hb⟩
  · rename_i r
    cases hxr with
    | map hq =>
    rename_i q
    split at hr
    case h_2 => cases hr
    rename_i es clk hes
    split at hr
    case h_2 => cases hr
    rename_i hsz
    split at hr
    case h_2 => cases hr
    rename_i ks hks
    obtain ⟨es', hwm, hre⟩ := H.entsAt hq (fun h => h) hes
    obtain ⟨k1, k2, k3, k4⟩ := keysN_ok hks hre
    have hl : es'.length ≤ 1000000 := by
      have := nat_ble.1 hsz
      rw [lenL_is] at this
      have e2 : es'.length = es.length := by
        clear hes hwm hks k1 k2 k3 k4 hsz this
        induction hre with
        | nil => rfl
        | cons _ _ _ ih => simp only [List.length_cons, ih]
      omega
    have hnd : ks.Nodup := by
      have hasc : ascN (sortN ks) = true := by
        cases he : sortN ks with
        | nil => rfl
        | cons x l =>
          rw [he] at hr
          unfold sortedK at hr
          split at hr
          · rename_i e; cases e
          · rename_i e
            cases e
            split at hr
            · assumption
            · cases hr
      have := (ascN_pair hasc).imp fun {a b} (hab : a < b) => Nat.ne_of_lt hab
      exact (sortN_perm ks).nodup_iff.1 this
    have hst : Stamped ⟨es'⟩ clk := ⟨fun x hx => (k3 x hx).2, k4, by
      show (es'.map (·.key)).Nodup
      rw [k1]
      exact List.pairwise_map.2 (hnd.imp fun {a b} hab e => hab (nv_inj e))⟩
    refine (cm w p.blk q.blk ⟨es'⟩ clk ks hpb hcell hwm hl hst k1 k2).mono ?_
    rintro e w' ⟨v', rfl, ho, hn, hb⟩
    obtain ⟨ψ, r1, r2, r3⟩ := sortedK_ok H hty hs hr hb ho hn
    exact ⟨v', ψ, rfl, r1, r2, r3⟩
  · cases hr⟩
end
end Go.Proofs.YtokpmjbljhkeiaaGreat
