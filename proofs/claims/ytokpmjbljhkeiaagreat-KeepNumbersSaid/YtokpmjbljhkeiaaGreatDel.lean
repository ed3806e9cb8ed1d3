/-
  maps.DeleteFunc as one step: whether it is to go is asked of each entry by itself, out of the same memory, of which nothing is written.
-/
import Derived.Test.YtokpmjbljhkeiaaGreatFns
set_option linter.unusedSimpArgs false
set_option linter.unusedVariables false
namespace Go.Proofs.YtokpmjbljhkeiaaGreat
open Go

/-! ### the machine's step -/
/-- an entry's key, held against all keys, is its own alone -/
noncomputable def onlyE (K : KS) (x : Ent) : List Ent → Bool
  | [] => true
  | y :: l => match keyEq K x.key y.key with
    | some b => bif b == Nat.beq x.born y.born then onlyE K x l else false
    | none => false
noncomputable def onlyL (K : KS) (es : List Ent) : List Ent → Bool
  | [] => true
  | x :: l => bif onlyE K x es then onlyL K es l else false
noncomputable def intEq (a b : Value) : Bool := match a with
  | .int j x => match b with
    | .int k y => match sameK j k with
      | true => iEq x y
      | false => false
    | _ => false
  | _ => false
def delS : List Nat := [2, 3, 4, 5, 6, 8, 9, 11, 12, 13, 14, 15, 16, 17, 18]
noncomputable def delEnv (m f p : Value) (x : Ent) : Env := Env.set 10 (.tuple ⟨[x.key, x.val]⟩) (Env.set 7 p (clearS (setArgs e0 0 [m, f]) delS))
noncomputable def delR (K : KS) (body : C) (F : CallF) (m f p : Value) (n mark : Nat) (bl : BT) : List Ent → Option (List Ent)
  | [] => some []
  | x :: l => match body F (delEnv m f p x) { next := n, low := n, high := 0, mark := mark, bl := bl } with
    | .norm e1 h1 => bif Nat.ble n h1.low then (bif intEq (slotG 4 e1) x.key then (match slotG 16 e1 with
      | .bool d => match delR K body F m f p n mark bl l with
        | some r => match d with
          | true => some r
          | false => some (x :: r)
        | none => none
      | _ => none) else none) else none
    | _ => none
/-- the walk's own block stands where it is made, and is nothing to the machine -/
noncomputable def delM (K : KS) (body : C) (F : CallF) (r : Nat) (f : Value) (h : Hp) (es : List Ent) (c : Nat) : R := match h.bl.set h.next .dead with
  | some bl0 => match bl0.set r .dead with
    | some bld => forceN (Nat.succ h.next) fun n => match delR K body F (.map (some r)) f (.pointer (some ⟨h.next, 0, none⟩)) n h.mark bld es with
      | some es' => putBlk { next := n, low := h.low, high := h.high, mark := h.mark, bl := bl0 } r (.map es' c) okNone
      | none => .no
    | none => .no
  | none => .no
noncomputable def delF (K : KS) (body : C) (F : CallF) (args : List Value) (h : Hp) : R := match args with
  | m :: l => match l with
    | f :: l2 => match l2 with
      | [] => match m with
        | .map (some r) => match entsOf h r with
          | .ok es c => bif Nat.ble 256 r then (bif Nat.blt r h.next then (bif risingE c 0 es then (bif onlyL K es es then delM K body F r f h es c else .no) else .no) else .no) else .no
          | .no => .no
        | _ => .no
      | _ :: _ => .no
    | [] => .no
  | [] => .no
noncomputable def bDel (K : KS) (body : C) : Body := ⟨[.x (delF K body)], cNo⟩

/-! ### the function's code, its types given -/
section
variable (mt ft kt vt bt : Nat)
def dop0 : List Oper := [⟨some 6, .move (.tmp 0), mt, "maps.go:70", #[], none⟩, ⟨some 7, .range mt (.tmp 6), 0, "maps.go:70", #[⟨0, .data⟩], none⟩]
def dnx : Oper := ⟨some 8, .next (.tmp 7) false, 0, "maps.go:70", #[], none⟩
def dmo : Oper := ⟨some 9, .extract (.tmp 8) 0, bt, "maps.go:70", #[⟨0, .data⟩], none⟩
def dent : Oper := ⟨some 10, .entry (.tmp 7), 0, "maps.go:70", #[], none⟩
def dop2 : List Oper := [⟨some 11, .extract (.tmp 10) 0, kt, "maps.go:70", #[⟨0, .data⟩], none⟩,
  ⟨some 12, .extract (.tmp 10) 1, vt, "maps.go:70", #[⟨0, .data⟩, ⟨4, .gcOnly .lateStores⟩], none⟩,
  ⟨some 5, .alloc vt, 0, "maps.go:70", #[], none⟩,
  ⟨some 4, .assign (.tmp 11), kt, "maps.go:70", #[⟨1, .data⟩, ⟨0, .phase⟩, ⟨1, .phase⟩, ⟨2, .textOnly .lateStores⟩, ⟨3, .phase⟩], none⟩,
  ⟨none, .store vt (.tmp 5) (.tmp 12), 0, "maps.go:70", #[⟨3, .data⟩, ⟨2, .data⟩, ⟨4, .chain⟩, ⟨0, .phase⟩, ⟨1, .phase⟩, ⟨2, .phase⟩, ⟨3, .phase⟩, ⟨4, .phase⟩], none⟩]
def dop3 : List Oper := [⟨some 13, .move (.tmp 1), ft, "maps.go:71", #[], none⟩, ⟨some 14, .move (.tmp 4), kt, "maps.go:71", #[], none⟩, ⟨some 15, .load vt (.tmp 5), vt, "maps.go:71", #[], none⟩,
  ⟨some 16, .call ⟨.value (.tmp 13), #[.tmp 14, .tmp 15], #[kt, vt]⟩, bt, "maps.go:71", #[⟨0, .data⟩, ⟨1, .data⟩, ⟨2, .data⟩], none⟩]
def dop4 : List Oper := [⟨some 17, .move (.tmp 0), mt, "maps.go:72", #[], none⟩, ⟨some 18, .move (.tmp 4), kt, "maps.go:72", #[], none⟩,
  ⟨none, .call ⟨.builtin .delete, #[.tmp 17, .tmp 18], #[mt, kt]⟩, 0, "maps.go:72", #[⟨0, .data⟩, ⟨1, .data⟩], none⟩]
def dtail : Code := .seq (.region 3 (dop3 ft kt vt bt).toArray false) (.cond (.tmp 16) (.region 4 (dop4 mt kt).toArray false) .skip)
def drest : Code := .block 1 (.seq (.region 2 (dent :: dop2 kt vt).toArray false) (dtail mt ft kt vt bt))
def dloop : Code := .seq (.region 1 #[dnx, dmo bt] false) (.seq (.cond (.tmp 9) .skip (.exit 0)) (drest mt ft kt vt bt))
def delCode : Code := .seq (.region 0 (dop0 mt).toArray false) (.block 0 (.loop (dloop mt ft kt vt bt)))
end

/-! ### entries -/
theorem BT.set_any : ∀ (t : BT) (i : Nat) (x y : Blk) (t' : BT), t.set i x = some t' → ∃ t'', t.set i y = some t''
  | .mt, 0, x, y, t', h => ⟨_, rfl⟩
  | .mt, i + 1, x, y, t', h => by cases h
  | .nd v l r, 0, x, y, t', h => ⟨_, rfl⟩
  | .nd v l r, i + 1, x, y, t', h => by
    rw [BT.set_nd_succ] at h ⊢
    split at h
    · rename_i h0
      rw [if_pos h0]
      cases hs : l.set (i / 2) x with
      | none => rw [hs] at h; cases h
      | some l' =>
        obtain ⟨l2, hl2⟩ := BT.set_any l _ x y l' hs
        exact ⟨_, by rw [hl2]; rfl⟩
    · rename_i h0
      rw [if_neg h0]
      cases hs : r.set (i / 2) x with
      | none => rw [hs] at h; cases h
      | some r' =>
        obtain ⟨r2, hr2⟩ := BT.set_any r _ x y r' hs
        exact ⟨_, by rw [hr2]; rfl⟩
theorem BT.again : ∀ (t : BT) (i : Nat) (x y : Blk) (t' : BT), t.set i x = some t' → ∃ t'', t'.set i y = some t''
  | .mt, 0, x, y, t', h => by
    obtain rfl : BT.nd x .mt .mt = t' := Option.some.inj h
    exact ⟨_, rfl⟩
  | .mt, i + 1, x, y, t', h => by cases h
  | .nd v l r, 0, x, y, t', h => by
    obtain rfl : BT.nd x l r = t' := Option.some.inj h
    exact ⟨_, rfl⟩
  | .nd v l r, i + 1, x, y, t', h => by
    rw [BT.set_nd_succ] at h
    split at h
    · rename_i h0
      cases hs : l.set (i / 2) x with
      | none => rw [hs] at h; cases h
      | some l' =>
        rw [hs] at h
        obtain rfl : BT.nd v l' r = t' := Option.some.inj h
        obtain ⟨l2, hl2⟩ := BT.again l _ x y l' hs
        exact ⟨_, by rw [BT.set_nd_succ, if_pos h0, hl2]; rfl⟩
    · rename_i h0
      cases hs : r.set (i / 2) x with
      | none => rw [hs] at h; cases h
      | some r' =>
        rw [hs] at h
        obtain rfl : BT.nd v l r' = t' := Option.some.inj h
        obtain ⟨r2, hr2⟩ := BT.again r _ x y r' hs
        exact ⟨_, by rw [BT.set_nd_succ, if_neg h0, hr2]; rfl⟩
theorem onlyE_ok {K : KS} {x : Ent} : ∀ {l : List Ent}, onlyE K x l = true → ∀ y ∈ l, keyEq K x.key y.key = some (Nat.beq x.born y.born)
  | z :: l, h, y, hy => by
    unfold onlyE at h
    split at h
    · rename_i b hb
      obtain ⟨h1, h2⟩ := bif_true h
      rcases List.mem_cons.1 hy with rfl | hy
      · rw [hb, eq_of_beq h1]
      · exact onlyE_ok h2 y hy
    · cases h
theorem onlyL_ok {K : KS} {es : List Ent} : ∀ {l : List Ent}, onlyL K es l = true → ∀ x ∈ l, onlyE K x es = true
  | z :: l, h, x, hx => by
    unfold onlyL at h
    obtain ⟨h1, h2⟩ := bif_true h
    rcases List.mem_cons.1 hx with rfl | hx
    · exact h1
    · exact onlyL_ok h2 x hx
theorem rising_nodup {clk : Nat} : ∀ {es : List Ent} {lo : Nat}, risingE clk lo es = true → (es.map (·.born)).Nodup
  | [], _, _ => .nil
  | e :: l, lo, h => by
    unfold risingE at h
    obtain ⟨_, h⟩ := bif_true h
    obtain ⟨_, h⟩ := bif_true h
    rw [List.map_cons, List.nodup_cons]
    refine ⟨fun hm => ?_, rising_nodup h⟩
    obtain ⟨y, hy, he⟩ := List.mem_map.1 hm
    have h1 : e.born + 1 ≤ y.born := (risingE_ok h y hy).1
    have he : y.born = e.born := he
    omega
theorem beq_ne {a b : Nat} (h : a ≠ b) : Nat.beq a b = false := by
  cases hb : Nat.beq a b with
  | false => rfl
  | true => exact absurd (nat_beq.1 hb) h
theorem delE_only {K : KS} {x : Ent} : ∀ {l : List Ent}, (∀ y ∈ l, keyEq K x.key y.key = some (Nat.beq x.born y.born)) → (l.map (·.born)).Nodup → delE K x.key l = some (l.filter fun y => !Nat.beq x.born y.born)
  | [], _, _ => rfl
  | y :: l, h, hn => by
    rw [List.map_cons, List.nodup_cons] at hn
    unfold delE
    rw [h y List.mem_cons_self, List.filter_cons]
    cases hb : Nat.beq x.born y.born with
    | true =>
      have hxy := nat_beq.1 hb
      have : l.filter (fun y => !Nat.beq x.born y.born) = l := List.filter_eq_self.2 fun z hz => by
        have hne : x.born ≠ z.born := fun he => hn.1 (by rw [← hxy, he]; exact List.mem_map_of_mem (f := (·.born)) hz)
        rw [beq_ne hne]; rfl
      simp [this]
    | false =>
      have ih := delE_only (fun y hy => h y (List.mem_cons_of_mem _ hy)) hn.2
      rw [ih]
      simp
theorem intEq_ok {a b : Value} (h : intEq a b = true) : ∃ j n, a = .int j n ∧ b = .int j n := by
  unfold intEq at h
  split at h
  · split at h
    · split at h
      · rename_i hk
        rw [iEq_is] at h
        exact ⟨_, _, rfl, by rw [sameK_eq hk, eq_of_beq h]⟩
      · cases h
    · cases h
  · cases h
theorem delR_ok {K : KS} {body : C} {F : CallF} {m f p : Value} {n mark : Nat} {bl : BT} : ∀ {es r : List Ent}, (es.map (·.born)).Nodup → delR K body F m f p n mark bl es = some r →
    ∃ d : Nat → Bool, r = es.filter (fun x => !d x.born) ∧ ∀ x ∈ es, ∃ e1 h1, body F (delEnv m f p x) { next := n, low := n, high := 0, mark := mark, bl := bl } = .norm e1 h1 ∧ n ≤ h1.low ∧ intEq (slotG 4 e1) x.key = true ∧ slotG 16 e1 = .bool (d x.born)
  | [], r, _, hr => by cases hr; exact ⟨fun _ => false, rfl, fun x hx => by cases hx⟩
  | x :: l, r, hnd, hr => by
    rw [List.map_cons, List.nodup_cons] at hnd
    unfold delR at hr
    split at hr
    case h_2 => cases hr
    rename_i e1 h1 hb
    cases hl : Nat.ble n h1.low with
    | false => rw [hl] at hr; cases hr
    | true =>
      rw [hl] at hr
      simp only [cond_true] at hr
      cases hi : intEq (slotG 4 e1) x.key with
      | false => rw [hi] at hr; cases hr
      | true =>
        rw [hi] at hr
        simp only [cond_true] at hr
        split at hr
        case h_2 => cases hr
        rename_i dx hdx
        split at hr
        case h_2 => cases hr
        rename_i r' hr'
        obtain ⟨d, hd, hall⟩ := delR_ok hnd.2 hr'
        have hne : ∀ y ∈ l, y.born ≠ x.born := fun y hy he => hnd.1 (by rw [← he]; exact List.mem_map_of_mem (f := (·.born)) hy)
        refine ⟨fun b => if b = x.born then dx else d b, ?_, fun y hy => ?_⟩
        · have e2 : l.filter (fun y => !(if y.born = x.born then dx else d y.born)) = r' := by
            rw [hd]
            refine List.filter_congr fun y hy => ?_
            rw [if_neg (hne y hy)]
          rw [List.filter_cons, e2]
          cases dx with
          | true => cases hr; simp
          | false => cases hr; simp
        · rcases List.mem_cons.1 hy with rfl | hy
          · exact ⟨e1, h1, hb, nat_ble.1 hl, hi, by show _ = Value.bool (if _ = _ then _ else _); rw [if_pos rfl]; exact hdx⟩
          · obtain ⟨e2, h2, q1, q2, q3, q4⟩ := hall y hy
            exact ⟨e2, h2, q1, q2, q3, by show _ = Value.bool (if _ = _ then _ else _); rw [if_neg (hne y hy)]; exact q4⟩

/-! ### memories -/
section
variable {P : Program} {ty : TTy} {φ ψ : Phi} {h g : Hp} {w w' : World}
theorem RelW.keep (H : RelW ty φ nil h w) (hs : ∀ i p, φ i = some p → p.blk < w'.heap.size ∧ (Live h i → w'.heap[p.blk]? = w.heap[p.blk]?)) : RelW ty φ nil h w' where
  dom := fun i p hp => ⟨(H.dom i p hp).1, (hs i p hp).1⟩
  inj := H.inj
  row := fun i p hp hE => by
    by_cases hd : h.bl.get i = .dead
    · rw [hd]; exact .dead
    · rw [(hs i p hp).2 hd]; exact H.row i p hp hE
  fresh := H.fresh
  kind := H.kind
  inp := H.inp
theorem RelW.less2 (H : RelW ty φ nil h w) (hn : g.next = h.next) (hg : ∀ i, g.bl.get i = .dead ∨ g.bl.get i = h.bl.get i) : RelW ty φ nil g w where
  dom := fun i p hp => by rw [hn]; exact H.dom i p hp
  inj := fun i j p q hp hq _ _ hi hj hio hpq => H.inj i j p q hp hq id id
    (fun hd => (hg i).elim (fun h2 => hi h2) (fun h2 => hi (h2.trans hd))) (fun hd => (hg j).elim (fun h2 => hj h2) (fun h2 => hj (h2.trans hd))) hio hpq
  row := fun i p hp _ => by
    rcases hg i with h2 | h2
    · rw [h2]; exact .dead
    · rw [h2]; exact H.row i p hp id
  fresh := fun i hi => by
    rcases hg i with h2 | h2
    · exact h2
    · rw [h2]; exact H.fresh i (hn ▸ hi)
  kind := fun i p c s e hp hc => by
    rcases hg i with h2 | h2
    · rw [h2] at hc; cases hc
    · exact H.kind i p c s e hp (h2 ▸ hc)
  inp := H.inp
theorem RelE.filter {p : Nat → Bool} : ∀ {l : List Ent} {l' : List MapEntry}, RelE φ l l' → RelE φ (l.filter fun x => p x.born) (l'.filter fun x => p x.born)
  | _, _, .nil => .nil
  | _, _, .cons (b := b) hk hv t => by
    rw [List.filter_cons, List.filter_cons]
    show RelE φ (if p b = true then _ else _) (if p b = true then _ else _)
    cases p b with
    | true => exact .cons hk hv (RelE.filter t)
    | false => exact RelE.filter t
theorem RelW.sub (H : RelW ty ψ nil h w) (hle : φ.Le ψ) (hb : ∀ i p, φ i = some p → ∃ p2 o2, RelB ty φ p2 (h.bl.get i) o2) : RelW ty φ nil h w where
  dom := fun i p hp => H.dom i p (hle i p hp)
  inj := fun i j p q hp hq => H.inj i j p q (hle i p hp) (hle j q hq)
  row := fun i p hp hE => by
    obtain ⟨p2, o2, h2⟩ := hb i p hp
    exact (H.row i p (hle i p hp) hE).cut (fun b p hp ⟨q, hq⟩ => by
      have := hle b q hq
      rw [hp] at this; cases this
      exact hq) h2
  fresh := H.fresh
  kind := fun i p c s e hp => H.kind i p c s e (hle i p hp)
  inp := fun i p hp => H.inp i p (hle i p hp)
theorem rel_mem3 : ∀ {es : List Ent} {es' : List MapEntry} {x' : MapEntry}, RelE φ es es' → x' ∈ es' → ∃ x ∈ es, x.born = x'.born
  | es, es', x', h, hx => rel_mem h hx
theorem findB_self : ∀ {l : List Ent} {x : Ent}, (l.map (·.born)).Nodup → x ∈ l → findB x.born l = some x
  | y :: l, x, hn, hx => by
    rw [List.map_cons, List.nodup_cons] at hn
    unfold findB
    rcases List.mem_cons.1 hx with rfl | hx
    · rw [Nat.beq_refl]; rfl
    · have hne : y.born ≠ x.born := fun he => hn.1 (by rw [he]; exact List.mem_map_of_mem (f := (·.born)) hx)
      rw [beq_ne hne]
      exact findB_self hn.2 hx
end

/-! ### the step is what the call does -/
/-- what is given of the seat -/
structure DelIs (P : Program) (ty : TTy) (g mt ft kt vt bt : Nat) (K : KS) (body : C) : Prop where
  fn : ∃ fn, P.funcs[g]? = some fn ∧ fn.name ≠ "runtime.NumGoroutine" ∧ fn.body = some (delCode mt ft kt vt bt) ∧ fn.results = #[] ∧ fn.ntmps = 19
  map : ∃ d, P.underlying mt = some (.map kt d)
  body : opsC ty [] (dent :: dop2 kt vt) (fun σ => codeC ty [] (.region 3 (dop3 ft kt vt bt).toArray false) σ none) [] (dop2 kt vt) [] = body
  del : codeC ty [] (.region 4 (dop4 mt kt).toArray false) [] none = cOp (slotT 17) (oMove (slotG 0)) (cOp (slotT 18) (oMove (slotG 4)) (cDo (oDelete K (slotG 17) (slotG 18)) cNorm))

section
variable {P : Program} {ty : TTy}
/-- where the model stands ahead of a round -/
structure Ds (ty : TTy) (φ : Phi) (w : World) (h0 : Hp) (r qb ib c : Nat) (m f p : Value) (es : List Ent) (d : Nat → Bool) (seen : List Nat) (ak : Act) (wk : World) : Prop where
  size : ak.tmps.size = 19
  defs : ak.defers = []
  s0 : RelV φ m (ak.tmps.getD 0 undef)
  s1 : RelV φ f (ak.tmps.getD 1 undef)
  s7 : RelV φ p (ak.tmps.getD 7 undef)
  rel : ∃ bl, h0.bl.set r (.map (es.filter fun x => !(seen.contains x.born && d x.born)) c) = some bl ∧ RelW ty φ nil { next := h0.next, low := h0.next, high := 0, mark := h0.mark, bl := bl } wk
  iter : wk.heap[ib]? = some (.mapIter (some qb) c ⟨seen⟩ c)
  grow : w.heap.size ≤ wk.heap.size
  same : ∀ j, j < w.heap.size → j ≠ qb → wk.heap[j]? = w.heap[j]?
  tape : wk.tape = w.tape
  os : wk.os = w.os
  output : wk.output = w.output
theorem Ds.put {φ : Phi} {w : World} {h0 : Hp} {r qb ib c : Nat} {m f p : Value} {es : List Ent} {d : Nat → Bool} {seen : List Nat} {ak : Act} {wk : World} (D : Ds ty φ w h0 r qb ib c m f p es d seen ak wk) {t : Nat} (ht : t ≠ 0 ∧ t ≠ 1 ∧ t ≠ 7) (v : Value) : Ds ty φ w h0 r qb ib c m f p es d seen (ak.put (some t) v) wk :=
  { D with
    size := by rw [put_size]; exact D.size
    defs := by rw [put_defs]; exact D.defs
    s0 := by rw [put_getD, if_neg (fun h => ht.1 (Option.some.inj h.1))]; exact D.s0
    s1 := by rw [put_getD, if_neg (fun h => ht.2.1 (Option.some.inj h.1))]; exact D.s1
    s7 := by rw [put_getD, if_neg (fun h => ht.2.2 (Option.some.inj h.1))]; exact D.s7 }
theorem wrs_dloop (mt ft kt vt bt : Nat) : wrs (dloop mt ft kt vt bt) = [8, 9, 10, 11, 12, 5, 4, 13, 14, 15, 16, 17, 18] := rfl
def delW : Walk := ⟨7, 8, 9, 0, [8, 9, 10, 11, 12, 5, 4, 13, 14, 15, 16, 17, 18], []⟩
theorem del_walk (mt ft kt vt bt : Nat) : WalkIs [] (dloop mt ft kt vt bt) delW 1 dnx (dmo bt) (drest mt ft kt vt bt) where
  code := rfl
  op1 := rfl
  dst1 := rfl
  grd1 := rfl
  op2 := rfl
  dst2 := rfl
  grd2 := rfl
  ne := by decide
  itA := rfl
  nxA := rfl
  moA := rfl
  itL := by decide
  nxL := by decide
  moL := by decide
  ws := rfl
  itW := by decide
  few := by decide
  rs := fun d hd => by cases hd
theorem delEnv_get (m f p : Value) (x : Ent) (t : Nat) (ht : t < 480) : (delEnv m f p x).get t = if t = 10 then .tuple ⟨[x.key, x.val]⟩ else if t = 7 then p else if t ∈ delS then .chan none else if t = 0 then m else if t = 1 then f else noRes := by
  unfold delEnv
  rw [Env.get_set _ _ _ _ (by decide) ht, Env.get_set _ _ _ _ (by decide) ht, clearS_get _ _ _ (by decide) ht, set_args [m, f] e0 0 t (by simp) ht, e0_get ht]
  by_cases h1 : t = 10
  · rw [if_pos h1, if_pos h1]
  · rw [if_neg h1, if_neg h1]
    by_cases h2 : t = 7
    · rw [if_pos h2, if_pos h2]
    · rw [if_neg h2, if_neg h2]
      by_cases h3 : t ∈ delS
      · rw [if_pos h3, if_pos h3]
      · rw [if_neg h3, if_neg h3]
        by_cases h4 : t = 0
        · subst h4; rfl
        · rw [if_neg h4]
          by_cases h5 : t = 1
          · subst h5; rfl
          · rw [if_neg h5, if_neg (by simp only [List.length_cons, List.length_nil]; omega)]
theorem delS_else {t : Nat} (h10 : t ≠ 10) (h7 : t ≠ 7) (hS : t ∉ delS) (h0 : t ≠ 0) (h1 : t ≠ 1) : 19 ≤ t := by
  rcases Nat.lt_or_ge t 19 with h | h
  · exfalso
    have : t = 0 ∨ t = 1 ∨ t = 2 ∨ t = 3 ∨ t = 4 ∨ t = 5 ∨ t = 6 ∨ t = 7 ∨ t = 8 ∨ t = 9 ∨ t = 10 ∨ t = 11 ∨ t = 12 ∨ t = 13 ∨ t = 14 ∨ t = 15 ∨ t = 16 ∨ t = 17 ∨ t = 18 := by omega
    rcases this with h | h | h | h | h | h | h | h | h | h | h | h | h | h | h | h | h | h | h <;> subst h <;> first | exact h10 rfl | exact h7 rfl | exact h0 rfl | exact h1 rfl | exact hS (by decide)
  · exact h
theorem getD_big {ak : Act} (hs : ak.tmps.size = 19) {t : Nat} (h : 19 ≤ t) : ak.tmps.getD t undef = undef := by
  rw [Array.getD_eq_getD_getElem?, Array.getElem?_eq_none (by omega)]; rfl
theorem entry_run {w : World} {ib qb c : Nat} {seen : List Nat} {es : List MapEntry} {s : Nat} {x : MapEntry} (hw : w.heap[ib]? = some (.mapIter (some qb) c ⟨seen ++ [s]⟩ c)) (hm : w.heap[qb]? = some (.map ⟨es⟩ c)) (hf : es.find? (fun e => e.born == s) = some x) :
    (Instr.entry (.pointer (some ⟨ib, 0, none⟩))).run P w = .ok (.tuple #[x.key, x.val]) w := by
  have hback : (⟨seen ++ [s]⟩ : Array Nat).back? = some s := by simp [Array.back?_eq_getElem?]
  have hfind : (⟨es⟩ : Array MapEntry).find? (fun e => e.born == s) = some x := by rw [← hf]; simp
  simp only [Instr.entry, Sem.run_bind, getObj_run hw rfl, Result.andThen_ok, hback, getObj_run hm rfl, bne_self_eq_false, Bool.false_eq_true, if_false, hfind, Sem.run_pure]
theorem put_other {t : BT} {i : Nat} {x : Blk} {t' : BT} (h : t.set i x = some t') {j : Nat} (hj : j ≠ i) : t'.get j = t.get j := by rw [BT.get_set _ _ _ _ h, if_neg hj]
theorem put_here {t : BT} {i : Nat} {x : Blk} {t' : BT} (h : t.set i x = some t') : t'.get i = x := by rw [BT.get_set _ _ _ _ h, if_pos rfl]

/-- one round -/
theorem del_round (hT : TabOk P ty) {F : CallF} (hF : CallOk P ty F) (hm : P.follows .mixedOrders = true) {g mt ft kt vt bt : Nat} {K : KS} {body : C} (D : DelIs P ty g mt ft kt vt bt K body)
    {φ : Phi} {w : World} {h0 : Hp} {r c : Nat} {q pI : Pl} {m f p : Value} {es : List Ent} {d : Nat → Bool} {bld : BT}
    (hm0 : m = .map (some r)) (hq : φ r = some q) (hqw : q.blk < w.heap.size) (hdom : ∀ i x, φ i = some x → i < h0.next ∧ (x.blk < w.heap.size ∨ (x = pI ∧ h0.bl.get i = .dead))) (hib : w.heap.size ≤ pI.blk)
    (hp : ∀ ak : Act, RelV φ p (ak.tmps.getD 7 undef) → ak.eval (.tmp 7) = .pointer (some ⟨pI.blk, 0, none⟩)) (h256 : 256 ≤ r) (hrn : r < h0.next)
    (hbld : h0.bl.set r .dead = some bld) (hris : risingE c 0 es = true) (honl : onlyL K es es = true)
    (hrounds : ∀ x ∈ es, ∃ e1 h1, body F (delEnv m f p x) { next := h0.next, low := h0.next, high := 0, mark := h0.mark, bl := bld } = .norm e1 h1 ∧ h0.next ≤ h1.low ∧ intEq (slotG 4 e1) x.key = true ∧ slotG 16 e1 = .bool (d x.born))
    {Q : Exit → Act → World → Prop} (hover : ∀ seen ak wk, Ds ty φ w h0 r q.blk pI.blk c m f p es d seen ak wk → (∀ x ∈ es, x.born ∈ seen) → Q (.exit 0) ak wk)
    (K0 : Act → World → Prop) (seen : List Nat) (ak : Act) (wk : World) (S : Ds ty φ w h0 r q.blk pI.blk c m f p es d seen ak wk)
    (hK : ∀ x ∈ es, x.born ∉ seen → ∀ a2 w2, Ds ty φ w h0 r q.blk pI.blk c m f p es d (seen ++ [x.born]) a2 w2 → K0 a2 w2) :
    (dloop mt ft kt vt bt).wp P (Exit.then K0 Q) ak wk := by
  obtain ⟨bl, hbl, HR⟩ := S.rel
  generalize hesk : (es.filter fun x => !(seen.contains x.born && d x.born)) = esk at hbl
  have hsub : ∀ x ∈ esk, x ∈ es := fun x hx => by rw [← hesk] at hx; exact (List.mem_filter.1 hx).1
  have hnd : (esk.map (·.born)).Nodup := by
    rw [← hesk]
    exact (List.filter_sublist.map _).nodup (rising_nodup hris)
  have hents : entsOf ({ next := h0.next, low := h0.next, high := 0, mark := h0.mark, bl := bl } : Hp) r = .ok esk c := by
    show entB (bl.get r) = _
    rw [put_here hbl]; rfl
  obtain ⟨es', hmk, hre⟩ := HR.entsAt hq (fun h => h) hents
  have hborn : ∀ x ∈ es', x.born < c := fun x hx => by
    obtain ⟨y, hy, he⟩ := rel_mem hre hx
    rw [← he]; exact (risingE_ok hris y (hsub y hy)).2
  have hibk : pI.blk < wk.heap.size := (Array.getElem?_eq_some_iff.1 S.iter).1
  have hqi : q.blk ≠ pI.blk := by omega
  show (Code.seq (.region 1 #[dnx, dmo bt] false) (.seq (.cond (.tmp 9) .skip (.exit 0)) (drest mt ft kt vt bt))).wp P (Exit.then K0 Q) ak wk
  refine wp_seq (step_walk (del_walk mt ft kt vt bt) (pb := pI.blk) (mb := q.blk) (clk := c) (seen := seen) (es := es') (hp ak S.s7) (by rw [S.size]; decide) S.iter hmk hborn (fun hall => ?_) (fun x' hx' hns w1 e1 e2 e3 e4 => ?_))
  · show (Code.seq (.cond (.tmp 9) .skip (.exit 0)) (drest mt ft kt vt bt)).wp P (Exit.then K0 Q) ((ak.put (some 8) (.tuple #[.bool false])).put (some 9) (.bool false)) wk
    refine wp_seq (wp_cond_false ?_ (wp_exit ?_))
    · rw [put_two, if_pos ⟨rfl, by rw [put_size, S.size]; decide⟩]
    · refine hover seen _ wk ((S.put (by decide) _).put (by decide) _) fun x hx => ?_
      by_cases hs : x.born ∈ seen
      · exact hs
      · have hxk : x ∈ esk := by
          rw [← hesk]
          refine List.mem_filter.2 ⟨hx, ?_⟩
          have : seen.contains x.born = false := by simpa using hs
          rw [this]; rfl
        obtain ⟨x', hx', he⟩ := rel_mem2 hre hxk
        rw [← he]; exact hall x' hx'
  · show (Code.seq (.cond (.tmp 9) .skip (.exit 0)) (drest mt ft kt vt bt)).wp P (Exit.then K0 Q) ((ak.put (some 8) (.tuple #[.bool true, x'.key, x'.val])).put (some 9) (.bool true)) w1
    obtain ⟨x, hxk, hxb⟩ := rel_mem hre hx'
    have hxe := hsub x hxk
    have S1 := (S.put (t := 8) (by decide) (.tuple #[.bool true, x'.key, x'.val])).put (t := 9) (by decide) (.bool true)
    generalize hag : (ak.put (some 8) (.tuple #[.bool true, x'.key, x'.val])).put (some 9) (.bool true) = a1 at S1
    have ht9 : a1.eval (.tmp 9) = .bool true := by rw [← hag, put_two, if_pos ⟨rfl, by rw [put_size, S.size]; decide⟩]
    have hws1 : w1.heap.size = wk.heap.size := by rw [e1]; simp
    have hit1 : w1.heap[pI.blk]? = some (.mapIter (some q.blk) c ⟨seen ++ [x'.born]⟩ c) := by
      rw [e1, Array.getElem?_setIfInBounds, if_pos rfl, if_pos hibk]
    have hoth1 : ∀ j, j ≠ pI.blk → w1.heap[j]? = wk.heap[j]? := fun j hj => by rw [e1, Array.getElem?_setIfInBounds, if_neg (Ne.symm hj)]
    have blk_ne : ∀ i pl, φ i = some pl → h0.bl.get i ≠ .dead → pl.blk < w.heap.size := fun i pl hi hl => ((hdom i pl hi).2).resolve_right fun h => hl h.2
    have live0 : ∀ (l : List Ent) (b : BT), h0.bl.set r (.map l c) = some b → ∀ i, i ≠ r → b.get i = h0.bl.get i := fun l b hb i hi => put_other hb hi
    have keepTo : ∀ (lo hi mk : Nat) (wn : World), w1.heap.size ≤ wn.heap.size → (∀ j, j < w.heap.size → wn.heap[j]? = wk.heap[j]?) → RelW ty φ nil { next := h0.next, low := lo, high := hi, mark := mk, bl := bl } wn := fun lo hi mk wn hs hj =>
      RelW.of_bl (HR.keep (w' := wn) fun i pl hi => ⟨Nat.lt_of_lt_of_le (HR.dom i pl hi).2 (by omega), fun hl => by
        have hl : bl.get i ≠ .dead := hl
        by_cases hir : i = r
        · subst hir; rw [hq] at hi; cases hi; exact hj _ hqw
        · rw [live0 _ _ hbl i hir] at hl; exact hj _ (blk_ne i pl hi hl)⟩) rfl rfl
    have HR1 := keepTo h0.next 0 h0.mark w1 (Nat.le_refl _) fun j hj => hoth1 j (by omega)
    refine wp_seq (wp_cond_true ht9 (wp_skip ?_))
    show (drest mt ft kt vt bt).wp P (Exit.then K0 Q) a1 w1
    refine wp_block (wp_seq (wp_region_list ?_))
    -- the entry
    have hmk1 : w1.heap[q.blk]? = some (.map ⟨es'⟩ c) := by rw [hoth1 _ hqi]; exact hmk
    obtain ⟨x2, hf2, hkr, hvr⟩ := findB_ok hre (findB_self hnd hxk)
    have hrun1 := entry_run (P := P) hit1 hmk1 (by rw [← hxb]; exact hf2)
    have hx1 : execOp a1.eval dent = (do pure (.value (← Instr.entry (a1.eval (.tmp 7))))) := rfl
    generalize hQ2 : (Exit.then ((dtail mt ft kt vt bt).wp P (Exit.inBlock 1 (Exit.then K0 Q))) (Exit.inBlock 1 (Exit.then K0 Q))) = Q2
    have hgoal : wpList P (dent :: dop2 kt vt).toArray Q2 (dop2 kt vt) (a1.put (some 10) (.tuple #[x2.key, x2.val])) w1 → wpList P (dent :: dop2 kt vt).toArray Q2 (dent :: dop2 kt vt) a1 w1 := fun h => by
      rw [show wpList P (dent :: dop2 kt vt).toArray Q2 (dent :: dop2 kt vt) a1 w1 = (if Region.wanted dent (yielded (dent :: dop2 kt vt).toArray a1.tmps) then dent.wp P a1 w1 (wpList P (dent :: dop2 kt vt).toArray Q2 (dop2 kt vt)) Q2 ∨ (dent.asks P a1 w1 ∧ LetsOut Q2) else wpList P (dent :: dop2 kt vt).toArray Q2 (dop2 kt vt) (a1.put dent.dst undef) w1) from rfl]
      rw [if_pos (wanted_plain rfl _)]
      refine .inl ?_
      unfold Oper.wp
      rw [hx1, hp a1 S1.s7, Sem.run_bind, hrun1, Result.andThen_ok, Sem.run_pure, Oper.upon_value]
      exact h
    refine hgoal ?_
    have S2 := S1.put (t := 10) (by decide) (.tuple #[x2.key, x2.val])
    have h10 : (a1.put (some 10) (.tuple #[x2.key, x2.val])).tmps.getD 10 undef = .tuple #[x2.key, x2.val] := by
      rw [put_getD, if_pos ⟨rfl, by rw [S1.size]; decide⟩]
    generalize (a1.put (some 10) (.tuple #[x2.key, x2.val])) = a2 at S2 h10
    -- what is asked of it
    obtain ⟨e5, h5, hb5, hlow, h4, h16⟩ := hrounds x hxe
    rw [← D.body] at hb5
    let Hb : Hp := { next := h0.next, low := h0.next, high := 0, mark := h0.mark, bl := bld }
    have HRb : RelW ty φ nil Hb w1 := HR1.less2 rfl fun i => by
      by_cases hir : i = r
      · left; show bld.get i = _; rw [hir]; exact put_here hbld
      · right; show bld.get i = bl.get i; rw [put_other hbld hir, put_other hbl hir]
    have HAb : AR 19 φ (rhoOf [] [] (delEnv m f p x)) a2 := ar_slots.2 ⟨S2.size, S2.defs, fun t ht _ => by
      rw [delEnv_get _ _ _ _ t ht]
      by_cases q1 : t = 10
      · rw [if_pos q1, q1, h10]; exact .tuple (.cons hkr (.cons hvr .nil))
      · rw [if_neg q1]
        by_cases q2 : t = 7
        · rw [if_pos q2, q2]; exact S2.s7
        · rw [if_neg q2]
          by_cases q3 : t ∈ delS
          · rw [if_pos q3]; exact .unk
          · rw [if_neg q3]
            by_cases q4 : t = 0
            · rw [if_pos q4, q4]; exact S2.s0
            · rw [if_neg q4]
              by_cases q5 : t = 1
              · rw [if_pos q5, q5]; exact S2.s1
              · rw [if_neg q5, getD_big S2.size (delS_else q1 q2 q3 q4 q5)]
                exact .tuple .nil⟩
    have hkeep : Keeps delS body := by
      rw [← D.body]
      refine keeps_ops (fun σ => keeps_code _ (fun y hy => ?_) (fun _ h => by cases h)) _ _ _ (fun o ho y hy => ?_)
      · have hy : y ∈ [13, 14, 15, 16] := hy
        simp only [List.mem_cons, List.not_mem_nil, or_false] at hy
        rcases hy with rfl | rfl | rfl | rfl <;> decide
      · have := dsts_mem hy _ ho
        have hy : y ∈ [11, 12, 5, 4] := this
        simp only [List.mem_cons, List.not_mem_nil, or_false] at hy
        rcases hy with rfl | rfl | rfl | rfl <;> decide
    have hag5 : Ag delS (delEnv m f p x) e5 := by
      have := hkeep F (delEnv m f p x) Hb
      rw [← D.body, hb5] at this; exact this
    obtain ⟨ρ, HH, V, run, T, σ', e', tr, q1, q2, q3, q4, q5⟩ := opsC_tr hT hF (dop2 kt vt) [] [] (delEnv m f p x) Hb _ (fun j o _ => .plain ty o) (.nil []) hb5 (fun h => by cases h)
    have hN2 : ∀ o ∈ dop2 kt vt, ∀ y, o.dst = some y → y < 19 := fun o ho y hy => by
      have := dsts_mem hy _ ho
      have hy : y ∈ [11, 12, 5, 4] := this
      simp only [List.mem_cons, List.not_mem_nil, or_false] at hy
      rcases hy with rfl | rfl | rfl | rfl <;> decide
    refine tr_text (Q := Q2) (φ := φ) (dop2 kt vt) tr hN2 (by rw [q2]; exact HRb) (by rw [q1]; exact HAb) fun _ ψ a3 w3 r1 r2 r3 => ?_
    rw [← hQ2]
    show (dtail mt ft kt vt bt).wp P (Exit.inBlock 1 (Exit.then K0 Q)) a3 w3
    rw [q3] at r2
    refine wp_seq (codeC_ok hT hF hm (.region 3 (dop3 ft kt vt bt).toArray false) q5 (fun h => by cases h) rfl ψ w3 a3 q4 r1 r2 _ { go := (fun _ h => by cases h), norm := fun _ e6 h6 χ a4 w4 g hx => ?_, exit := (fun _ _ _ _ _ _ _ hx => by cases hx), ret := (fun _ _ _ _ _ _ hx => by cases hx) })
    cases hx
    rw [q2] at r3
    have evo : Evo φ Hb w1 χ h5 w4 := r3.trans g.evo
    obtain ⟨g1, g2, g3⟩ := ar_slots.1 g.ar
    have hfr : ∀ j, j < w1.heap.size → w4.heap[j]? = w1.heap[j]? := fun j hj => evo.frame j hj fun i pl hi _ hl _ _ => by
      have := (hdom i pl hi).1
      omega
    have hcut : ∀ {v v' v'' : Value}, RelV χ v v' → RelV φ v v'' → RelV φ v v' := fun {v v' v''} h1 h2 => RelV.cut (χ := φ) (fun b pl hb ⟨y, hy⟩ => by
      have := evo.le b y hy
      rw [hb] at this; cases this
      exact hy) h1 h2
    have at5 : ∀ t, t < 480 → t ∉ delS → RelV χ ((delEnv m f p x).get t) (a4.tmps.getD t undef) := fun t ht hS => by rw [← hag5 t ht hS]; exact g3 t ht rfl
    have c0 : RelV φ m (a4.tmps.getD 0 undef) := hcut (by have := at5 0 (by decide) (by decide); rw [delEnv_get _ _ _ _ 0 (by decide)] at this; exact this) S2.s0
    have c1 : RelV φ f (a4.tmps.getD 1 undef) := hcut (by have := at5 1 (by decide) (by decide); rw [delEnv_get _ _ _ _ 1 (by decide)] at this; exact this) S2.s1
    have c7 : RelV φ p (a4.tmps.getD 7 undef) := hcut (by have := at5 7 (by decide) (by decide); rw [delEnv_get _ _ _ _ 7 (by decide)] at this; exact this) S2.s7
    have hw4 : w1.heap.size ≤ w4.heap.size := evo.size
    have hold : ∀ j, j < w.heap.size → w4.heap[j]? = wk.heap[j]? := fun j hj => by rw [hfr j (by have := S.grow; omega), hoth1 j (by omega)]
    have HR4 := keepTo h0.next 0 h0.mark w4 hw4 hold
    have hit4 : w4.heap[pI.blk]? = some (.mapIter (some q.blk) c ⟨seen ++ [x'.born]⟩ c) := by rw [hfr _ (by omega)]; exact hit1
    have h16r := g3 16 (by decide) rfl
    rw [← slotG_is 16 (by decide), h16] at h16r
    have hev16 : a4.eval (.tmp 16) = .bool (d x.born) := h16r.bool_inv
    have hnx : x.born ∉ seen := by rw [hxb]; exact hns
    have same4 : ∀ j, j < w.heap.size → j ≠ q.blk → w4.heap[j]? = w.heap[j]? := fun j hj hjq => by rw [hold j hj]; exact S.same j hj hjq
    cases hdx : d x.born with
    | false =>
      rw [hdx] at hev16
      refine wp_cond_false hev16 (wp_skip ?_)
      show K0 a4 w4
      refine hK x hxe hnx a4 w4 { size := g1, defs := g2, s0 := c0, s1 := c1, s7 := c7, rel := ⟨bl, ?_, HR4⟩, iter := by rw [hxb]; exact hit4, grow := by have := S.grow; omega, same := same4, tape := evo.tape.trans (e2.trans S.tape), os := evo.os.trans (e3.trans S.os), output := evo.output.trans (e4.trans S.output) }
      have e9 : (es.filter fun y => !((seen ++ [x.born]).contains y.born && d y.born)) = esk := by
        rw [← hesk]
        refine List.filter_congr fun y hy => ?_
        by_cases hyx : y.born = x.born
        · rw [hyx, hdx]; simp
        · have : (seen ++ [x.born]).contains y.born = seen.contains y.born := by simp [hyx]
          rw [this]
      rw [e9]; exact hbl
    | true =>
      rw [hdx] at hev16
      refine wp_cond_true hev16 ?_
      obtain ⟨j4, n4, i1, i2⟩ := intEq_ok h4
      have hkey4 : RelV φ x.key (a4.tmps.getD 4 undef) := by
        have := g3 4 (by decide) rfl
        rw [← slotG_is 4 (by decide), i1] at this
        rw [i2]
        generalize a4.tmps.getD 4 undef = v4 at this
        cases this
        exact .int _ _
      let eT : Env := Env.set 4 x.key (Env.set 10 (.chan none) (delEnv m f p x))
      have hTg : ∀ t, t < 480 → eT.get t = if t = 4 then x.key else if t = 10 then .chan none else (delEnv m f p x).get t := fun t ht => by
        show (Env.set 4 x.key (Env.set 10 (.chan none) (delEnv m f p x))).get t = _
        rw [Env.get_set _ _ _ _ (by decide) ht, Env.get_set _ _ _ _ (by decide) ht]
      have HAT : AR 19 φ (rhoOf [] [] eT) a4 := ar_slots.2 ⟨g1, g2, fun t ht _ => by
        rw [hTg t ht]
        by_cases q1 : t = 4
        · rw [if_pos q1, q1]; exact hkey4
        · rw [if_neg q1]
          by_cases q2 : t = 10
          · rw [if_pos q2]; exact .unk
          · rw [if_neg q2, delEnv_get _ _ _ _ t ht, if_neg q2]
            by_cases q3 : t = 7
            · rw [if_pos q3, q3]; exact c7
            · rw [if_neg q3]
              by_cases q4 : t ∈ delS
              · rw [if_pos q4]; exact .unk
              · rw [if_neg q4]
                by_cases q5 : t = 0
                · rw [if_pos q5, q5]; exact c0
                · rw [if_neg q5]
                  by_cases q6 : t = 1
                  · rw [if_pos q6, q6]; exact c1
                  · rw [if_neg q6, getD_big g1 (delS_else q2 q3 q4 q5 q6)]
                    exact .tuple .nil⟩
      -- the machine deletes it
      have honx := onlyE_ok (onlyL_ok honl x hxe)
      have hfit : fitK K x.key = true := by
        have := honx x hxe
        unfold keyEq at this
        cases hf : fitK K x.key with
        | true => rfl
        | false => rw [hf] at this; cases this
      have hde : delE K x.key esk = some (esk.filter fun y => !Nat.beq x.born y.born) := delE_only (fun y hy => honx y (hsub y hy)) hnd
      obtain ⟨bl2, hbl2⟩ := BT.again h0.bl r _ (.map (esk.filter fun y => !Nat.beq x.born y.born) c) bl hbl
      let HD : Hp := { next := h0.next, low := h0.next, high := 0, mark := h0.mark, bl := bl }
      let HD2 : Hp := { next := h0.next, low := minN h0.next r, high := maxN 0 r, mark := h0.mark, bl := bl2 }
      have t0 : slotG 0 eT = m := by rw [slotG_is 0 (by decide), hTg 0 (by decide), if_neg (by decide), if_neg (by decide), delEnv_get _ _ _ _ 0 (by decide)]; rfl
      let eU : Env := Env.set 18 x.key (Env.set 17 m eT)
      have hrun4 : codeC ty [] (.region 4 (dop4 mt kt).toArray false) [] none F eT HD = .norm eU HD2 := by
        rw [D.del]
        have f1 : oMove (slotG 0) F eT HD = .ok m HD := by
          show moveR (slotG 0 eT) HD = _
          rw [moveR_is, t0]
        rw [cOp_ok f1, slotT_is 17 (by decide)]
        have f2 : oMove (slotG 4) F (Env.set 17 m eT) HD = .ok x.key HD := by
          show moveR (slotG 4 (Env.set 17 m eT)) HD = _
          rw [moveR_is, slotG_is 4 (by decide), Env.get_set _ _ _ _ (by decide) (by decide), if_neg (by decide), hTg 4 (by decide), if_pos rfl]
        rw [cOp_ok f2, slotT_is 18 (by decide)]
        have g17 : slotG 17 eU = .map (some r) := by
          rw [slotG_is 17 (by decide), Env.get_set _ _ _ _ (by decide) (by decide), if_neg (by decide), Env.get_set _ _ _ _ (by decide) (by decide), if_pos rfl, hm0]
        have g18 : slotG 18 eU = x.key := by
          rw [slotG_is 18 (by decide), Env.get_set _ _ _ _ (by decide) (by decide), if_pos rfl]
        have f3 : oDelete K (slotG 17) (slotG 18) F eU HD = .ok noRes HD2 := by
          show deleteF K (slotG 17 eU) (slotG 18 eU) HD = _
          rw [g17, g18]
          unfold deleteF
          rw [hfit]
          simp only
          rw [hents]
          simp only
          rw [hde]
          simp only
          unfold putBlk
          rw [nat_ble.2 h256, cond_true]
          show (match bl.set r _ with | some bl => _ | none => R.no) = _
          rw [hbl2]
          simp only [forceN_is]
          rfl
        show cDo (oDelete K (slotG 17) (slotG 18)) cNorm F eU HD = _
        unfold cDo
        rw [f3]
        rfl
      refine codeC_ok hT hF hm (.region 4 (dop4 mt kt).toArray false) hrun4 (fun h => by cases h) rfl φ w4 a4 (.nil []) HR4 HAT _ { go := (fun _ h => by cases h), norm := fun _ e7 h7 ψ4 a5 w5 g' hx => ?_, exit := (fun _ _ _ _ _ _ _ hx => by cases hx), ret := (fun _ _ _ _ _ _ hx => by cases hx) }
      cases hx
      show K0 a5 w5
      obtain ⟨k1, k2, k3⟩ := ar_slots.1 g'.ar
      have hcut2 : ∀ {v v' v'' : Value}, RelV ψ4 v v' → RelV φ v v'' → RelV φ v v' := fun {v v' v''} h1 h2 => RelV.cut (χ := φ) (fun b pl hb ⟨y, hy⟩ => by
        have := g'.evo.le b y hy
        rw [hb] at this; cases this
        exact hy) h1 h2
      have eUg : ∀ t, t < 480 → t ≠ 17 → t ≠ 18 → t ≠ 4 → t ≠ 10 → eU.get t = (delEnv m f p x).get t := fun t ht h1 h2 h3 h4 => by
        show (Env.set 18 x.key (Env.set 17 m eT)).get t = _
        rw [Env.get_set _ _ _ _ (by decide) ht, if_neg h2, Env.get_set _ _ _ _ (by decide) ht, if_neg h1, hTg t ht, if_neg h3, if_neg h4]
      have hfr5 : ∀ j, j < w4.heap.size → j ≠ q.blk → w5.heap[j]? = w4.heap[j]? := fun j hj hjq => g'.evo.frame j hj fun i pl hi _ hl hh _ hb => by
        have hl : minN h0.next r ≤ i := hl
        have hh : i ≤ maxN 0 r := hh
        rw [minN_is] at hl
        rw [maxN_is] at hh
        have : i = r := by omega
        subst this
        rw [hq] at hi; cases hi
        exact hjq hb.symm
      obtain ⟨bl3, hbl3⟩ := BT.set_any h0.bl r .dead (.map (es.filter fun y => !((seen ++ [x.born]).contains y.born && d y.born)) c) bld hbld
      have e9 : (es.filter fun y => !((seen ++ [x.born]).contains y.born && d y.born)) = esk.filter fun y => !Nat.beq x.born y.born := by
        rw [← hesk, List.filter_filter]
        refine List.filter_congr fun y hy => ?_
        by_cases hyx : y.born = x.born
        · rw [hyx, hdx, Nat.beq_refl]; simp
        · have h1 : (seen ++ [x.born]).contains y.born = seen.contains y.born := by simp [hyx]
          rw [h1, beq_ne (fun h => hyx h.symm)]; simp
      have HS : RelW ty φ nil HD2 w5 := g'.rel.sub g'.evo.le fun i pl hi => by
        by_cases hir : i = r
        · subst hir
          refine ⟨pl, some (.map ⟨es'.filter fun y => !Nat.beq x.born y.born⟩ c), ?_⟩
          show RelB ty φ pl (bl2.get i) _
          rw [put_here hbl2]
          exact .map (RelE.filter (p := fun b => !Nat.beq x.born b) hre)
        · refine ⟨pl, w4.heap[pl.blk]?, ?_⟩
          show RelB ty φ pl (bl2.get i) _
          rw [put_other hbl2 hir]
          exact HR4.row i pl hi (fun h => h)
      refine hK x hxe hnx a5 w5 { size := k1, defs := k2, s0 := ?_, s1 := ?_, s7 := ?_, rel := ⟨bl3, hbl3, HS.less2 rfl fun i => .inr ?_⟩, iter := ?_, grow := ?_, same := fun j hj hjq => ?_, tape := g'.evo.tape.trans (evo.tape.trans (e2.trans S.tape)), os := g'.evo.os.trans (evo.os.trans (e3.trans S.os)), output := g'.evo.output.trans (evo.output.trans (e4.trans S.output)) }
      · have := k3 0 (by decide) rfl
        rw [eUg 0 (by decide) (by decide) (by decide) (by decide) (by decide), delEnv_get _ _ _ _ 0 (by decide)] at this
        exact hcut2 this c0
      · have := k3 1 (by decide) rfl
        rw [eUg 1 (by decide) (by decide) (by decide) (by decide) (by decide), delEnv_get _ _ _ _ 1 (by decide)] at this
        exact hcut2 this c1
      · have := k3 7 (by decide) rfl
        rw [eUg 7 (by decide) (by decide) (by decide) (by decide) (by decide), delEnv_get _ _ _ _ 7 (by decide)] at this
        exact hcut2 this c7
      · show bl3.get i = bl2.get i
        by_cases hir : i = r
        · rw [hir, put_here hbl3, put_here hbl2, e9]
        · rw [put_other hbl3 hir, put_other hbl2 hir, put_other hbl hir]
      · rw [hfr5 _ (by omega) (Ne.symm hqi), hxb]; exact hit4
      · have := S.grow
        have := g'.evo.size
        omega
      · rw [hfr5 j (by have := S.grow; omega) hjq]; exact same4 j hj hjq
theorem filter_leE {p q : Ent → Bool} (h : ∀ x, p x = true → q x = true) : ∀ l : List Ent, (l.filter p).length ≤ (l.filter q).length
  | [] => Nat.le_refl _
  | x :: l => by
    have ih := filter_leE h l
    rw [List.filter_cons, List.filter_cons]
    cases hp : p x with
    | true => rw [h x hp]; simpa using ih
    | false =>
      cases q x with
      | true => simp; omega
      | false => simpa using ih
theorem filter_ltE {p q : Ent → Bool} (h : ∀ x, p x = true → q x = true) {y : Ent} (hq : q y = true) (hp : p y = false) : ∀ {l : List Ent}, y ∈ l → (l.filter p).length + 1 ≤ (l.filter q).length
  | x :: l, hm => by
    rw [List.filter_cons, List.filter_cons]
    rcases List.mem_cons.1 hm with rfl | hm
    · rw [hq, hp]
      have := filter_leE h l
      simp; omega
    · have ih := filter_ltE h hq hp hm
      cases hx : p x with
      | true => rw [h x hx]; simpa using ih
      | false =>
        cases q x with
        | true => simp; omega
        | false => simpa using ih
theorem del_does (hT : TabOk P ty) (hm : P.follows .mixedOrders = true) {g mt ft kt vt bt : Nat} {K : KS} {body : C} (D : DelIs P ty g mt ft kt vt bt K body) : FnDoes P ty g (bDel K body) := fun F args h v h' hF hr => by
  obtain ⟨fn, hfn, hname, hbody, hres, hnt⟩ := D.fn
  refine ⟨⟨fn, hfn, hname, by rw [hbody]; rfl⟩, fun φ w args' hrel H => ?_⟩
  have hr : delF K body F args h = .ok v h' := hr
  cases hrel with
  | nil => cases hr
  | @cons m m' l l' hmr t =>
  cases t with
  | nil => cases hr
  | @cons f f' l2 l2' hfr t =>
  cases t with
  | cons _ _ => cases hr
  | nil =>
  unfold delF at hr
  simp only at hr
  cases hmr <;> first | (cases hr; done) | skip
  rename_i r q hq _
  simp only at hr
  cases hents : entsOf h r with
  | no => rw [hents] at hr; cases hr
  | ok es c =>
  rw [hents] at hr
  simp only at hr
  obtain ⟨h256, hr⟩ := bif_ok hr
  obtain ⟨hrn, hr⟩ := bif_ok hr
  obtain ⟨hris, hr⟩ := bif_ok hr
  obtain ⟨honl, hr⟩ := bif_ok hr
  have h256 := nat_ble.1 h256
  have hrn := nat_blt.1 hrn
  unfold delM at hr
  cases hb0 : h.bl.set h.next .dead with
  | none => rw [hb0] at hr; cases hr
  | some bl0 =>
  rw [hb0] at hr
  simp only at hr
  cases hbd : bl0.set r .dead with
  | none => rw [hbd] at hr; cases hr
  | some bld =>
  rw [hbd] at hr
  simp only [forceN_is] at hr
  cases hdr : delR K body F (.map (some r)) f (.pointer (some ⟨h.next, 0, none⟩)) (Nat.succ h.next) h.mark bld es with
  | none => rw [hdr] at hr; cases hr
  | some es2 =>
  rw [hdr] at hr
  simp only at hr
  obtain ⟨bl2, _, hbl2, hk⟩ := putBlk_ok hr
  cases hk
  obtain ⟨d, hes2, hrounds⟩ := delR_ok (rising_nodup hris) hdr
  obtain ⟨es', hwm, hre⟩ := H.entsAt hq (fun h => h) hents
  have hqw := (H.dom r q hq).2
  let h0 : Hp := { next := Nat.succ h.next, low := h.low, high := h.high, mark := h.mark, bl := bl0 }
  let pI : Pl := { blk := w.heap.size, off := 0, sz := 0, room := 0, es := 1 }
  let φ0 : Phi := φ.put h.next pI
  let w0 : World := { w with heap := w.heap.push (.mapIter (some q.blk) c ⟨[]⟩ c) }
  have hs0 : w0.heap.size = w.heap.size + 1 := by simp [w0]
  have hsame0 : ∀ k, k < w.heap.size → w0.heap[k]? = w.heap[k]? := fun k hk => by
    show (w.heap.push _)[k]? = _
    rw [Array.getElem?_push_lt hk, Array.getElem?_eq_getElem hk]
  have hit0 : w0.heap[w.heap.size]? = some (.mapIter (some q.blk) c ⟨[]⟩ c) := by show (w.heap.push _)[w.heap.size]? = _; simp
  have hb0g : ∀ i, bl0.get i = if i = h.next then .dead else h.bl.get i := fun i => BT.get_set _ _ _ _ hb0 i
  have HN : RelW ty φ0 nil h0 w0 := H.new hb0 (by omega) (by show w.heap.size < _; omega) (fun j x e _ => by have := (H.dom j x e).2; show _ ≠ w.heap.size; omega) (fun k hk _ => hsame0 k hk) (by
    show RelB ty φ0 pI .dead _
    exact .dead)
  have hq0 : φ0 r = some q := Phi.put_le H.none_next r q hq
  have hdom0 : ∀ i x, φ0 i = some x → i < h0.next ∧ (x.blk < w.heap.size ∨ (x = pI ∧ h0.bl.get i = .dead)) := fun i x hx => by
    rcases Phi.put_cases hx with ⟨rfl, rfl⟩ | ⟨_, hx⟩
    · exact ⟨Nat.lt_succ_self _, .inr ⟨rfl, by show bl0.get _ = _; rw [hb0g, if_pos rfl]⟩⟩
    · exact ⟨Nat.lt_succ_of_lt (H.dom i x hx).1, .inl (H.dom i x hx).2⟩
  have hp0 : ∀ ak : Act, RelV φ0 (.pointer (some ⟨h.next, 0, none⟩)) (ak.tmps.getD 7 undef) → ak.eval (.tmp 7) = .pointer (some ⟨pI.blk, 0, none⟩) := fun ak h1 => by
    obtain ⟨a2, ha2, hr2⟩ := h1.ptr_inv
    obtain ⟨p2, hp2, rfl⟩ := hr2.eq
    have hps : φ0 h.next = some pI := Phi.put_self _ _ _
    have hp2 : φ0 h.next = some p2 := hp2
    rw [hps] at hp2; cases hp2
    exact ha2
  refine calls_of_wp hfn hbody ?_
  rw [hnt]
  let a0 : Act := { tmps := (⟨[.map (some q.blk), f']⟩ : Array Value) ++ Array.replicate 17 undef, defers := [] }
  show (Code.seq (.region 0 (dop0 mt).toArray false) (.block 0 (.loop (dloop mt ft kt vt bt)))).wp P (bodyPost P fn _) a0 w
  have ha0 : a0.tmps.size = 19 := by simp [a0]
  have ht0 : a0.tmps.getD 0 undef = .map (some q.blk) := by simp [a0]
  have ht1 : a0.tmps.getD 1 undef = f' := by simp [a0]
  have hd0 : a0.defers = [] := rfl
  clear_value a0
  -- the walk begins
  generalize hQ : (bodyPost P fn fun en w' => ∃ v' ψ, en = .returned v' ∧ RelV ψ noRes v' ∧ RelW ty ψ nil { next := Nat.succ h.next, low := minN h.low r, high := maxN h.high r, mark := h.mark, bl := bl2 } w' ∧ Evo φ h w ψ { next := Nat.succ h.next, low := minN h.low r, high := maxN h.high r, mark := h.mark, bl := bl2 } w') = Q0
  refine wp_seq (wp_region_list ?_)
  obtain ⟨dt, hdt⟩ := D.map
  have hrange : (Instr.range mt (.map (some q.blk))).run P w = .ok (.pointer (some ⟨w.heap.size, 0, none⟩)) w0 := by
    simp only [Instr.range, Sem.run_bind, run_underlying hdt, Result.andThen_ok, getObj_run hwm rfl, Sem.run_pure, run_newObj]
    rfl
  have one : ∀ (all : Array Oper) (o : Oper) (rest : List Oper) (a : Act) (w1 : World) (Q : Exit → Act → World → Prop), o.guard = none → o.wp P a w1 (wpList P all Q rest) Q → wpList P all Q (o :: rest) a w1 := fun all o rest a w1 Q hg h => by
    rw [show wpList P all Q (o :: rest) a w1 = (if Region.wanted o (yielded all a.tmps) then o.wp P a w1 (wpList P all Q rest) Q ∨ (o.asks P a w1 ∧ LetsOut Q) else wpList P all Q rest (a.put o.dst undef) w1) from rfl]
    rw [if_pos (wanted_plain hg _)]
    exact .inl h
  have e0 : a0.eval (.tmp 0) = .map (some q.blk) := (show ∀ a : Act, a.eval (.tmp 0) = a.tmps.getD 0 undef from fun _ => rfl) a0 |>.trans ht0
  refine one _ _ _ _ _ _ rfl ?_
  unfold Oper.wp
  rw [show execOp a0.eval ⟨some 6, .move (.tmp 0), mt, "maps.go:70", #[], none⟩ = pure (.value (a0.eval (.tmp 0))) from rfl, Sem.run_pure, Oper.upon_value]
  refine one _ _ _ _ _ _ rfl ?_
  unfold Oper.wp
  have h6 : (a0.put (some 6) (a0.eval (.tmp 0))).eval (.tmp 6) = .map (some q.blk) := by rw [put_two, if_pos ⟨rfl, by rw [ha0]; decide⟩, e0]
  rw [show execOp (a0.put (some 6) (a0.eval (.tmp 0))).eval ⟨some 7, .range mt (.tmp 6), 0, "maps.go:70", #[⟨0, .data⟩], none⟩ = (do pure (.value (← Instr.range mt ((a0.put (some 6) (a0.eval (.tmp 0))).eval (.tmp 6))))) from rfl]
  rw [h6, Sem.run_bind, hrange, Result.andThen_ok, Sem.run_pure, Oper.upon_value]
  show (Code.block 0 (.loop (dloop mt ft kt vt bt))).wp P Q0 ((a0.put (some 6) (a0.eval (.tmp 0))).put (some 7) (.pointer (some ⟨w.heap.size, 0, none⟩))) w0
  have S0 : Ds ty φ0 w h0 r q.blk pI.blk c (.map (some r)) f (.pointer (some ⟨h.next, 0, none⟩)) es d [] ((a0.put (some 6) (a0.eval (.tmp 0))).put (some 7) (.pointer (some ⟨w.heap.size, 0, none⟩))) w0 := by
    have e1 : (es.filter fun x => !(([] : List Nat).contains x.born && d x.born)) = es := List.filter_eq_self.2 fun x _ => rfl
    obtain ⟨blS, hblS⟩ := BT.set_any bl0 r .dead (.map es c) bld hbd
    refine { size := by rw [put_size, put_size]; exact ha0, defs := by rw [put_defs, put_defs, hd0], s0 := ?_, s1 := ?_, s7 := ?_, rel := ⟨blS, by rw [e1]; exact hblS, ?_⟩, iter := hit0, grow := by omega, same := fun j hj _ => hsame0 j hj, tape := rfl, os := rfl, output := rfl }
    · rw [put_getD, if_neg (fun h => by cases h.1), put_getD, if_neg (fun h => by cases h.1)]
      rw [ht0]
      exact .map hq0
    · rw [put_getD, if_neg (fun h => by cases h.1), put_getD, if_neg (fun h => by cases h.1)]
      rw [ht1]
      exact hfr.mono (Phi.put_le H.none_next)
    · rw [put_getD, if_pos ⟨rfl, by rw [put_size, ha0]; decide⟩]
      exact ptr_new (p := pI) (Phi.put_self _ _ _) rfl
    · refine HN.less2 rfl fun i => .inr ?_
      show blS.get i = bl0.get i
      by_cases hir : i = r
      · rw [hir, put_here hblS, hb0g, if_neg (by omega)]
        exact (ents_ok hents).symm
      · rw [put_other hblS hir]
  have hover : ∀ seen ak wk, Ds ty φ0 w h0 r q.blk pI.blk c (.map (some r)) f (.pointer (some ⟨h.next, 0, none⟩)) es d seen ak wk → (∀ x ∈ es, x.born ∈ seen) → Exit.inBlock 0 Q0 (.exit 0) ak wk := fun seen ak wk S hall => by
    show (if (0 : Nat) = 0 then Q0 .normal ak wk else Q0 (.exit 0) ak wk)
    rw [if_pos rfl, ← hQ]
    obtain ⟨bl, hbl, HR⟩ := S.rel
    have e1 : (es.filter fun x => !(seen.contains x.born && d x.born)) = es2 := by
      rw [hes2]
      refine List.filter_congr fun x hx => ?_
      have : seen.contains x.born = true := by simpa using hall x hx
      rw [this]; rfl
    rw [e1] at hbl
    have hbl : bl0.set r (.map es2 c) = some bl := hbl
    rw [hbl2] at hbl
    cases hbl
    have hres2 : (Go.results fn ak.tmps).run P wk = .ok noRes wk := by
      rw [results_is, hres]
      simp
      rfl
    have hbg : ∀ i, bl2.get i = if i = r then .map es2 c else if i = h.next then .dead else h.bl.get i := fun i => by
      rw [BT.get_set _ _ _ _ hbl2, hb0g]
    have hrl : h.bl.get r = .map es c := ents_ok hents
    refine ⟨S.defs, noRes, hres2, noRes, φ0, rfl, .tuple .nil, HR.of_bl rfl rfl, ?_⟩
    exact {
      le := Phi.put_le H.none_next
      new := fun i x hx => by
        rcases Phi.put_cases hx with ⟨rfl, rfl⟩ | ⟨_, hx⟩
        · exact .inr (Nat.le_refl _)
        · exact .inl hx
      next := Nat.le_succ _
      size := S.grow
      tape := S.tape
      os := S.os
      output := S.output
      frame := fun j hj hf => S.same j hj fun hjq => by
        cases hin : q.inp with
        | true => have := H.inp r q hq hin; omega
        | false => exact hf r q hq hin (by show minN _ _ ≤ _; rw [minN_is]; exact Nat.min_le_right _ _) (by show _ ≤ maxN _ _; rw [maxN_is]; exact Nat.le_max_right _ _) (by unfold Live; rw [hrl]; intro h; cases h) hjq.symm
      back := fun i x hx hl hlt => by
        rcases Phi.put_cases hx with ⟨rfl, rfl⟩ | ⟨hne, hx⟩
        · exact absurd hlt (Nat.lt_irrefl _)
        · refine ⟨i, x, hx, ?_, rfl, rfl, .inl rfl⟩
          have hl : bl2.get i ≠ .dead := hl
          intro hd
          rw [hbg] at hl
          by_cases hir : i = r
          · have hd : h.bl.get i = .dead := hd
            rw [hir, hrl] at hd; cases hd
          · rw [if_neg hir, if_neg hne] at hl
            exact hl hd
      kept := fun i hi hio => by
        show bl2.get i = _
        have hio : i < minN h.low r ∨ maxN h.high r < i := hio
        rw [minN_is, maxN_is] at hio
        rw [hbg, if_neg (by omega), if_neg (by omega)]
      low := by show minN _ _ ≤ _; rw [minN_is]; exact Nat.min_le_left _ _
      high := by show _ ≤ maxN _ _; rw [maxN_is]; exact Nat.le_max_left _ _
      shape := fun i hi => by
        show ShapeLe _ (bl2.get i)
        rw [hbg]
        by_cases hir : i = r
        · rw [if_pos hir, hir, hrl]; exact .inr trivial
        · rw [if_neg hir, if_neg (by omega)]; exact .refl _
      only := fun i hi h1 => by
        show bl2.get i = _
        rw [hbg, if_neg (fun e => by rw [e, hq] at h1; cases h1), if_neg (by omega)]
      all := fun i h1 h2 => ⟨pI, by
        have h2 : i < h.next + 1 := h2
        have : i = h.next := by omega
        rw [this]; exact Phi.put_self _ _ _⟩ }
  have main : ∀ (n : Nat) (seen : List Nat) (ak : Act) (wk : World), (es.filter fun x => !seen.contains x.born).length ≤ n → Ds ty φ0 w h0 r q.blk pI.blk c (.map (some r)) f (.pointer (some ⟨h.next, 0, none⟩)) es d seen ak wk →
      Code.rounds P (dloop mt ft kt vt bt) (Exit.inBlock 0 Q0) (n + 1) ak wk := by
    intro n
    induction n with
    | zero =>
      intro seen ak wk hcnt S
      refine del_round hT hF hm D rfl hq0 hqw hdom0 (Nat.le_refl _) hp0 h256 (Nat.lt_succ_of_lt hrn) hbd hris honl hrounds hover _ seen ak wk S fun x hx hns a2 w2 _ => ?_
      exfalso
      have : x ∈ es.filter (fun x => !seen.contains x.born) := List.mem_filter.2 ⟨hx, by simpa using hns⟩
      have := List.length_pos_of_mem this
      omega
    | succ n ih =>
      intro seen ak wk hcnt S
      refine del_round hT hF hm D rfl hq0 hqw hdom0 (Nat.le_refl _) hp0 h256 (Nat.lt_succ_of_lt hrn) hbd hris honl hrounds hover _ seen ak wk S fun x hx hns a2 w2 S2 => ih _ a2 w2 ?_ S2
      have := filter_ltE (p := fun y => !(seen ++ [x.born]).contains y.born) (q := fun y => !seen.contains y.born) (fun y h => by
        simp only [Bool.not_eq_true', List.contains_eq_mem, decide_eq_false_iff_not] at h ⊢
        exact fun h2 => h (List.mem_append_left _ h2)) (by simpa using hns) (by simp) hx
      omega
  exact wp_block (wp_loop_rounds (es.length + 1) (main es.length [] _ w0 (List.length_filter_le _ _) S0))
end
end Go.Proofs.YtokpmjbljhkeiaaGreat
