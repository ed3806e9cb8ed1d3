/-
  Plain data held against plain data: equality of structs and arrays, keys of maps.
-/
import Derived.Test.YtkafejncffinmaaBytes
import Derived.DeepKeys3
set_option linter.unusedSimpArgs false
set_option linter.unusedVariables false
namespace Go.Proofs.Ytkafejncffinmaa
open Go

section
variable {P : Program} {ty : TTy} {φ : Phi} {E : Nat → Prop} {h h' : Hp} {w : World} {F : CallF} {e : Env} {v : Value} {f : Fr}

def toLit : Value → Lit
  | .bool b => .bool b
  | .int q n => .int q n
  | .string s => .string s.data.toList
  | _ => .bool false

theorem inK_wf {k : IntKind} {n : Int} (h : inK k n = true) : (Lit.int k n).wf = true := by
  unfold Lit.wf
  simp only [Bool.and_eq_true, decide_eq_true_eq]
  cases n with
  | ofNat m =>
    have h : Nat.ble m (topOf k) = true := h
    have := nat_ble.1 h
    cases k <;> simp [IntKind.min, IntKind.max, IntKind.signed, IntKind.bits, topOf] at this ⊢ <;> omega
  | negSucc m =>
    cases k <;> simp only [inK] at h <;> first | (cases h; done) | skip
    all_goals
      have := nat_ble.1 h
      simp [IntKind.min, IntKind.max, IntKind.signed, IntKind.bits, topOf] at this ⊢
      omega

theorem fitC_int {k : IntKind} {v : Value} (h : fitC (.i k) v = true) : ∃ n, v = .int k n ∧ (Lit.int k n).wf = true := by
  unfold fitC at h
  simp only at h
  split at h
  · split at h
    · rename_i hq
      exact ⟨_, by rw [sameK_eq hq], inK_wf h⟩
    · cases h
  · cases h
theorem fitC_bool {v : Value} (h : fitC .b v = true) : ∃ b, v = .bool b := by
  unfold fitC at h
  simp only at h
  split at h
  · exact ⟨_, rfl⟩
  · cases h
theorem fitC_str {v : Value} (h : fitC .s v = true) : ∃ s, v = .string s ∧ s.size ≤ maxLen := by
  unfold fitC at h
  simp only at h
  split at h
  · rename_i s
    refine ⟨s, rfl, ?_⟩
    have := nat_ble.1 h
    rw [lenL_is] at this
    have e : s.data.toList.length = s.size := by simp
    have hm : most ≤ maxLen := by unfold most maxLen; omega
    omega
  · cases h
theorem fitL_nil {l : List Value} (h : fitL [] l = true) : l = [] := by
  cases l with
  | nil => rfl
  | cons => cases h
theorem fitL_cons {c : CK} {ks : List CK} {l : List Value} (h : fitL (c :: ks) l = true) : ∃ v r, l = v :: r ∧ fitC c v = true ∧ fitL ks r = true := by
  cases l with
  | nil => cases h
  | cons v r =>
    unfold fitL at h
    split at h
    · rename_i hc; exact ⟨v, r, rfl, hc, h⟩
    · cases h
theorem fitL_len : ∀ {ks : List CK} {l : List Value}, fitL ks l = true → l.length = ks.length
  | [], l, h => by rw [fitL_nil h]; rfl
  | c :: ks, l, h => by
    obtain ⟨v, r, rfl, _, hr⟩ := fitL_cons h
    simp [fitL_len hr]
theorem fitL_append : ∀ {a b : List CK} {l : List Value}, fitL (a ++ b) l = true → fitL a (l.take a.length) = true ∧ fitL b (l.drop a.length) = true
  | [], b, l, h => ⟨rfl, h⟩
  | c :: a, b, l, h => by
    obtain ⟨v, r, rfl, hc, hr⟩ := fitL_cons h
    obtain ⟨h1, h2⟩ := fitL_append hr
    refine ⟨?_, by simpa using h2⟩
    show fitL (c :: a) (v :: r.take a.length) = true
    unfold fitL
    rw [hc]; exact h1
theorem fitC_toLit {c : CK} {v : Value} (h : fitC c v = true) : ∃ l : Lit, toLit v = l ∧ v = l.toCell ∧ l.keyWf := by
  cases c with
  | i k => obtain ⟨n, rfl, hw⟩ := fitC_int h; exact ⟨.int k n, rfl, rfl, hw⟩
  | b => obtain ⟨b, rfl⟩ := fitC_bool h; exact ⟨.bool b, rfl, rfl, trivial⟩
  | s => obtain ⟨s, rfl, hs⟩ := fitC_str h; exact ⟨.string s.data.toList, rfl, rfl, by show s.data.toList.length ≤ maxLen; simpa using hs⟩

theorem fitL_rel {ks : List CK} : ∀ {l l' : List Value}, fitL ks l = true → RelL φ l l' → l' = l := by
  induction ks with
  | nil => intro l l' h hr; rw [fitL_nil h] at hr ⊢; cases hr; rfl
  | cons c ks ih =>
    intro l l' h hr
    obtain ⟨v, r, rfl, hc, hr'⟩ := fitL_cons h
    cases hr with
    | cons hv ht =>
      rw [ih hr' ht]
      congr 1
      cases c with
      | i k => obtain ⟨n, rfl, _⟩ := fitC_int hc; exact hv.int_inv
      | b => obtain ⟨n, rfl⟩ := fitC_bool hc; exact hv.bool_inv
      | s => obtain ⟨n, rfl, _⟩ := fitC_str hc; exact hv.string_inv

theorem cellsOf_one {x : Value} (hne : ∀ l, x ≠ .agg l) : cellsOf x = [x] := by
  unfold cellsOf
  split
  · rename_i l; exact absurd rfl (hne l)
  · rfl
theorem fitK_cells {K : KS} {x : Value} (h : fitK K x = true) : fitL K.ks (cellsOf x) = true ∧ cellsOf x = x.cells.toList ∧ ((K.agg = true ∧ ∃ l, x = .agg ⟨l⟩) ∨ (K.agg = false ∧ (∀ l, x ≠ .agg l) ∧ ∀ l, x ≠ .tuple l)) := by
  unfold fitK at h
  split at h
  · rename_i cs
    split at h
    · rename_i ha
      exact ⟨h, rfl, .inl ⟨ha, cs.toList, rfl⟩⟩
    · cases h
  · rename_i hne
    split at h
    · cases h
    · rename_i ha
      have hne' : ∀ l, x ≠ .agg l := fun l e => hne l e
      have hc : cellsOf x = [x] := by
        unfold cellsOf
        split
        · rename_i l; exact absurd rfl (hne' l)
        · rfl
      have hnt : ∀ l, x ≠ .tuple l := by
        intro l e
        subst e
        cases hk : K.ks with
        | nil => rw [hk] at h; cases h
        | cons c ks =>
          rw [hk] at h
          obtain ⟨v, r, e, hc, _⟩ := fitL_cons h
          cases e
          cases c <;> cases hc
      refine ⟨by rw [hc]; exact h, ?_, .inr ⟨ha, hne', hnt⟩⟩
      rw [hc]
      cases x <;> first | rfl | exact absurd rfl (hne' _) | exact absurd rfl (hnt _)
theorem fitK_rel {K : KS} {x x' : Value} (h : fitK K x = true) (hr : RelV φ x x') : x' = x := by
  obtain ⟨h1, h2, h3⟩ := fitK_cells h
  rcases h3 with ⟨_, l, rfl⟩ | ⟨_, hne, hnt⟩
  · cases hr with
    | agg hr => rw [fitL_rel h1 hr]; rfl
  · have hc : cellsOf x = [x] := cellsOf_one hne
    rw [hc] at h1
    have := fitL_rel h1 (.cons hr .nil)
    exact List.cons.inj this |>.1

theorem mapM_all {α β : Type} {f : α → Option β} {g : α → β} : ∀ {L : List α}, (∀ x ∈ L, f x = some (g x)) → L.mapM f = some (L.map g)
  | [], _ => rfl
  | x :: L, h => by
    rw [List.mapM_cons, h x (by simp), mapM_all fun y hy => h y (by simp [hy])]; rfl

theorem fitL_rep {ks : List CK} : ∀ {m : Nat} {cs : List Value}, fitL (repL ks m) cs = true → cs.length = m * ks.length ∧ ∀ i, i < m → fitL ks ((cs.drop (i * ks.length)).take ks.length) = true
  | 0, cs, h => by
    refine ⟨?_, fun i hi => absurd hi (Nat.not_lt_zero _)⟩
    rw [fitL_nil h]; simp
  | m + 1, cs, h => by
    have h : fitL (ks ++ repL ks m) cs = true := h
    obtain ⟨h1, h2⟩ := fitL_append h
    obtain ⟨h3, h4⟩ := fitL_rep h2
    have hl := fitL_len h1
    refine ⟨?_, fun i hi => ?_⟩
    · simp only [List.length_take, List.length_drop] at hl h3
      rw [Nat.succ_mul]; omega
    · cases i with
      | zero => simpa using h1
      | succ i =>
        have := h4 i (by omega)
        rw [List.drop_drop] at this
        rw [Nat.succ_mul, Nat.add_comm]
        exact this

theorem flatF_ok {P : Program} {rec : Nat → Option (List CK)} : ∀ {L : List Field} {off : Nat} {ks : List CK}, flatK.flatF rec off (L.map fun f => (f.offset, P.cellsOf f.type, f.type)) = some ks →
    (∀ f ∈ L, ∃ kf, rec f.type = some kf) ∧
    ∀ cs : List Value, fitL ks (cs.drop off) = true → (∀ f ∈ L, ∀ kf, rec f.type = some kf → fitL kf ((cs.drop f.offset).take (P.cellsOf f.type)) = true) ∧
      ((L.map fun f => (cs.drop f.offset).take (P.cellsOf f.type)).flatten = cs.drop off)
  | [], off, ks, hk => by
    cases hk
    refine ⟨(fun f hf => by cases hf), fun cs h => ⟨(fun f hf => by cases hf), ?_⟩⟩
    rw [fitL_nil h]; rfl
  | f :: L, off, ks, hk => by
    rw [List.map_cons] at hk
    unfold flatK.flatF at hk
    split at hk
    case h_2 => cases hk
    rename_i ho
    split at hk
    case h_2 => cases hk
    rename_i kf hkf
    split at hk
    case h_2 => cases hk
    rename_i hl
    split at hk
    case h_2 => cases hk
    rename_i r hr
    cases hk
    have ho : f.offset = off := nat_beq.1 ho
    have hl : kf.length = P.cellsOf f.type := by rw [← nat_beq.1 hl, lenL_is]
    obtain ⟨i1, i2⟩ := flatF_ok hr
    refine ⟨fun g hg => ?_, fun cs h => ?_⟩
    · rcases List.mem_cons.1 hg with rfl | hg
      · exact ⟨kf, hkf⟩
      · exact i1 g hg
    · obtain ⟨h1, h2⟩ := fitL_append h
      rw [hl] at h1 h2
      rw [List.drop_drop] at h2
      obtain ⟨i3, i4⟩ := i2 cs h2
      refine ⟨fun g hg kg hkg => ?_, ?_⟩
      · rcases List.mem_cons.1 hg with rfl | hg
        · rw [hkf] at hkg; cases hkg
          rw [ho]; exact h1
        · exact i3 g hg kg hkg
      · rw [List.map_cons, List.flatten_cons, i4, ho]
        have : cs.drop (Nat.add off (P.cellsOf f.type)) = (cs.drop off).drop (P.cellsOf f.type) := by rw [List.drop_drop]; rfl
        rw [this, List.take_append_drop]

theorem fineS_struct {t : Nat} {fs : Array Field} (hu : P.underlying t = some (.struct fs)) (hf : fineS P t = true) :
    (∀ f ∈ fs.toList, (f.name != "_") = true) ∧ (!(P.cutTypes.any (·.2 == t)) && !P.stoodInHeld t) = true := by
  unfold fineS at hf
  rw [hu] at hf
  simp only [Bool.and_eq_true, Array.all_eq_true_iff_forall_mem] at hf
  obtain ⟨⟨h1, h2⟩, h3⟩ := hf
  exact ⟨fun f hm => h1 f (Array.mem_toList_iff.1 hm), by rw [h2, h3]; rfl⟩

/-- plain data: their type is one of keys; their cells are literals -/
theorem flat_key (hT : TabOk P ty) : ∀ (n t : Nat) (ks : List CK), flatK ty n t = some ks →
    P.keyTypeAt n t = true ∧ (∀ d, n ≤ d → P.eqGuardType d t = false) ∧ (∀ ti, ty.get t = some ti → ti.k.agg = true → ks.length = ti.size) ∧
    ∀ cs, fitL ks cs = true → P.keyLits n t cs = some (cs.map toLit)
  | 0, t, ks, h => by cases h
  | n + 1, t, ks, h => by
    unfold flatK at h
    cases hg : ty.get t with
    | none => rw [hg] at h; cases h
    | some ti =>
      simp only [hg] at h
      have T := hT t ti hg
      obtain ⟨d, hd, hk⟩ := T.und
      have hcell := T.cells
      have plain : ∀ {d : TypeDesc}, (match d with | .interface _ => true | .struct _ => true | .array _ _ => true | _ => false) = false → P.underlying t = some d → ∀ q, n + 1 ≤ q → P.eqGuardType q t = false := by
        intro d h1 hd q hq
        cases q with
        | zero => omega
        | succ q => unfold Program.eqGuardType; rw [hd]; cases d <;> first | rfl | cases h1
      cases hkk : ti.k with
      | int k =>
        simp only [hkk] at h; rw [hkk] at hk; cases hk; cases h
        refine ⟨by unfold Program.keyTypeAt; rw [hd], plain rfl hd, (fun ti' ht' ha => by cases ht'; rw [hkk] at ha; cases ha), fun cs hf => ?_⟩
        obtain ⟨v, r, rfl, hc, hr⟩ := fitL_cons hf
        obtain rfl := fitL_nil hr
        obtain ⟨m, rfl, hw⟩ := fitC_int hc
        unfold Program.keyLits; rw [hd]
        simp [hw, toLit]
      | bool =>
        simp only [hkk] at h; rw [hkk] at hk; cases hk; cases h
        refine ⟨by unfold Program.keyTypeAt; rw [hd], plain rfl hd, (fun ti' ht' ha => by cases ht'; rw [hkk] at ha; cases ha), fun cs hf => ?_⟩
        obtain ⟨v, r, rfl, hc, hr⟩ := fitL_cons hf
        obtain rfl := fitL_nil hr
        obtain ⟨m, rfl⟩ := fitC_bool hc
        unfold Program.keyLits; rw [hd]
        simp [toLit]
      | string =>
        simp only [hkk] at h; rw [hkk] at hk; cases hk; cases h
        refine ⟨by unfold Program.keyTypeAt; rw [hd], plain rfl hd, (fun ti' ht' ha => by cases ht'; rw [hkk] at ha; cases ha), fun cs hf => ?_⟩
        obtain ⟨v, r, rfl, hc, hr⟩ := fitL_cons hf
        obtain rfl := fitL_nil hr
        obtain ⟨m, rfl, hw⟩ := fitC_str hc
        unfold Program.keyLits; rw [hd]
        simp [hw, toLit]
      | arr m el =>
        simp only [hkk] at h; rw [hkk] at hk; cases hk
        split at h
        case h_2 => cases h
        rename_i ei hei
        split at h
        case h_2 => cases h
        rename_i ke hke
        split at h
        case h_2 => cases h
        rename_i hl
        split at h
        case h_2 => cases h
        rename_i hm
        cases h
        obtain ⟨i1, i2, _, i3⟩ := flat_key hT n el ke hke
        have hce := (hT el ei hei).cells
        have hl : ke.length = ei.size := by rw [← nat_beq.1 hl, lenL_is]
        have hm : m * ei.size = ti.size := nat_beq.1 hm
        have hrep : ∀ m, (repL ke m).length = m * ke.length := by
          intro m
          induction m with
          | zero => simp [repL]
          | succ m ih => rw [repL, List.length_append, ih, Nat.succ_mul]; omega
        refine ⟨by unfold Program.keyTypeAt; rw [hd]; exact i1, fun q hq => ?_, (fun ti' ht' ha => by cases ht'; rw [hrep, hl, hm]), fun cs hf => ?_⟩
        · cases q with
          | zero => omega
          | succ q => unfold Program.eqGuardType; rw [hd]; exact i2 q (by omega)
        · obtain ⟨f1, f2⟩ := fitL_rep hf
          have hlen : cs.length = P.cellsOf t := by rw [hcell, ← hm, f1, hl]
          have hmap : (List.range m).mapM (fun i => P.keyLits n el ((cs.drop (i * P.cellsOf el)).take (P.cellsOf el))) = some ((List.range m).map fun i => ((cs.drop (i * P.cellsOf el)).take (P.cellsOf el)).map toLit) :=
            mapM_all fun i hi => by
              rw [hce, ← hl]
              exact i3 _ (f2 i (List.mem_range.1 hi))
          unfold Program.keyLits
          rw [hd]
          simp only [hlen, if_true, hmap, Option.map_some]
          congr 1
          have := chunks_flatten (P.cellsOf el) m cs (by rw [hce, ← hl]; exact f1)
          conv => rhs; rw [← this]
          rw [List.map_flatten, List.map_map]; rfl
      | struct fs =>
        simp only [hkk] at h; rw [hkk] at hk
        cases hk with
        | @struct _ fields hfs _ =>
          split at h
          case h_2 => cases h
          rename_i ks' hks
          split at h
          case h_2 => cases h
          rename_i hl
          cases h
          have hl : ks.length = ti.size := by rw [← nat_beq.1 hl, lenL_is]
          rw [← hfs] at hks
          obtain ⟨j1, j2⟩ := flatF_ok hks
          obtain ⟨n1, n2⟩ := fineS_struct hd T.fine
          refine ⟨?_, fun q hq => ?_, (fun ti' ht' ha => by cases ht'; exact hl), fun cs hf => ?_⟩
          · unfold Program.keyTypeAt
            rw [hd]
            simp only [Bool.and_assoc, n2, Bool.and_true]
            rw [Array.all_eq_true_iff_forall_mem]
            intro f hm
            obtain ⟨kf, hkf⟩ := j1 f (Array.mem_toList_iff.2 hm)
            rw [n1 f (Array.mem_toList_iff.2 hm), (flat_key hT n f.type kf hkf).1]; rfl
          · cases q with
            | zero => omega
            | succ q =>
              unfold Program.eqGuardType; rw [hd]
              simp only
              rw [Array.any_eq_false]
              intro i hi
              obtain ⟨kf, hkf⟩ := j1 fields[i] (Array.mem_toList_iff.2 (Array.getElem_mem hi))
              rw [(flat_key hT n _ kf hkf).2.1 q (by omega)]; simp
          · have hf0 : fitL ks (cs.drop 0) = true := hf
            obtain ⟨k1, k2⟩ := j2 cs hf0
            have hlen : cs.length = P.cellsOf t := by rw [hcell, ← hl, fitL_len hf]
            have hmap : fields.toList.mapM (fun f => P.keyLits n f.type ((cs.drop f.offset).take (P.cellsOf f.type))) = some (fields.toList.map fun f => ((cs.drop f.offset).take (P.cellsOf f.type)).map toLit) :=
              mapM_all fun f hm => by
                obtain ⟨kf, hkf⟩ := j1 f hm
                exact (flat_key hT n f.type kf hkf).2.2.2 _ (k1 f hm kf hkf)
            have hall : fields.all (·.name != "_") = true := by
              rw [Array.all_eq_true_iff_forall_mem]
              intro f hm
              exact n1 f (Array.mem_toList_iff.2 hm)
            unfold Program.keyLits
            rw [hd]
            simp only [hlen, hall, and_self, if_true, hmap, Option.map_some]
            congr 1
            have : cs = cs.drop 0 := rfl
            conv => rhs; rw [this, ← k2]
            rw [List.map_flatten, List.map_map]; rfl
      | _ => simp only [hkk] at h; cases h

theorem cellEq_ok {c : CK} {a b : Value} (ha : fitC c a = true) (hb : fitC c b = true) {r : Bool} (hr : cellEq a b = some r) : r = true ↔ toLit a = toLit b := by
  cases c with
  | i k =>
    obtain ⟨m, rfl, _⟩ := fitC_int ha
    obtain ⟨n, rfl, _⟩ := fitC_int hb
    unfold cellEq at hr
    simp only at hr
    split at hr
    · cases hr; rw [iEq_is]; simp [toLit]
    · cases hr
  | b =>
    obtain ⟨m, rfl⟩ := fitC_bool ha
    obtain ⟨n, rfl⟩ := fitC_bool hb
    unfold cellEq at hr
    cases hr; simp [toLit]
  | s =>
    obtain ⟨m, rfl, _⟩ := fitC_str ha
    obtain ⟨n, rfl, _⟩ := fitC_str hb
    unfold cellEq at hr
    cases hr; rw [bEq_is]; simp [toLit]
theorem cellsEq_ok : ∀ {ks : List CK} {a b : List Value}, fitL ks a = true → fitL ks b = true → ∀ {r : Bool}, cellsEq a b = some r → (r = true ↔ a.map toLit = b.map toLit)
  | [], a, b, ha, hb, r, hr => by
    rw [fitL_nil ha, fitL_nil hb] at *
    cases hr; simp
  | c :: ks, a, b, ha, hb, r, hr => by
    obtain ⟨x, a, rfl, hx, ha⟩ := fitL_cons ha
    obtain ⟨y, b, rfl, hy, hb⟩ := fitL_cons hb
    unfold cellsEq at hr
    split at hr
    · rename_i h1
      have i1 := (cellEq_ok hx hy h1).1 rfl
      rw [cellsEq_ok ha hb hr]
      simp [i1]
    · rename_i h1
      cases hr
      have i1 := cellEq_ok hx hy h1
      simp only [List.map_cons, List.cons.injEq]
      constructor
      · intro h; cases h
      · intro h; exact i1.2 h.1
    · cases hr

/-- a type of plain data, its kinds -/
structure KeyOf (P : Program) (ty : TTy) (t : Nat) (K : KS) : Prop where
  ti : ∃ ti, ty.get t = some ti ∧ K.agg = ti.k.agg
  flat : flatK ty 8 t = some K.ks

theorem KeyOf.formed (hT : TabOk P ty) {t : Nat} {K : KS} (hK : KeyOf P ty t K) {x : Value} (hx : fitK K x = true) : x.formed P t = true ∧ P.keyLits 8 t x.cells.toList = some ((cellsOf x).map toLit) := by
  obtain ⟨ti, hti, ha⟩ := hK.ti
  obtain ⟨_, _, f3, f4⟩ := flat_key hT 8 t K.ks hK.flat
  obtain ⟨h1, h2, h3⟩ := fitK_cells hx
  have T := hT t ti hti
  obtain ⟨d, hd, hk⟩ := T.und
  refine ⟨?_, by rw [← h2]; exact f4 _ h1⟩
  rcases h3 with ⟨hag, l, rfl⟩ | ⟨hag, hne, hnt⟩
  · rw [ha] at hag
    have hs := f3 ti hti hag
    have hl := fitL_len h1
    unfold Value.formed
    rw [hd]
    have hsz : (Array.mk l).size = P.cellsOf t := by
      have : l.length = K.ks.length := hl
      rw [T.cells, ← hs, ← this]; rfl
    generalize ti.k = kk at hk hag
    cases hk <;> first | (cases hag; done) | (simp only [hsz]; exact beq_self_eq_true _)
  · rw [ha] at hag
    have : (match P.underlying t with | some (.struct _) => false | some (.array _ _) => false | _ => true) = true := by
      rw [hd]
      generalize ti.k = kk at hk hag
      cases hk <;> first | rfl | (cases hag; done) | skip
      rename_i ho
      cases d <;> first | rfl | cases ho
    unfold Value.formed
    cases x <;> first | exact absurd rfl (hne _) | exact absurd rfl (hnt _) | exact this

theorem KeyOf.equal (hT : TabOk P ty) {t : Nat} {K : KS} (hK : KeyOf P ty t K) {x y : Value} (hx : fitK K x = true) (hy : fitK K y = true) {r : Bool} (hr : cellsEq (cellsOf x) (cellsOf y) = some r) (w : World) :
    (Op.equal t x y).run P w = .ok r w := by
  obtain ⟨f1, f2⟩ := hK.formed hT hx
  obtain ⟨g1, g2⟩ := hK.formed hT hy
  obtain ⟨k1, _⟩ := flat_key hT 8 t K.ks hK.flat
  obtain ⟨r', hr', hiff⟩ := run_equalIn_deep (P := P) 9992 8 t k1 w _ _ x y _ _ f1 g1 f2 g2
  have := cellsEq_ok (fitK_cells hx).1 (fitK_cells hy).1 hr
  have e : r' = r := by
    rw [Bool.eq_iff_iff, hiff, this]
  rw [← e]; exact hr'
theorem KeyOf.check (hT : TabOk P ty) {t : Nat} {K : KS} (hK : KeyOf P ty t K) {x : Value} (hx : fitK K x = true) (em : Bool) (w : World) : (Instr.checkKey em 10000 t x).run P w = .ok () w := by
  obtain ⟨f1, f2⟩ := hK.formed hT hx
  obtain ⟨k1, _⟩ := flat_key hT 8 t K.ks hK.flat
  exact run_checkKey_deep (P := P) em 9992 8 t k1 w _ x _ f1 f2

theorem equalIn_same {t : Nat} {d : TypeDesc} (hd : P.underlying t = some d) (n : Nat) {a b : Value} {c : Bool} (hs : Instr.sameNow d a b = some c) (w : World) : (Op.equalIn (n + 1) t a b).run P w = .ok c w := by
  unfold Instr.sameNow at hs
  split at hs
  · split at hs
    · rename_i hkk
      cases hs
      simp [Op.equalIn, run_underlying hd, hkk]
    · cases hs
  · cases hs; simp [Op.equalIn, run_underlying hd]
  · cases hs; simp [Op.equalIn, run_underlying hd]
  · cases hs
theorem findNow_asks {t : Nat} {d : TypeDesc} (hd : P.underlying t = some d) {k : Value} : ∀ {es : List MapEntry} {i : Nat} {r : Option (Nat × Value)}, Instr.findNow d k es i = some r → ∀ w : World, (Instr.findAsking t k es i).run P w = .ok r w
  | [], i, r, h, w => by cases h; simp [Instr.findAsking]
  | e :: es, i, r, h, w => by
    have same : ∀ {a b : Value} {c : Bool}, Instr.sameNow d a b = some c → (Op.equal t a b).run P w = .ok c w := fun hs => equalIn_same hd 9999 hs w
    unfold Instr.findNow at h
    split at h
    · rename_i hs
      cases h
      simp [Instr.findAsking, same hs]
    · rename_i hs
      have := findNow_asks hd h w
      simp [Instr.findAsking, same hs, this]
    · cases h
theorem findKey_is {t : Nat} {d : TypeDesc} (hd : P.underlying t = some d) {k : Value} {es : List MapEntry} {r : Option (Nat × Value)} (hr : (Instr.findAsking t k es 0).run P w = .ok r w) : (Instr.findKey t k es).run P w = .ok r w := by
  unfold Instr.findKey
  simp only [Sem.run_bind, run_underlying hd, Result.andThen_ok]
  cases hn : Instr.findNow d k es 0 with
  | none => exact hr
  | some r' =>
    have := findNow_asks hd hn w
    rw [hr] at this
    cases this
    simp

theorem keyEq_ok (hT : TabOk P ty) {t : Nat} {K : KS} (hK : KeyOf P ty t K) {x y y' : Value} (hx : fitK K x = true) (hy : RelV φ y y') {r : Bool} (hr : keyEq K x y = some r) (w : World) : (Op.equal t x y').run P w = .ok r w ∧ fitK K y = true ∧ y' = y := by
  unfold keyEq at hr
  split at hr
  · rename_i hf
    have := fitK_rel hf hy
    subst this
    exact ⟨hK.equal hT hx hf hr w, hf, rfl⟩
  · cases hr

theorem findE_ok (hT : TabOk P ty) {t : Nat} {K : KS} (hK : KeyOf P ty t K) {x : Value} (hx : fitK K x = true) (w : World) : ∀ {es : List Ent} {es' : List MapEntry} (i : Nat), RelE φ es es' → ∀ {r : Option Ent}, findE K x es = some r →
    match r with
    | none => (Instr.findAsking t x es' i).run P w = .ok none w
    | some e => ∃ j v', (Instr.findAsking t x es' i).run P w = .ok (some (j, v')) w ∧ RelV φ e.val v'
  | _, _, i, .nil, r, h => by cases h; simp [Instr.findAsking]
  | _, _, i, .cons (k := k) (k' := k') (v := v) (v' := v') (b := b) (l := l) (l' := l') hk hv ht, r, h => by
    unfold findE at h
    split at h
    · rename_i he
      cases h
      obtain ⟨h1, _⟩ := keyEq_ok hT hK hx hk he w
      exact ⟨i, v', by simp [Instr.findAsking, h1], hv⟩
    · rename_i he
      obtain ⟨h1, _⟩ := keyEq_ok hT hK hx hk he w
      have ih := findE_ok hT hK hx w (i + 1) ht h
      cases r with
      | none => simpa [Instr.findAsking, h1] using ih
      | some e =>
        obtain ⟨j, u, hj, hu⟩ := ih
        exact ⟨j, u, by simp [Instr.findAsking, h1, hj], hu⟩
    · cases h

theorem fit_bits {c : CK} {x : Value} (h : fitC c x = true) (n : Nat) : Instr.sameBits n x x = true := by
  obtain ⟨l, _, rfl, hw⟩ := fitC_toLit h
  exact sameBits_toCell hw n
theorem fitL_bits {ks : List CK} (n : Nat) : ∀ {l : List Value}, fitL ks l = true → (l.zip l).all (fun (x, y) => Instr.sameBits n x y) = true := by
  induction ks with
  | nil => intro l h; rw [fitL_nil h]; rfl
  | cons c ks ih =>
    intro l h
    obtain ⟨v, r, rfl, hc, hr⟩ := fitL_cons h
    simp only [List.zip_cons_cons, List.all_cons, fit_bits hc, ih hr, Bool.and_self]
theorem fitK_bits {K : KS} {x : Value} (h : fitK K x = true) (n : Nat) : Instr.sameBits (n + 1) x x = true := by
  obtain ⟨h1, _, h3⟩ := fitK_cells h
  rcases h3 with ⟨_, l, rfl⟩ | ⟨_, hne, hnt⟩
  · unfold Instr.sameBits
    simp only [beq_self_eq_true, Bool.true_and]
    exact fitL_bits n h1
  · have hc : cellsOf x = [x] := cellsOf_one hne
    rw [hc] at h1
    cases hk : K.ks with
    | nil => rw [hk] at h1; cases h1
    | cons c ks =>
      rw [hk] at h1
      obtain ⟨v, r, e, hcc, _⟩ := fitL_cons h1
      cases e
      exact fit_bits hcc _
/-- two that are the same, kinds and all -/
theorem cellsEq_eq : ∀ {ks : List CK} {a b : List Value}, fitL ks a = true → fitL ks b = true → cellsEq a b = some true → a = b
  | [], a, b, ha, hb, _ => by rw [fitL_nil ha, fitL_nil hb]
  | c :: ks, a, b, ha, hb, hr => by
    obtain ⟨x, a, rfl, hx, ha⟩ := fitL_cons ha
    obtain ⟨y, b, rfl, hy, hb⟩ := fitL_cons hb
    unfold cellsEq at hr
    split at hr
    · rename_i h1
      have i1 := (cellEq_ok hx hy h1).1 rfl
      rw [cellsEq_eq ha hb hr]
      obtain ⟨l, e1, e2, _⟩ := fitC_toLit hx
      obtain ⟨m, e3, e4, _⟩ := fitC_toLit hy
      rw [e2, e4, ← e1, ← e3, i1]
    · cases hr
    · cases hr
theorem keyEq_true {K : KS} {x y : Value} (hx : fitK K x = true) (hr : keyEq K x y = some true) : x = y := by
  unfold keyEq at hr
  split at hr
  · rename_i hf
    obtain ⟨h1, h2, h3⟩ := fitK_cells hx
    obtain ⟨g1, g2, g3⟩ := fitK_cells hf
    have := cellsEq_eq h1 g1 hr
    rcases h3 with ⟨ha, l, rfl⟩ | ⟨ha, hne, hnt⟩
    · rcases g3 with ⟨_, m, rfl⟩ | ⟨hb, _⟩
      · have : l = m := this
        rw [this]
      · rw [ha] at hb; cases hb
    · rcases g3 with ⟨hb, _⟩ | ⟨_, gne, gnt⟩
      · rw [ha] at hb; cases hb
      · have c1 : cellsOf x = [x] := cellsOf_one hne
        have c2 : cellsOf y = [y] := cellsOf_one gne
        rw [c1, c2] at this
        exact List.cons.inj this |>.1
  · cases hr

theorem setE_ok (hT : TabOk P ty) {t : Nat} {K : KS} (hK : KeyOf P ty t K) {x : Value} (hx : fitK K x = true) {u u' : Value} (hu : RelV φ u u') (hxx : RelV φ x x) (w : World) : ∀ {es : List Ent} {es' : List MapEntry} (i : Nat), RelE φ es es' → ∀ {r : Option (List Ent)}, setE K x u es = some r →
    match r with
    | none => (Instr.findAsking t x es' i).run P w = .ok none w
    | some es2 => ∃ j v' en, (Instr.findAsking t x es' i).run P w = .ok (some (i + j, v')) w ∧ es'[j]? = some en ∧ en.key = x ∧ RelE φ es2 (es'.modify j fun e => { e with key := x, val := u' })
  | _, _, i, .nil, r, h => by cases h; simp [Instr.findAsking]
  | _, _, i, .cons (k := k) (k' := k') (v := v) (v' := v') (b := b) (l := l) (l' := l') hk hv ht, r, h => by
    unfold setE at h
    split at h
    · rename_i he
      cases h
      obtain ⟨h1, _, h2⟩ := keyEq_ok hT hK hx hk he w
      have h3 := keyEq_true hx he
      exact ⟨0, v', ⟨k', v', b⟩, by simp [Instr.findAsking, h1], rfl, by simp only; rw [h2]; exact h3.symm, by simpa using RelE.cons hxx hu ht⟩
    · rename_i he
      obtain ⟨h1, _⟩ := keyEq_ok hT hK hx hk he w
      split at h
      · rename_i es2 hs
        cases h
        obtain ⟨j, v2, en, e1, e2, e3, e4⟩ := setE_ok hT hK hx hu hxx w (i + 1) ht hs
        refine ⟨j + 1, v2, en, ?_, by simpa using e2, e3, by simpa using RelE.cons hk hv e4⟩
        simp only [Instr.findAsking, Sem.run_bind, h1, Result.andThen_ok, Bool.false_eq_true, if_false]
        rw [e1]; congr 3; omega
      · rename_i hs
        cases h
        have := setE_ok hT hK hx hu hxx w (i + 1) ht hs
        simpa [Instr.findAsking, h1] using this
      · cases h
    · cases h
theorem delE_ok (hT : TabOk P ty) {t : Nat} {K : KS} (hK : KeyOf P ty t K) {x : Value} (hx : fitK K x = true) (w : World) : ∀ {es : List Ent} {es' : List MapEntry} (i : Nat), RelE φ es es' → ∀ {es2 : List Ent}, delE K x es = some es2 →
    ((Instr.findAsking t x es' i).run P w = .ok none w ∧ es2 = es) ∨ ∃ j v', (Instr.findAsking t x es' i).run P w = .ok (some (i + j, v')) w ∧ RelE φ es2 (es'.eraseIdx j)
  | _, _, i, .nil, es2, h => by cases h; exact .inl ⟨by simp [Instr.findAsking], rfl⟩
  | _, _, i, .cons (k := k) (k' := k') (v := v) (v' := v') (b := b) (l := l) (l' := l') hk hv ht, es2, h => by
    unfold delE at h
    split at h
    · rename_i he
      cases h
      obtain ⟨h1, _⟩ := keyEq_ok hT hK hx hk he w
      exact .inr ⟨0, v', by simp [Instr.findAsking, h1], by simpa using ht⟩
    · rename_i he
      obtain ⟨h1, _⟩ := keyEq_ok hT hK hx hk he w
      split at h
      · rename_i l2 hs
        cases h
        rcases delE_ok hT hK hx w (i + 1) ht hs with ⟨e1, e2⟩ | ⟨j, v2, e1, e2⟩
        · exact .inl ⟨by simp [Instr.findAsking, h1, e1], by rw [e2]⟩
        · refine .inr ⟨j + 1, v2, ?_, by simpa using RelE.cons hk hv e2⟩
          simp only [Instr.findAsking, Sem.run_bind, h1, Result.andThen_ok, Bool.false_eq_true, if_false]
          rw [e1]; congr 3; omega
      · cases h
    · cases h
theorem addE_ok {x : Ent} : ∀ {es : List Ent}, addE x es = es ++ [x]
  | [] => rfl
  | e :: es => by unfold addE; rw [addE_ok]; rfl
theorem RelE.append {x : Ent} {x' : MapEntry} (hx : RelE φ [x] [x']) : ∀ {es : List Ent} {es' : List MapEntry}, RelE φ es es' → RelE φ (es ++ [x]) (es' ++ [x'])
  | _, _, .nil => hx
  | _, _, .cons hk hv t => .cons hk hv (RelE.append hx t)
theorem fitK_plain {K : KS} {x x' : Value} (h : fitK K x = true) (hr : RelV φ x x') : x' = x ∧ RelV φ x x := by
  have := fitK_rel h hr
  subst this
  exact ⟨rfl, hr⟩
end
end Go.Proofs.Ytkafejncffinmaa
