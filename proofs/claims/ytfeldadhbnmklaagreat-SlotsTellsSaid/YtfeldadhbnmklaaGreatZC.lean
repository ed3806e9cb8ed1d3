/-
  Walks through maps.
  Maps: an entry looked up, laid, struck.
  One operation: the whole table.
  Operations that leave the machine's heap as it is, and look at its blocks alone.
  What is plain, or reads, leaves the machine's heap as it is.
  A region's operations, one behind the other, as the machine has carried them out.
  A region's operations: out of the machine's run, a list of operations that have been carried out.
  A region's operations in the order of the text.
  A region's operations in any order that its edges allow: the laws, and what holds when some of them have been carried out.
  A region's operations in any order that its edges allow: one operation more.
  A region's operations in any order that its edges allow: begin, go on, end.
  What 'drawC' has looked for keeps an open order to its laws.
-/
import Derived.Test.YtfeldadhbnmklaaGreatZB
import Derived.Orders
set_option linter.unusedSimpArgs false
set_option linter.unusedVariables false
namespace Go.Proofs.YtfeldadhbnmklaaGreat
noncomputable section
open Go
section
variable {P : Program} {ty : TTy} {φ : Phi} {E : Nat → Prop} {h h' : Hp} {w : World} {F : CallF} {e : Env} {v : Value} {f : Fr}
theorem KX (H : RelW ty φ E h w) {o : Blk} {ob : Obj} (hr : Ei h o Gd = .ok v h')
    (hB : RelB ty (φ.put h.next { blk := w.heap.size, off := 0, sz := 0, room := 0, es := 1 }) { blk := w.heap.size, off := 0, sz := 0, room := 0, es := 1 } o (some ob)) :
    A8 ty φ E h w v h' (.ok (.pointer (some ⟨w.heap.size, 0, none⟩)) { w with heap := w.heap.push ob }) := by
  obtain ⟨bl, hbl, hk⟩ := F2 hr
  cases hk
  let w' : World := { w with heap := w.heap.push ob }
  have hs : w'.heap.size = w.heap.size + 1 := by simp [w']
  have hsame : ∀ k, k < w.heap.size → w'.heap[k]? = w.heap[k]? := fun k hk => by
    show (w.heap.push _)[k]? = _
    rw [Array.getElem?_push_lt hk, Array.getElem?_eq_getElem hk]
  refine ⟨_, w', φ.put h.next { blk := w.heap.size, off := 0, sz := 0, room := 0, es := 1 }, rfl, LR (Phi.put_self _ _ _) rfl,
    H.new hbl (by omega) (by show w.heap.size < _; omega) (fun j q e _ => by have := (H.dom j q e).2; show _ ≠ w.heap.size; omega) (fun k hk _ => hsame k hk) ?_,
    .made H hbl (Nat.le_refl _) (by omega) hsame rfl rfl rfl⟩
  have : w'.heap[w.heap.size]? = some ob := by show (w.heap.push _)[w.heap.size]? = _; simp
  rw [this]
  exact hB
theorem Qj (H : RelW ty φ E h w) (hE : ∀ b, ¬ E b) {x : O} {x' : Value} {t kt el : TypeId} {ti : TI} (T : TyOk P t ti) (hk : ti.k = .map kt el) (hx : RelV φ (x e) x') (hr : LL x F e h = .ok v h') :
    A8 ty φ E h w v h' ((Instr.range t x').run P w) := by
  obtain ⟨d, hd, hkd⟩ := T.desc
  rw [hk] at hkd; cases hkd
  unfold LL at hr
  split at hr
  · rename_i hxe
    rw [hxe] at hx
    cases hx
    have key : (Instr.range t (.map none)).run P w = .ok (.pointer (some ⟨w.heap.size, 0, none⟩)) { w with heap := w.heap.push (.mapIter none 0 #[] 0) } := by
      simp only [Instr.range, Sem.run_bind, hd, Result.andThen_ok, Sem.run_pure, run_newObj]
    rw [key]
    exact KX H hr (.iter0 rfl)
  · rename_i r hxe
    rw [hxe] at hx
    cases hx with
    | @map _ p hp =>
      split at hr
      case h_2 => cases hr
      rename_i es c hes
      obtain ⟨es', hw, hrel⟩ := H.entsAt hp (hE r) hes
      have key : (Instr.range t (.map (some p.blk))).run P w = .ok (.pointer (some ⟨w.heap.size, 0, none⟩)) { w with heap := w.heap.push (.mapIter (some p.blk) c #[] c) } := by
        simp only [Instr.range, Sem.run_bind, hd, Result.andThen_ok, BW hw rfl, Sem.run_pure, run_newObj]
      rw [key]
      exact KX H hr (.iter rfl (Phi.put_le H.none_next _ _ hp))
  · cases hr
theorem IR (n : Nat) : ∀ l : List Nat, QR n l = l.contains n
  | [] => rfl
  | x :: l => by
    unfold QR
    rw [IR n l, List.contains_cons]
    cases hb : Nat.beq x n with
    | true =>
      have : x = n := AZ.1 hb
      subst this; simp
    | false =>
      have : ¬ n = x := fun h => by rw [h, Nat.beq_refl] at hb; cases hb
      simp [this]
theorem Jb (n : Nat) : ∀ l : List Nat, Ja n l = l ++ [n]
  | [] => rfl
  | x :: l => congrArg (x :: ·) (Jb n l)
theorem MQ {since : Nat} {seen : List Nat} : ∀ {es : List Ent} {es' : List MapEntry} {l : List Ent}, RelE φ es es' → KU since seen es = some l →
    ∃ l', RelE φ l l' ∧ es'.filter (fun e => !seen.contains e.born) = l' ∧ l'.filter (fun e => decide (e.born < since)) = l' ∧ l'.filter (fun e => decide (e.born ≥ since)) = []
  | _, _, l, .nil, h => by cases h; exact ⟨[], .nil, rfl, rfl, rfl⟩
  | _, _, l, .cons (b := b) hk hv t, h => by
    unfold KU at h
    split at h
    · rename_i r hr
      obtain ⟨l', h1, h2, h3, h4⟩ := MQ t hr
      rw [IR] at h
      cases hm : seen.contains b with
      | true =>
        simp only [hm, cond_true] at h
        cases h
        exact ⟨l', h1, by rw [List.filter_cons]; simp only [hm, Bool.not_true, Bool.false_eq_true, if_false]; exact h2, h3, h4⟩
      | false =>
        simp only [hm, cond_false] at h
        obtain ⟨hb, h⟩ : Nat.blt b since = true ∧ _ = some l := by
          cases hb : Nat.blt b since with
          | true => rw [hb] at h; exact ⟨rfl, h⟩
          | false => rw [hb] at h; cases h
        cases h
        have hlt := A3.1 hb
        refine ⟨_, .cons hk hv h1, by rw [List.filter_cons]; simp only [hm, Bool.not_false, if_true]; rw [h2], ?_, ?_⟩
        · rw [List.filter_cons]; simp [hlt, h3]
        · rw [List.filter_cons]; simp [Nat.not_le.2 hlt, h4]
    · cases h
theorem Hy {last : Nat} : ∀ {es : List Ent} {es' : List MapEntry}, RelE φ es es' → es'.all (fun e => decide (e.born ≥ last)) = Eo last es
  | _, _, .nil => rfl
  | _, _, .cons (b := b) hk hv t => by
    unfold Eo
    rw [List.all_cons, Hy t]
    cases hb : Nat.ble last b with
    | true => simp [Ap.1 hb]
    | false =>
      have : ¬ last ≤ b := fun h => by rw [Ap.2 h] at hb; cases hb
      simp [this]
theorem FA {b : Nat} {m : Option Nat} {s : Nat} {l : List Nat} {t : Nat} (hr : Eu (h.bl.get b) = .ok m s l t) : h.bl.get b = .iter m s l t := by
  unfold Eu at hr
  split at hr <;> first | (cases hr; assumption) | cases hr
theorem Z3 {b m s t : Nat} (hr : Eu (h.bl.get b) = .cur m s t) : h.bl.get b = .cur m s t := by
  unfold Eu at hr
  split at hr <;> first | (cases hr; assumption) | cases hr
theorem Ww {b m s t : Nat} {sn : Option (List Nat)} (hr : Eu (h.bl.get b) = .pick m s t sn) : h.bl.get b = .pick m s t sn := by
  unfold Eu at hr
  split at hr <;> first | (cases hr; assumption) | cases hr
theorem My : RelV φ (.tuple ⟨[.bool false]⟩) (.tuple #[.bool false]) := .tuple (.cons (.bool _) .nil)
theorem S1 (H : RelW ty φ E h w) (hE : ∀ b, ¬ E b) {x : O} {x' : Value} {t : TypeId} (hx : RelV φ (x e) x') (hr : G9 x F e h = .ok v h') : A8 ty φ E h w v h' ((Instr.next x' false t).run P w) := by
  unfold G9 at hr
  split at hr
  case h_2 => cases hr
  rename_i a ha
  obtain ⟨hb, hr⟩ := BM hr
  obtain ⟨a', rfl, hra⟩ := EN hx ha
  obtain ⟨p, hp, rfl⟩ := hra.eq
  have hoff : a.off = 0 := AZ.1 hb
  unfold MY at hr
  split at hr
  · rename_i s l tl hit
    cases hr
    have hrow := H.row a.block p hp (hE _)
    rw [FA hit] at hrow
    generalize hw : w.heap[p.blk]? = ob at hrow
    cases hrow with
    | iter0 hp0 =>
      have key : (Instr.next (.pointer (some ⟨p.blk, p.off + a.off, none⟩)) false t).run P w = .ok (.tuple #[.bool false]) w := by
        rw [hp0, hoff]
        simp only [Instr.next, Sem.run_bind, BW hw rfl, Result.andThen_ok, Sem.run_pure]
      rw [key]; exact .same H My
  · rename_i m since seen last hit
    have hrow := H.row a.block p hp (hE _)
    rw [FA hit] at hrow
    generalize hw : w.heap[p.blk]? = ob at hrow
    cases hrow with
    | @iter _ q _ _ _ hp0 hq =>
      split at hr
      case h_2 => cases hr
      rename_i es c hes
      obtain ⟨es', hwm, hrel⟩ := H.entsAt hq (hE m) hes
      rw [hp0, hoff]
      have hmatch : ∃ k : R, k = .ok v h' ∧ (!(⟨seen⟩ : Array Nat).isEmpty && !(⟨es'⟩ : Array MapEntry).isEmpty && (⟨es'⟩ : Array MapEntry).all (fun e => decide (e.born ≥ last))) = false ∧
          k = (match KU since seen es with
            | some [] => TC h
            | some [x] => DI h a.block (.iter (some m) since (Ja x.born seen) c) fun h => .ok (.tuple ⟨[.bool true, x.key, x.val]⟩) h
            | _ => .no) := by
        have hall : (⟨es'⟩ : Array MapEntry).all (fun e => decide (e.born ≥ last)) = Eo last es := by
          rw [← Hy hrel]; simp
        cases seen with
        | nil => exact ⟨_, hr, by simp, rfl⟩
        | cons s0 sl =>
          cases hrel with
          | nil => exact ⟨_, hr, by simp, rfl⟩
          | cons hk hv tl =>
            simp only at hr
            rw [hall]
            generalize hy : Eo last _ = y at hr ⊢
            cases y with
            | true => cases hr
            | false => exact ⟨_, hr, by simp, rfl⟩
      obtain ⟨k, hk, hstop, rfl⟩ := hmatch
      cases hl : KU since seen es with
      | none => rw [hl] at hk; cases hk
      | some l =>
        rw [hl] at hk
        obtain ⟨l', q1, q2, q3, q4⟩ := MQ hrel hl
        have f1 : (⟨es'⟩ : Array MapEntry).filter (fun e => !(⟨seen⟩ : Array Nat).contains e.born) = ⟨l'⟩ := by
          rw [← q2]; apply Array.ext'; simp
        have f2 : (⟨l'⟩ : Array MapEntry).filter (fun e => decide (e.born < since)) = ⟨l'⟩ := by
          apply Array.ext'; rw [Array.toList_filter]; exact q3
        have f3 : (⟨l'⟩ : Array MapEntry).filter (fun e => decide (e.born ≥ since)) = #[] := by
          apply Array.ext'; rw [Array.toList_filter]; exact q4
        cases q1 with
        | nil =>
          cases hk
          have key : (Instr.next (.pointer (some ⟨p.blk, 0, none⟩)) false t).run P w = .ok (.tuple #[.bool false]) w := by
            simp only [Instr.next, Sem.run_bind, BW hw rfl, Result.andThen_ok, BW hwm rfl, hstop, Bool.false_eq_true, if_false, f1, f2, f3]
            simp [run_choose, Question.forced]
          have : p.off + a.off = 0 := by omega
          rw [show (0 : Nat) + 0 = 0 from rfl, key]; exact .same H My
        | cons hkk hvv tl =>
          cases tl with
          | cons _ _ _ => cases hk
          | nil =>
            rename_i k0 k1 v0 v1 b0
            have hlive : Live h a.block := by unfold Live; rw [FA hit]; intro hd; cases hd
            simp only at hk
            obtain ⟨h1, hk2, H1, ev⟩ := Dy (ob := .mapIter (some q.blk) since ⟨seen ++ [b0]⟩ c) H (hE _) hp hlive hk (by rw [FA hit]; exact .inr trivial) (by rw [Jb]; exact .iter hp0 hq)
            cases hk2
            have key : (Instr.next (.pointer (some ⟨p.blk, 0, none⟩)) false t).run P w = .ok (.tuple #[.bool true, k1, v1]) { w with heap := w.heap.setIfInBounds p.blk (.mapIter (some q.blk) since ⟨seen ++ [b0]⟩ c) } := by
              have hset := C6 (P := P) (ob' := .mapIter (some q.blk) since ⟨seen ++ [b0]⟩ c) hw rfl
              simp only [Instr.next, Sem.run_bind, BW hw rfl, Result.andThen_ok, BW hwm rfl, hstop, Bool.false_eq_true, if_false, f1, f2, f3]
              simp [run_choose, Question.forced, hset]
            rw [key]; exact ⟨_, _, φ, rfl, .tuple (.cons (.bool _) (.cons hkk (.cons hvv .nil))), H1, ev⟩
  · cases hr
  · cases hr
  · rename_i m s last hit
    have hrow := H.row a.block p hp (hE _)
    rw [Ww hit] at hrow
    cases hrow
theorem MO : ∀ l : List Nat, Pa l = l.getLast?
  | [] => rfl
  | [x] => rfl
  | x :: y :: l => by
    show Pa (y :: l) = _
    rw [MO (y :: l)]; rfl
theorem L2 {n : Nat} : ∀ {es : List Ent} {es' : List MapEntry} {x : Ent}, RelE φ es es' → GI n es = some x → ∃ x', es'.find? (fun e => e.born == n) = some x' ∧ RelV φ x.key x'.key ∧ RelV φ x.val x'.val
  | _, _, x, .nil, h => by cases h
  | _, _, x, .cons (k' := k') (v' := v') (b := b) hk hv t, h => by
    unfold GI at h
    rw [List.find?_cons]
    cases hb : Nat.beq b n with
    | true =>
      simp only [hb, cond_true] at h
      cases h
      have : b = n := AZ.1 hb
      subst this
      refine ⟨⟨k', v', b⟩, ?_, hk, hv⟩
      simp only [beq_self_eq_true]
    | false =>
      simp only [hb, cond_false] at h
      have hne : (b == n) = false := by
        rw [beq_eq_false_iff_ne]; intro he; rw [he, Nat.beq_refl] at hb; cases hb
      obtain ⟨x', q1, q2⟩ := L2 t h
      exact ⟨x', by simp only [hne]; exact q1, q2⟩
theorem Nx (H : RelW ty φ E h w) (hE : ∀ b, ¬ E b) {m s last : Nat} {q : Pl} (hq : φ m = some q) (hr : Gt m s last h = .ok v h') :
    h' = h ∧ ∃ (es' : List MapEntry) (c : Nat) (en' : MapEntry) (k0 v0 : Value), w.heap[q.blk]? = some (.map ⟨es'⟩ c) ∧ c = last ∧ (⟨es'⟩ : Array MapEntry).find? (fun e => e.born == s) = some en' ∧ v = .tuple ⟨[k0, v0]⟩ ∧ RelV φ k0 en'.key ∧ RelV φ v0 en'.val := by
  unfold Gt at hr
  split at hr
  case h_2 => cases hr
  rename_i es c hes
  obtain ⟨hc, hr⟩ := BM hr
  split at hr
  case h_2 => cases hr
  rename_i en hen
  cases hr
  obtain ⟨es', hwm, hrel⟩ := H.entsAt hq (hE m) hes
  obtain ⟨en', q1, q2, q3⟩ := L2 hrel hen
  exact ⟨rfl, es', c, en', _, _, hwm, AZ.1 hc, by rw [← q1]; simp, rfl, q2, q3⟩
theorem Qa (H : RelW ty φ E h w) (hE : ∀ b, ¬ E b) {x : O} {x' : Value} (hx : RelV φ (x e) x') (hr : LK x F e h = .ok v h') : A8 ty φ E h w v h' ((Instr.entry x').run P w) := by
  unfold LK at hr
  split at hr
  case h_2 => cases hr
  rename_i a ha
  obtain ⟨hb, hr⟩ := BM hr
  obtain ⟨a', rfl, hra⟩ := EN hx ha
  obtain ⟨p, hp, rfl⟩ := hra.eq
  have hoff : a.off = 0 := AZ.1 hb
  have main : ∀ {m s last : Nat} {q : Pl} {sn : Nat} {seen : List Nat}, φ m = some q → p.off = 0 → w.heap[p.blk]? = some (.mapIter (some q.blk) sn ⟨seen⟩ last) → seen.getLast? = some s → Gt m s last h = .ok v h' →
      A8 ty φ E h w v h' ((Instr.entry (.pointer (some ⟨p.blk, p.off + a.off, none⟩))).run P w) := by
    intro m s last q sn seen hq hp0 hw hl hr
    obtain ⟨rfl, es', c, en', k0, v0, hwm, rfl, hfind, rfl, q2, q3⟩ := Nx H hE hq hr
    have hback : (⟨seen⟩ : Array Nat).back? = some s := by
      rw [← hl]; simp [Array.back?_eq_getElem?, List.getLast?_eq_getElem?]
    rw [hp0, hoff]
    have key : (Instr.entry (.pointer (some ⟨p.blk, 0, none⟩))).run P w = .ok (.tuple #[en'.key, en'.val]) w := by
      simp only [Instr.entry, Sem.run_bind, BW hw rfl, Result.andThen_ok, hback, BW hwm rfl, bne_self_eq_false, Bool.false_eq_true, if_false, hfind, Sem.run_pure]
    rw [key]; exact .same H (.tuple (.cons q2 (.cons q3 .nil)))
  unfold SE at hr
  split at hr
  · rename_i m since seen last hit
    have hrow := H.row a.block p hp (hE _)
    rw [FA hit] at hrow
    generalize hw : w.heap[p.blk]? = ob at hrow
    cases hrow with
    | @iter _ q _ _ _ hp0 hq =>
      split at hr
      case h_2 => cases hr
      rename_i st hst
      exact main hq hp0 hw (by rw [← MO]; exact hst) hr
  · rename_i m st last hit
    have hrow := H.row a.block p hp (hE _)
    rw [Z3 hit] at hrow
    generalize hw : w.heap[p.blk]? = ob at hrow
    cases hrow with
    | cur hp0 hq hl => exact main hq hp0 hw hl hr
  · cases hr
end
end
end Go.Proofs.YtfeldadhbnmklaaGreat
set_option linter.unusedSimpArgs false
set_option linter.unusedVariables false
namespace Go.Proofs.YtfeldadhbnmklaaGreat
noncomputable section
open Go
section
variable {P : Program} {ty : TTy} {φ : Phi} {E : Nat → Prop} {h h' : Hp} {w : World} {F : CallF} {e : Env} {v : Value} {f : Fr}
theorem Ic {t : Nat} {k : KS → OpF} (hr : wKey ty t k F e h = .ok v h') : ∃ ti kt el K, ty.get t = some ti ∧ ti.k = .map kt el ∧ KeyOf P ty kt K ∧ k K F e h = .ok v h' := by
  unfold wKey at hr
  obtain ⟨ti, hti, hr⟩ := BE hr
  cases hk : ti.k with
  | map kt el =>
    simp only [hk] at hr
    obtain ⟨ki, hki, hr⟩ := BE hr
    cases hf : flatK ty 8 kt with
    | none => rw [hf] at hr; cases hr
    | some ks =>
      rw [hf] at hr
      exact ⟨ti, kt, el, ⟨ki.k.agg, ks⟩, hti, hk, ⟨⟨ki, hki, rfl⟩, hf⟩, hr⟩
  | _ => simp only [hk] at hr; cases hr
theorem KeyOf.und (hT : CL P ty) {t : Nat} {K : KS} (hK : KeyOf P ty t K) : ∃ d, P.underlying t = some d := by
  obtain ⟨ti, hti, _⟩ := hK.ti
  obtain ⟨d, hd, _⟩ := (hT t ti hti).und
  exact ⟨d, hd⟩
theorem LE {t : Nat} {ti : TI} (T : TyOk P t ti) {kt el : Nat} (hk : ti.k = .map kt el) : P.underlying t = some (.map kt el) := by
  obtain ⟨d, hd, hkd⟩ := T.und
  rw [hk] at hkd; cases hkd
  exact hd
theorem DW {ok : Bool} {u : Value} {b : Bool} (hr : C2 ok u b h = .ok v h') : h' = h ∧ v = (if ok then .tuple ⟨[u, .bool b]⟩ else u) := by
  unfold C2 at hr
  cases ok <;> simp only [A7] at hr <;> cases hr <;> exact ⟨rfl, rfl⟩
theorem C9 {ok : Bool} {u u' : Value} {b : Bool} (hu : RelV φ u u') : RelV φ (if ok then .tuple ⟨[u, .bool b]⟩ else u) (if ok then .tuple #[u', .bool b] else u') := by
  cases ok
  · exact hu
  · exact .tuple (.cons hu (.cons (.bool b) .nil))
theorem OX (hT : CL P ty) (H : RelW ty φ E h w) {t kt el : Nat} {ti ei : TI} (T : TyOk P t ti) (hk : ti.k = .map kt el) (TE : TyOk P el ei) (hz : ei.zero.length = ei.size) {z : Value} (hzv : zeroV ei = some z) {K : KS} (hK : KeyOf P ty kt K)
    {ok : Bool} {x ix : O} {x' ix' : Value} (hx : RelV φ (x e) x') (hix : RelV φ (ix e) ix') (hE : ∀ r, x e = .map (some r) → ¬ E r) (hr : G8 K z ok x ix F e h = .ok v h') :
    A8 ty φ E h w v h' ((Instr.lookup t x' ix' ok).run P w) := by
  obtain ⟨z0, hz0, hzr, _, hzp⟩ := TE.zeroOk hz
  rw [hzv] at hz0; cases hz0
  have hzrel : RelV φ z z := by
    unfold zeroV at hzv
    split at hzv
    · cases hzv; exact .agg (.plain hzp)
    · split at hzv
      · rename_i u hu
        cases hzv
        rw [hu] at hzp
        simp only [List.all_cons, List.all_nil, Bool.and_true] at hzp
        exact .plain hzp
      · cases hzv
  obtain ⟨kd, hkd⟩ := hK.und hT
  have hu := LE T hk
  unfold G8 IQ at hr
  split at hr
  case h_2 => cases hr
  rename_i hfit
  have he := Gw hfit hix
  subst he
  split at hr
  · rename_i hxe
    rw [hxe] at hx; cases hx
    obtain ⟨rfl, rfl⟩ := DW hr
    have hf : (Instr.findKey kt (ix e) []).run P w = .ok none w := C5 hkd (by simp [Instr.findAsking])
    have key : (Instr.lookup t (.map none) (ix e) ok).run P w = .ok (if ok then .tuple #[z, .bool false] else z) w := by
      simp only [Instr.lookup, Sem.run_bind, run_underlying hu, Result.andThen_ok, Sem.run_pure, hK.check hT hfit, hf, hzr]
    rw [key]; exact .same H (C9 hzrel)
  · rename_i r hxe
    rw [hxe] at hx
    cases hx with
    | @map _ p hp =>
      split at hr
      case h_2 => cases hr
      rename_i es c hes
      obtain ⟨es', hw, hrel⟩ := H.entsAt hp (hE r hxe) hes
      have hget := BW (P := P) hw rfl
      split at hr
      · rename_i en hfe
        obtain ⟨rfl, rfl⟩ := DW hr
        obtain ⟨j, u', hfa, hu'⟩ := I3 hT hK hfit w 0 hrel hfe
        have hf := C5 hkd hfa
        have key : (Instr.lookup t (.map (some p.blk)) (ix e) ok).run P w = .ok (if ok then .tuple #[u', .bool true] else u') w := by
          simp only [Instr.lookup, Sem.run_bind, run_underlying hu, Result.andThen_ok, Sem.run_pure, hget, hK.check hT hfit, hf]
        rw [key]; exact .same H (C9 hu')
      · rename_i hfe
        obtain ⟨rfl, rfl⟩ := DW hr
        have hfa := I3 hT hK hfit w 0 hrel hfe
        have hf := C5 hkd hfa
        have key : (Instr.lookup t (.map (some p.blk)) (ix e) ok).run P w = .ok (if ok then .tuple #[z, .bool false] else z) w := by
          simp only [Instr.lookup, Sem.run_bind, run_underlying hu, Result.andThen_ok, Sem.run_pure, hget, hK.check hT hfit, hf, hzr]
        rw [key]; exact .same H (C9 hzrel)
      · cases hr
  · cases hr
theorem OL (H : RelW ty φ E h w) {t xt : Nat} {ti : TI} (T : TyOk P t ti) (hk : ti.k ≠ .iface) (hz : ti.zero.length = ti.size) {z : Value} (hzv : zeroV ti = some z) {ok : Bool} {x : O} {x' : Value} (hx : RelV φ (x e) x') (hr : IU t ok z x F e h = .ok v h') :
    A8 ty φ E h w v h' ((Instr.typeAssert x' xt t ok).run P w) := by
  obtain ⟨z0, hz0, hzr, _, hzp⟩ := T.zeroOk hz
  rw [hzv] at hz0; cases hz0
  have hzrel : RelV φ z z := by
    unfold zeroV at hzv
    split at hzv
    · cases hzv; exact .agg (.plain hzp)
    · split at hzv
      · rename_i u hu
        cases hzv
        rw [hu] at hzp
        simp only [List.all_cons, List.all_nil, Bool.and_true] at hzp
        exact .plain hzp
      · cases hzv
  obtain ⟨d, hd, hkd⟩ := T.und
  unfold IU at hr
  split at hr
  · rename_i hxe
    rw [hxe] at hx
    cases hx with
    | nilIface =>
      cases ok with
      | false => cases hr
      | true =>
        obtain ⟨rfl, rfl⟩ := DW hr
        have key : (Instr.typeAssert .nilIface xt t true).run P w = .ok (if true then .tuple #[z, .bool false] else z) w := by
          simp only [Instr.typeAssert, Sem.run_bind, run_underlying hd, Result.andThen_ok]
          cases d <;> first | (simp only [if_true, Sem.run_bind, hzr, Result.andThen_ok, Sem.run_pure]; done) | exact absurd rfl (hkd.noIface hk _)
        rw [key]; exact .same H (C9 hzrel)
  · rename_i u q hxe
    rw [hxe] at hx
    cases hx with
    | @iface _ _ q' hq =>
      split at hr
      · rename_i hb
        have hb := AZ.1 hb
        subst hb
        obtain ⟨rfl, rfl⟩ := DW hr
        have key : (Instr.typeAssert (.iface u q') xt u ok).run P w = .ok (if ok then .tuple #[q', .bool true] else q') w := by
          simp only [Instr.typeAssert, Sem.run_bind, run_underlying hd, Result.andThen_ok]
          cases d <;> first | (simp only [if_true, Sem.run_pure]; done) | exact absurd rfl (hkd.noIface hk _)
        rw [key]; exact .same H (C9 hq)
      · rename_i hb
        have hne : ¬ u = t := fun he => by rw [AZ.2 he] at hb; cases hb
        cases ok with
        | false => cases hr
        | true =>
          obtain ⟨rfl, rfl⟩ := DW hr
          have key : (Instr.typeAssert (.iface u q') xt t true).run P w = .ok (if true then .tuple #[z, .bool false] else z) w := by
            simp only [Instr.typeAssert, Sem.run_bind, run_underlying hd, Result.andThen_ok]
            cases d <;> first | (simp only [if_neg hne, if_true, Sem.run_bind, hzr, Result.andThen_ok, Sem.run_pure]; done) | exact absurd rfl (hkd.noIface hk _)
          rw [key]; exact .same H (C9 hzrel)
  · cases hr
theorem JU (hT : CL P ty) (H : RelW ty φ E h w) (hE : ∀ b, ¬ E b) {t kt el : Nat} {ti : TI} (T : TyOk P t ti) (hk : ti.k = .map kt el) {K : KS} (hK : KeyOf P ty kt K)
    {m key x : O} {m' key' x' : Value} (hm : RelV φ (m e) m') (hkey : RelV φ (key e) key') (hx : RelV φ (x e) x') (hr : FF K m key x F e h = .ok v h') :
    RJ ty φ E h w v h' ((Instr.mapUpdate t m' key' x').run P w) := by
  obtain ⟨kd, hkd⟩ := hK.und hT
  have hu := LE T hk
  unfold FF at hr
  simp only [A7] at hr
  unfold Py at hr
  split at hr
  case h_2 => cases hr
  rename_i hfit
  obtain ⟨he, hkk⟩ := I5 hfit hkey
  subst he
  split at hr
  case h_2 => cases hr
  rename_i r hme
  rw [hme] at hm
  cases hm with
  | @map _ p hp =>
    split at hr
    case h_2 => cases hr
    rename_i es c hes
    obtain ⟨es', hw, hrel⟩ := H.entsAt hp (hE r) hes
    have hget := BW (P := P) hw rfl
    split at hr
    · rename_i es2 hse
      obtain ⟨j, u', en, hfa, hen, hek, hrel2⟩ := Ia hT hK hfit hx hkk w 0 hrel hse
      have hf := C5 hkd hfa
      obtain ⟨h1, hk1, H1, ev⟩ := Dy (ob := .map ⟨es'.modify (0 + j) fun en => { en with key := key e, val := x' }⟩ c) H (hE _) hp (Ev hes) hr (by rw [Dn hes]; exact .inr trivial) (.map (by rw [Nat.zero_add]; exact hrel2))
      cases hk1
      refine ⟨rfl, _, ?_, H1, ev⟩
      have hstay : (Instr.keyThatStays (((⟨es'⟩ : Array MapEntry)[0 + j]?.map (·.key)).getD (key e)) (key e)).run P w = .ok (key e) w := by
        have : (⟨es'⟩ : Array MapEntry)[0 + j]? = some en := by rw [Nat.zero_add]; simpa using hen
        rw [this]
        simp only [Option.map_some, Option.getD_some, hek]
        unfold Instr.keyThatStays
        rw [QA hfit 9999]
        simp
      have hset := C6 (P := P) (ob' := .map ⟨es'.modify (0 + j) fun en => { en with key := key e, val := x' }⟩ c) hw rfl
      simp only [Instr.mapUpdate, Sem.run_bind, run_underlying hu, Result.andThen_ok, hget, hK.check hT hfit, hf, hstay]
      rw [← hset]; congr 3
      apply Array.ext'
      simp
    · rename_i hse
      have hfa := Ia hT hK hfit hx hkk w 0 hrel hse
      have hf := C5 hkd hfa
      obtain ⟨h1, hk1, H1, ev⟩ := Dy (ob := .map ⟨es' ++ [{ key := key e, val := x', born := c }]⟩ (c + 1)) H (hE _) hp (Ev hes) hr (by rw [Dn hes]; exact .inr trivial) (.map (by rw [Ox]; exact RelE.append (.cons hkk hx .nil) hrel))
      cases hk1
      refine ⟨rfl, _, ?_, H1, ev⟩
      have hset := C6 (P := P) (ob' := .map ⟨es' ++ [{ key := key e, val := x', born := c }]⟩ (c + 1)) hw rfl
      simp only [Instr.mapUpdate, Sem.run_bind, run_underlying hu, Result.andThen_ok, hget, hK.check hT hfit, hf]
      rw [← hset]; congr 2
      simp
    · cases hr
theorem OS (hT : CL P ty) (H : RelW ty φ E h w) (hE : ∀ b, ¬ E b) {ats : Array TypeId} {t' t kt el : Nat} {ti : TI} (h0 : ats[0]? = some t) (T : TyOk P t ti) (hk : ti.k = .map kt el) {K : KS} (hK : KeyOf P ty kt K)
    {m key : O} {m' key' : Value} (hm : RelV φ (m e) m') (hkey : RelV φ (key e) key') (hr : IV K m key F e h = .ok v h') :
    A8 ty φ E h w v h' ((Builtin.delete_ ats t' #[m', key']).run P w) := by
  obtain ⟨kd, hkd⟩ := hK.und hT
  have hu := LE T hk
  unfold IV O6 at hr
  split at hr
  case h_2 => cases hr
  rename_i hfit
  obtain ⟨he, hkk⟩ := I5 hfit hkey
  subst he
  split at hr
  case h_2 => cases hr
  rename_i r hme
  rw [hme] at hm
  cases hm with
  | @map _ p hp =>
    split at hr
    case h_2 => cases hr
    rename_i es c hes
    obtain ⟨es', hw, hrel⟩ := H.entsAt hp (hE r) hes
    have hget := BW (P := P) hw rfl
    split at hr
    case h_2 => cases hr
    rename_i es2 hde
    rcases O5 hT hK hfit w 0 hrel hde with ⟨hfa, rfl⟩ | ⟨j, u', hfa, hrel2⟩
    · have hf := C5 hkd hfa
      obtain ⟨h1, hk1, H1, ev⟩ := Dy (ob := .map ⟨es'⟩ c) H (hE _) hp (Ev hes) hr (by rw [Dn hes]; exact .inr trivial) (.map hrel)
      cases hk1
      have key : (Builtin.delete_ ats t' #[.map (some p.blk), key e]).run P w = .ok noRes { w with heap := w.heap.setIfInBounds p.blk (.map ⟨es'⟩ c) } := by
        simp only [Builtin.delete_, h0, List.getElem?_toArray, List.getElem?_cons_zero, List.getElem?_cons_succ, Sem.run_bind, run_underlying hu, Result.andThen_ok, Sem.run_pure, hget, hK.check hT hfit, hf, C6 hw rfl]; rfl
      rw [key]; exact ⟨_, _, φ, rfl, .tuple .nil, H1, ev⟩
    · have hf := C5 hkd hfa
      obtain ⟨h1, hk1, H1, ev⟩ := Dy (ob := .map ⟨es'.eraseIdx j⟩ c) H (hE _) hp (Ev hes) hr (by rw [Dn hes]; exact .inr trivial) (.map hrel2)
      cases hk1
      have herase : (⟨es'⟩ : Array MapEntry).eraseIdxIfInBounds (0 + j) = ⟨es'.eraseIdx j⟩ := by
        apply Array.ext'
        rw [Nat.zero_add]
        unfold Array.eraseIdxIfInBounds
        split
        · simp
        · rename_i hj
          simp only
          rw [List.eraseIdx_of_length_le (by simpa using hj)]
      have key : (Builtin.delete_ ats t' #[.map (some p.blk), key e]).run P w = .ok noRes { w with heap := w.heap.setIfInBounds p.blk (.map ⟨es'.eraseIdx j⟩ c) } := by
        simp only [Builtin.delete_, h0, List.getElem?_toArray, List.getElem?_cons_zero, List.getElem?_cons_succ, Sem.run_bind, run_underlying hu, Result.andThen_ok, Sem.run_pure, hget, hK.check hT hfit, hf, herase, C6 hw rfl]; rfl
      rw [key]; exact ⟨_, _, φ, rfl, .tuple .nil, H1, ev⟩
end
end
end Go.Proofs.YtfeldadhbnmklaaGreat
set_option linter.unusedSimpArgs false
set_option linter.unusedVariables false
namespace Go.Proofs.YtfeldadhbnmklaaGreat
noncomputable section
open Go
section
variable {P : Program} {ty : TTy} {φ : Phi} {E : Nat → Prop} {h h' : Hp} {w : World} {F : CallF} {e : Env} {v : Value} {f : Fr}
theorem Pw {op : Op} {x : Operand} (hk : kd ty op = .r x) (hE : FX ty f e E op) {y : O} (hy : cO f x = some y) : ∀ a, y e = .pointer (some a) → ¬ E a.block := by
  intro a ha
  unfold FX at hE
  rw [hk] at hE
  exact hE y hy a.block (by rw [ha]; rfl)
theorem Ib {op : Op} {x : Operand} (hk : kd ty op = .w x) (hE : FX ty f e E op) : ∀ b, ¬ E b := by
  unfold FX at hE; rw [hk] at hE; exact hE
theorem Eb {op : Op} (hk : kd ty op = .q) (hE : FX ty f e E op) : ∀ b, ¬ E b := by
  unfold FX at hE; rw [hk] at hE; exact hE
theorem RN {args : List O} {x : O} (hs : args = [x]) {l : List Operand} {ρ : Operand → Value} (ha : RelL φ (vals e args) (l.map ρ)) : ∃ x', l.map ρ = [x'] ∧ RelV φ (x e) x' := by
  subst hs
  generalize l.map ρ = r at ha
  cases ha with | cons h t => cases t; exact ⟨_, rfl, h⟩
theorem Lm {args : List O} {x y : O} (hs : args = [x, y]) {l : List Operand} {ρ : Operand → Value} (ha : RelL φ (vals e args) (l.map ρ)) : ∃ x' y', l.map ρ = [x', y'] ∧ RelV φ (x e) x' ∧ RelV φ (y e) y' := by
  subst hs
  generalize l.map ρ = r at ha
  cases ha with | cons h t => cases t with | cons h2 t => cases t; exact ⟨_, _, rfl, h, h2⟩
theorem Ra (hT : CL P ty) (H : RelW ty φ E h w) {b : Builtin} {c : Call} (hc : c.callee = .builtin b) {o : Oper} {a : Act} (ho : o.op = .call c) {args : List O}
    (ha : RelL φ (vals e args) (c.args.toList.map a.eval)) (hE : (∀ b, ¬ E b) ∨ b = .min ∨ b = .max ∨ (b = .len ∧ ∀ x, args = [x] → ∀ t ti, c.argTypes[0]? = some t → ty.get t = some ti → (∃ k q, ti.k = .map k q) → ∀ r, x e = .map (some r) → ¬ E r))
    (hr : HZ ty b c.argTypes.toList args F e h = .ok v h') : DR P ty φ E h v h' o a w := by
  have earr : c.args.map a.eval = ⟨c.args.toList.map a.eval⟩ := by apply Array.ext'; simp
  have hat0 : ∀ t l, c.argTypes.toList = t :: l → c.argTypes[0]? = some t := fun t l hl => by rw [← Array.getElem?_toList, hl]; rfl
  have hat1 : ∀ t t2 l, c.argTypes.toList = t :: t2 :: l → c.argTypes[1]? = some t2 := fun t t2 l hl => by rw [← Array.getElem?_toList, hl]; rfl
  have hex : ∀ s : Sem Value, (∀ cs, builtin b c.argTypes o.type cs ⟨c.args.toList.map a.eval⟩ = (do pure (.value (← s)))) → ∀ {vv : Value} {hh : Hp}, A8 ty φ E h w vv hh (s.run P w) → DR P ty φ E h vv hh o a w := by
    intro s hs vv hh hg
    refine .of_gives (s := s) ?_ hg
    unfold execOp
    rw [ho]
    simp only [resolve, hc, earr]
    exact hs _
  cases b with
  | len =>
    match args, ha, hE, hr with
    | [x], ha, hE, hr =>
      obtain ⟨x', he, hx⟩ := RN rfl ha
      cases hl : c.argTypes.toList with
      | nil => rw [hl] at hr; cases hr
      | cons t l =>
        rw [hl] at hr
        obtain ⟨ti, hti, hr⟩ := BE hr
        have h0 := hat0 t l hl
        cases hk : ti.k with
        | slice el => simp only [hk] at hr; exact hex _ (fun cs => by rw [he]; rfl) (Sw H h0 (hT t ti hti) hk hx hr)
        | string => simp only [hk] at hr; exact hex _ (fun cs => by rw [he]; rfl) (Sy H h0 (hT t ti hti) hk hx hr)
        | map k q =>
          simp only [hk] at hr
          refine hex _ (fun cs => by rw [he]; rfl) (Su H h0 (hT t ti hti) hk hx (fun r hxr => ?_) hr)
          rcases hE with hE | hE | hE | ⟨_, hE⟩
          · exact hE r
          · cases hE
          · cases hE
          · exact hE x rfl t ti h0 hti ⟨k, q, hk⟩ r hxr
        | arr n el =>
          simp only [hk] at hr
          refine hex (Builtin.len_ c.argTypes o.type #[x']) (fun cs => by rw [he]; rfl) ?_
          rw [Vz h0 (hT t ti hti) hk]
          have : v = .int .i64 (.ofNat n) ∧ h' = h := by
            unfold AC kV at hr; rw [Df] at hr; cases hr; exact ⟨rfl, rfl⟩
          obtain ⟨rfl, rfl⟩ := this
          exact .same H (.int _ _)
        | _ => simp only [hk] at hr; cases hr
    | [], _, _, hr => cases hr
    | _ :: _ :: _, _, _, hr => cases hr
  | cap =>
    match args, ha, hr with
    | [x], ha, hr =>
      obtain ⟨x', he, hx⟩ := RN rfl ha
      cases hl : c.argTypes.toList with
      | nil => rw [hl] at hr; cases hr
      | cons t l =>
        rw [hl] at hr
        obtain ⟨ti, hti, hr⟩ := BE hr
        have h0 := hat0 t l hl
        cases hk : ti.k with
        | slice el => simp only [hk] at hr; exact hex (Builtin.cap_ c.argTypes o.type #[x']) (fun cs => by rw [he]; rfl) (Sl H h0 (hT t ti hti) hk hx hr)
        | _ => simp only [hk] at hr; cases hr
    | [], _, hr => cases hr
    | _ :: _ :: _, _, hr => cases hr
  | min =>
    match args, ha, hr with
    | [x, y], ha, hr =>
      obtain ⟨x', y', he, hx, hy⟩ := Lm rfl ha
      exact hex _ (fun cs => by rw [he]; rfl) (Wd (F := F) H hx hy hr)
    | [], _, hr => cases hr
    | [_], _, hr => cases hr
    | _ :: _ :: _ :: _, _, hr => cases hr
  | max =>
    match args, ha, hr with
    | [x, y], ha, hr =>
      obtain ⟨x', y', he, hx, hy⟩ := Lm rfl ha
      exact hex _ (fun cs => by rw [he]; rfl) (Wb (F := F) H hx hy hr)
    | [], _, hr => cases hr
    | [_], _, hr => cases hr
    | _ :: _ :: _ :: _, _, hr => cases hr
  | copy =>
    have hE' : ∀ b, ¬ E b := by
      rcases hE with h | h | h | ⟨h, _⟩
      · exact h
      all_goals cases h
    match args, ha, hr with
    | [d, x], ha, hr =>
      obtain ⟨d', x', he, hd, hx⟩ := Lm rfl ha
      cases hl : c.argTypes.toList with
      | nil => rw [hl] at hr; cases hr
      | cons t l =>
        rw [hl] at hr
        obtain ⟨ti, hti, hr⟩ := BE hr
        cases hk : ti.k with
        | slice el =>
          simp only [hk] at hr
          obtain ⟨ei, hei, hr⟩ := BE hr
          exact hex _ (fun cs => by rw [he]; rfl) (So H hE' (hat0 t l hl) (hT t ti hti) hk (hT el ei hei) hd hx hr)
        | _ => simp only [hk] at hr; cases hr
    | [], _, hr => cases hr
    | [_], _, hr => cases hr
    | _ :: _ :: _ :: _, _, hr => cases hr
  | clear =>
    have hE' : ∀ b, ¬ E b := by
      rcases hE with h | h | h | ⟨h, _⟩
      · exact h
      all_goals cases h
    match args, ha, hr with
    | [x], ha, hr =>
      obtain ⟨x', he, hx⟩ := RN rfl ha
      cases hl : c.argTypes.toList with
      | nil => rw [hl] at hr; cases hr
      | cons t l =>
        rw [hl] at hr
        obtain ⟨ti, hti, hr⟩ := BE hr
        cases hk : ti.k with
        | slice el =>
          simp only [hk] at hr
          obtain ⟨ei, hei, hr⟩ := BE hr
          obtain ⟨hz, hr⟩ := GN hr
          exact hex _ (fun cs => by rw [he]; rfl) (QZ H hE' (hat0 t l hl) (hT t ti hti) hk (hT el ei hei) hz hx hr)
        | map k q =>
          simp only [hk] at hr
          exact hex _ (fun cs => by rw [he]; rfl) (LJ H hE' (hat0 t l hl) (hT t ti hti) hx hr)
        | _ => simp only [hk] at hr; cases hr
    | [], _, hr => cases hr
    | _ :: _ :: _, _, hr => cases hr
  | append =>
    have hE' : ∀ b, ¬ E b := by
      rcases hE with h | h | h | ⟨h, _⟩
      · exact h
      all_goals cases h
    match args, ha, hr with
    | [s, x], ha, hr =>
      obtain ⟨s', x', he, hs, hx⟩ := Lm rfl ha
      cases hl : c.argTypes.toList with
      | nil => rw [hl] at hr; cases hr
      | cons t l =>
        cases l with
        | nil => rw [hl] at hr; cases hr
        | cons t2 l =>
          rw [hl] at hr
          obtain ⟨ti, hti, hr⟩ := BE hr
          obtain ⟨xi, hxi, hr⟩ := BE hr
          have h0 := hat0 t _ hl
          have h1 := hat1 t t2 l hl
          cases hk : ti.k with
          | slice en =>
            cases hk2 : xi.k with
            | slice q =>
              simp only [hk, hk2] at hr
              obtain ⟨ei, hei, hr⟩ := BE hr
              cases hsz : ei.size with
              | zero => simp only [hsz] at hr; cases hr
              | succ n =>
                simp only [hsz] at hr
                obtain ⟨hz, hr⟩ := GN hr
                have hs2 : n.succ = ei.size := hsz.symm
                rw [hs2] at hr
                exact hex _ (fun cs => by rw [he]; rfl) (JP H hE' h0 h1 (hT t ti hti) hk (hT t2 xi hxi) (.inl ⟨q, hk2⟩) hei (hT en ei hei) (by omega) hz hs hx hr)
            | string =>
              simp only [hk, hk2] at hr
              obtain ⟨ei, hei, hr⟩ := BE hr
              cases hsz : ei.size with
              | zero => simp only [hsz] at hr; cases hr
              | succ n =>
                simp only [hsz] at hr
                obtain ⟨hz, hr⟩ := GN hr
                have hs2 : n.succ = ei.size := hsz.symm
                rw [hs2] at hr
                exact hex _ (fun cs => by rw [he]; rfl) (JP H hE' h0 h1 (hT t ti hti) hk (hT t2 xi hxi) (.inr hk2) hei (hT en ei hei) (by omega) hz hs hx hr)
            | int q =>
              simp only [hk, hk2] at hr
              obtain ⟨ei, hei, hr⟩ := BE hr
              cases hsz : ei.size with
              | zero => simp only [hsz] at hr; cases hr
              | succ n =>
                simp only [hsz] at hr
                obtain ⟨hz, hr⟩ := GN hr
                have hs2 : n.succ = ei.size := hsz.symm
                rw [hs2] at hr
                exact hex _ (fun cs => by rw [he]; rfl) (Mg H hE' h0 h1 (hT t ti hti) hk (hT t2 xi hxi) hk2 hei (hT en ei hei) (by omega) hz hs hx hr)
            | _ => simp only [hk, hk2] at hr; cases hr
          | _ => simp only [hk] at hr; cases hr
    | [], _, hr => cases hr
    | [_], _, hr => cases hr
    | _ :: _ :: _ :: _, _, hr => cases hr
  | delete =>
    have hE' : ∀ b, ¬ E b := by
      rcases hE with h | h | h | ⟨h, _⟩
      · exact h
      all_goals cases h
    match args, ha, hr with
    | [m, key], ha, hr =>
      obtain ⟨m', key', he, hm, hkey⟩ := Lm rfl ha
      cases hl : c.argTypes.toList with
      | nil => rw [hl] at hr; cases hr
      | cons t l =>
        rw [hl] at hr
        obtain ⟨ti, kt, el, K, hti, hk, hK, hr⟩ := Ic (k := fun ks => IV ks m key) hr
        exact hex _ (fun cs => by rw [he]; rfl) (OS hT H hE' (hat0 t l hl) (hT t ti hti) hk hK hm hkey hr)
    | [], _, hr => cases hr
    | [_], _, hr => cases hr
    | _ :: _ :: _ :: _, _, hr => cases hr
  | _ => cases hr
theorem bE (hT : CL P ty) (hF : CY P ty F) (H : RelW ty φ E h w) {o : Oper} {a : Act} (hst : XX φ f e a.eval o.op) (hE : FX ty f e E o.op) (hr : opC ty f o.op F e h = .ok v h') :
    DR P ty φ E h v h' o a w := by
  cases ho : o.op with
  | move x =>
    rw [ho] at hr hst
    obtain ⟨x', hx', hr⟩ := CX hr
    exact .of_gives (s := pure (a.eval x)) (by unfold execOp; rw [ho]; rfl) (Mn H (hst x (by simp [Op.operands]) x' hx') hr)
  | assign x =>
    rw [ho] at hr hst
    obtain ⟨x', hx', hr⟩ := CX hr
    exact .of_gives (s := pure (a.eval x)) (by unfold execOp; rw [ho]; rfl) (Mn H (hst x (by simp [Op.operands]) x' hx') hr)
  | pick c x y =>
    rw [ho] at hr hst
    obtain ⟨c', hc', hr⟩ := CX hr
    obtain ⟨x', y', hx', hy', hr⟩ := HO hr
    refine .of_gives (s := (do pure (if ← asBool (a.eval c) then a.eval x else a.eval y))) ?_ (S4 H (hst c (by simp [Op.operands]) c' hc') (hst x (by simp [Op.operands]) x' hx') (hst y (by simp [Op.operands]) y' hy') hr)
    unfold execOp; rw [ho]; simp
  | alloc t =>
    rw [ho] at hr hst
    obtain ⟨ti, hti, hr⟩ := BE hr
    obtain ⟨hz, hr⟩ := GN hr
    cases hc : CH .mt 0 ti.zero with
    | none => rw [hc] at hr; cases hr
    | some c =>
      rw [hc] at hr
      exact .of_gives (by unfold execOp; rw [ho]) (QU H (hT t ti hti) hz hc hr)
  | box t x =>
    rw [ho] at hr hst
    obtain ⟨x', hx', hr⟩ := CX hr
    exact .of_gives (by unfold execOp; rw [ho]) (WI H (hst x (by simp [Op.operands]) x' hx') hr)
  | build t parts =>
    rw [ho] at hr hst
    obtain ⟨ti, hti, hr⟩ := BE hr
    obtain ⟨hz, hr⟩ := GN hr
    have hps : ∀ p ∈ parts.toList, ∀ y, cO f p.2 = some y → RelV φ (y e) (a.eval p.2) := fun p hp => hst p.2 (by simp only [Op.operands, List.mem_map]; exact ⟨p, hp, rfl⟩)
    cases hk : ti.k with
    | struct fs =>
      simp only [hk] at hr
      cases hp : FH f (JY fs) parts.toList with
      | none => rw [hp] at hr; cases hr
      | some ps =>
        rw [hp] at hr
        exact .of_gives (by unfold execOp; rw [ho]) (ON H (hT t ti hti) hk hz (ps' := parts.map fun (i, x) => (i, a.eval x)) (by simpa using HC (ρ := a.eval) hp hps) hr)
    | arr n el =>
      simp only [hk] at hr
      obtain ⟨ei, hei, hr⟩ := BE hr
      cases hp : FH f (fun i => some (Nat.mul i ei.size, ei.size)) parts.toList with
      | none => rw [hp] at hr; cases hr
      | some ps =>
        rw [hp] at hr
        exact .of_gives (by unfold execOp; rw [ho]) (OM H (hT t ti hti) hk (hT el ei hei) hz (ps' := parts.map fun (i, x) => (i, a.eval x)) (by simpa using HC (ρ := a.eval) hp hps) hr)
    | _ => simp only [hk] at hr; cases hr
  | buildSlice t len parts =>
    rw [ho] at hr hst
    obtain ⟨ti, hti, hr⟩ := BE hr
    have hps : ∀ p ∈ parts.toList, ∀ y, cO f p.2 = some y → RelV φ (y e) (a.eval p.2) := fun p hp => hst p.2 (by simp only [Op.operands, List.mem_map]; exact ⟨p, hp, rfl⟩)
    cases hk : ti.k with
    | slice el =>
      simp only [hk] at hr
      obtain ⟨ei, hei, hr⟩ := BE hr
      obtain ⟨hz, hr⟩ := GN hr
      cases hp : FH f (fun i => some (Nat.mul i ei.size, ei.size)) parts.toList with
      | none => rw [hp] at hr; cases hr
      | some ps =>
        rw [hp] at hr
        simp only at hr
        cases hb : Nat.ble (Nat.mul len ei.size) 16777216 with
        | false => rw [hb] at hr; cases hr
        | true =>
          rw [hb] at hr
          exact .of_gives (by unfold execOp; rw [ho]) (JQ H (hT t ti hti) hk (hT el ei hei) hz (Ap.1 hb) (ps' := parts.map fun (i, x) => (i, a.eval x)) (by simpa using HC (ρ := a.eval) hp hps) hr)
    | _ => simp only [hk] at hr; cases hr
  | load t x =>
    rw [ho] at hr hst hE
    obtain ⟨ti, hti, hr⟩ := BE hr
    obtain ⟨x', hx', hr⟩ := CX hr
    have hx := hst x (by simp [Op.operands]) x' hx'
    cases hk : ti.k.agg with
    | true => rw [hk] at hr; exact .of_gives (by unfold execOp; rw [ho]) (Qi H (hT t ti hti) hk hx (Pw rfl hE hx') hr)
    | false => rw [hk] at hr; exact .of_gives (by unfold execOp; rw [ho]) (Qg H (hT t ti hti) hk hx (Pw rfl hE hx') hr)
  | store t x y =>
    rw [ho] at hr hst hE
    obtain ⟨ti, hti, hr⟩ := BE hr
    obtain ⟨x', y', hx', hy', hr⟩ := HO hr
    exact .of_skips (by unfold execOp; rw [ho]) (Qk H (hT t ti hti) (hst x (by simp [Op.operands]) x' hx') (hst y (by simp [Op.operands]) y' hy') (fun a _ => Ib (x := x) rfl hE _) hr)
  | nilCheck x =>
    rw [ho] at hr hst
    obtain ⟨x', hx', hr⟩ := CX hr
    obtain ⟨hv, rfl, hne⟩ := Wi H (hst x (by simp [Op.operands]) x' hx') hr
    refine .of_gives (s := pure (a.eval x)) ?_ (.same H hv)
    unfold execOp; rw [ho]
    obtain ⟨h1, h2, h3, h4⟩ := hne
    simp only
    generalize a.eval x = z at h1 h2 h3 h4 ⊢
    cases z <;> first | rfl | (exact absurd rfl h2) | (exact absurd rfl h3) | skip
  | binOp op t x y yt => rw [ho] at hr hst; exact Zg hT H ho (by rw [ho]; exact hst) hr
  | unOp op t x =>
    rw [ho] at hr hst
    obtain ⟨ti, hti, hr⟩ := BE hr
    obtain ⟨x', hx', hr⟩ := CX hr
    have hx := hst x (by simp [Op.operands]) x' hx'
    have hex : execOp a.eval o = (do pure (.value (← Op.unary op (a.eval x)))) := by unfold execOp; rw [ho]
    cases op with
    | not => exact .of_gives hex (Wk H hx (by revert hr; cases ti.k <;> exact id))
    | neg =>
      cases hk : ti.k with
      | int k => simp only [hk] at hr; exact .of_gives hex (Wg H hx hr)
      | _ => simp only [hk] at hr; cases hr
    | plus => revert hr; cases ti.k <;> intro hr <;> cases hr
    | xor =>
      cases hk : ti.k with
      | int k => cases k <;> simp only [hk] at hr <;> first | cases hr; done | exact .of_gives hex (WO H hx hr)
      | _ => simp only [hk] at hr; cases hr
  | fieldAddr t x i =>
    rw [ho] at hr hst
    obtain ⟨ti, hti, hr⟩ := BE hr
    obtain ⟨x', hx', hr⟩ := CX hr
    have hx := hst x (by simp [Op.operands]) x' hx'
    cases hk : ti.k with
    | struct fs =>
      simp only [hk] at hr
      cases hn : nth fs i with
      | none => rw [hn] at hr; cases hr
      | some q =>
        obtain ⟨off, s, ft⟩ := q
        rw [hn] at hr
        cases s with
        | zero => cases hr
        | succ s => exact .of_gives (by unfold execOp; rw [ho]) (Jv H (hT t ti hti) hk hn hx hr)
    | _ => simp only [hk] at hr; cases hr
  | field t x i =>
    rw [ho] at hr hst
    obtain ⟨ti, hti, hr⟩ := BE hr
    obtain ⟨x', hx', hr⟩ := CX hr
    have hx := hst x (by simp [Op.operands]) x' hx'
    cases hk : ti.k with
    | struct fs =>
      simp only [hk] at hr
      cases hn : nth fs i with
      | none => rw [hn] at hr; cases hr
      | some q =>
        obtain ⟨off, s, ft⟩ := q
        rw [hn] at hr
        obtain ⟨fi, hfi, hr⟩ := BE hr
        exact .of_gives (by unfold execOp; rw [ho]) (Qc H (hT t ti hti) hk hn (hT ft fi hfi) hx hr)
    | _ => simp only [hk] at hr; cases hr
  | indexAddr t x ix =>
    rw [ho] at hr hst
    obtain ⟨ti, hti, hr⟩ := BE hr
    obtain ⟨x', y', hx', hy', hr⟩ := HO hr
    have hx := hst x (by simp [Op.operands]) x' hx'
    have hy := hst ix (by simp [Op.operands]) y' hy'
    cases hk : ti.k with
    | arr n el =>
      simp only [hk] at hr
      obtain ⟨ei, hei, hr⟩ := BE hr
      exact .of_gives (by unfold execOp; rw [ho]) (OU H (hT t ti hti) hk (hT el ei hei) hx hy hr)
    | slice el =>
      simp only [hk] at hr
      obtain ⟨ei, hei, hr⟩ := BE hr
      exact .of_gives (by unfold execOp; rw [ho]) (WV H (hT t ti hti) hk (hT el ei hei) hx hy hr)
    | _ => simp only [hk] at hr; cases hr
  | index t x ix =>
    rw [ho] at hr hst
    obtain ⟨ti, hti, hr⟩ := BE hr
    obtain ⟨x', y', hx', hy', hr⟩ := HO hr
    have hx := hst x (by simp [Op.operands]) x' hx'
    have hy := hst ix (by simp [Op.operands]) y' hy'
    cases hk : ti.k with
    | arr n el =>
      simp only [hk] at hr
      obtain ⟨ei, hei, hr⟩ := BE hr
      exact .of_gives (by unfold execOp; rw [ho]) (bA H (hT t ti hti) hk (hT el ei hei) hx hy hr)
    | string =>
      simp only [hk] at hr
      exact .of_gives (by unfold execOp; rw [ho]) (QX H (hT t ti hti) hk hx hy hr)
    | _ => simp only [hk] at hr; cases hr
  | extract x i =>
    rw [ho] at hr hst
    obtain ⟨x', hx', hr⟩ := CX hr
    exact .of_gives (by unfold execOp; rw [ho]) (Mj H (hst x (by simp [Op.operands]) x' hx') hr)
  | makeInterface t x =>
    rw [ho] at hr hst
    obtain ⟨ti, hti, hr⟩ := BE hr
    obtain ⟨x', hx', hr⟩ := CX hr
    have hx := hst x (by simp [Op.operands]) x' hx'
    have hne : ti.k ≠ .iface := by intro hk; rw [hk] at hr; cases hr
    have hr' : JS t x' F e h = .ok v h' := by revert hr hne; cases ti.k <;> intro hr hne <;> first | exact hr | exact absurd rfl hne
    exact .of_gives (by unfold execOp; rw [ho]) (Qe H (hT t ti hti) hne hx hr')
  | makeFunc fn first cap =>
    rw [ho] at hr hst
    simp only [opC] at hr
    cases h1 : cOs f first.toList with
    | none => simp only [h1] at hr; cases hr
    | some fs =>
      cases h2 : cOs f cap.toList with
      | none => simp only [h1, h2] at hr; cases hr
      | some cs =>
        simp only [h1, h2] at hr
        refine .of_gives (s := Instr.makeFunc fn (first.map a.eval) (cap.map a.eval)) (by unfold execOp; rw [ho]) ?_
        have e1 : first.map a.eval = ⟨first.toList.map a.eval⟩ := by apply Array.ext'; simp
        have e2 : cap.map a.eval = ⟨cap.toList.map a.eval⟩ := by apply Array.ext'; simp
        rw [e1, e2]
        exact Ss H (Kt h1 fun x hx => hst x (by simp [Op.operands] at hx ⊢; exact .inl hx)) (Kt h2 fun x hx => hst x (by simp [Op.operands] at hx ⊢; exact .inr hx)) hr
  | makeMap t r =>
    rw [ho] at hr hst
    cases r with
    | some _ => cases hr
    | none => exact .of_gives (by unfold execOp; rw [ho]; rfl) (WY (F := F) (e := e) H (t := t) hr)
  | makeSlice t l c =>
    rw [ho] at hr hst
    obtain ⟨ti, hti, hr⟩ := BE hr
    cases hk : ti.k with
    | slice el =>
      simp only [hk] at hr
      obtain ⟨ei, hei, hr⟩ := BE hr
      obtain ⟨hz, hr⟩ := GN hr
      obtain ⟨l', c', hl', hc', hr⟩ := HO hr
      exact .of_gives (by unfold execOp; rw [ho]) (Sz H (hT t ti hti) hk (hT el ei hei) hz (hst l (by simp [Op.operands]) l' hl') (hst c (by simp [Op.operands]) c' hc') hr)
    | _ => simp only [hk] at hr; cases hr
  | sliceToArrayPointer t x =>
    rw [ho] at hr hst
    obtain ⟨ti, hti, hr⟩ := BE hr
    cases hk : ti.k with
    | arr n el =>
      simp only [hk] at hr
      cases n with
      | zero => cases hr
      | succ n =>
        obtain ⟨x', hx', hr⟩ := CX hr
        exact .of_gives (by unfold execOp; rw [ho]) (WF H (hT t ti hti) hk (Nat.succ_pos _) (hst x (by simp [Op.operands]) x' hx') hr)
    | _ => simp only [hk] at hr; cases hr
  | slice t x lo hi mx =>
    rw [ho] at hr hst
    obtain ⟨ti, hti, hr⟩ := BE hr
    obtain ⟨x', hx', hr⟩ := CX hr
    have hx := hst x (by simp [Op.operands]) x' hx'
    cases h1 : cOo f lo with
    | none => simp only [h1] at hr; cases hr
    | some lo' =>
      cases h2 : cOo f hi with
      | none => simp only [h1, h2] at hr; cases hr
      | some hi' =>
        cases h3 : cOo f mx with
        | none => simp only [h1, h2, h3] at hr; cases hr
        | some mx' =>
          simp only [h1, h2, h3] at hr
          have r1 : RelO φ e lo' (lo.map a.eval) := Nr h1 fun z hz => hst z (by rw [hz]; simp [Op.operands])
          have r2 : RelO φ e hi' (hi.map a.eval) := Nr h2 fun z hz => hst z (by rw [hz]; simp [Op.operands])
          have r3 : RelO φ e mx' (mx.map a.eval) := Nr h3 fun z hz => hst z (by rw [hz]; simp [Op.operands])
          cases hk : ti.k with
          | string =>
            simp only [hk] at hr
            cases mx' with
            | some _ => cases hr
            | none =>
              have hcut : F6 x' lo' hi' F e h = .ok v h' := hr
              have hmx : mx = none := by
                cases mx with
                | none => rfl
                | some z => cases r3
              subst hmx
              exact .of_gives (by unfold execOp; rw [ho]; rfl) (OR H (hT t ti hti) hk hx r1 r2 hcut)
          | slice el =>
            simp only [hk] at hr
            obtain ⟨ei, hei, hr⟩ := BE hr
            exact .of_gives (by unfold execOp; rw [ho]) (WQ H (hT t ti hti) hk hei (hT el ei hei) hx r1 r2 r3 hr)
          | arr n el =>
            simp only [hk] at hr
            obtain ⟨ei, hei, hr⟩ := BE hr
            exact .of_gives (by unfold execOp; rw [ho]) (OP H (hT t ti hti) hk (hT el ei hei) hx r1 r2 r3 hr)
          | _ => simp only [hk] at hr; cases hr
  | convert src dst x =>
    rw [ho] at hr hst hE
    obtain ⟨si, hsi, hr⟩ := BE hr
    obtain ⟨di, hdi, hr⟩ := BE hr
    obtain ⟨x', hx', hr⟩ := CX hr
    have hx := hst x (by simp [Op.operands]) x' hx'
    have hex : execOp a.eval o = (do pure (.value (← convert src dst (a.eval x)))) := by unfold execOp; rw [ho]
    obtain ⟨ds, hds, ks⟩ := (hT src si hsi).und
    obtain ⟨dd, hdd, kd⟩ := (hT dst di hdi).und
    cases hk : di.k with
    | int k =>
      cases hk2 : si.k with
      | int k2 =>
        simp only [hk, hk2] at hr
        obtain ⟨q, n, hxe, hg⟩ := Sn (P := P) H hx hr
        rw [hk] at kd; cases kd
        rw [hk2] at ks; cases ks
        refine .of_gives hex ?_
        rw [hxe]
        have : (convert src dst (.int q n)).run P w = (Conv.intToInt k n).run P w := by
          simp only [convert, Sem.run_bind, run_underlying hds, run_underlying hdd, Result.andThen_ok]
        rw [this]; exact hg
      | _ => simp only [hk, hk2] at hr; cases hr
    | string =>
      cases hk2 : si.k with
      | string =>
        simp only [hk, hk2] at hr
        obtain ⟨s, hxe, hg⟩ := S6 H hx hr
        rw [hk] at kd; cases kd
        rw [hk2] at ks; cases ks
        refine .of_gives hex ?_
        rw [hxe] at hg ⊢
        have : (convert src dst (.string s)).run P w = .ok (.string s) w := by
          simp only [convert, Sem.run_bind, run_underlying hds, run_underlying hdd, Result.andThen_ok, Sem.run_pure]
        rw [this]; exact hg
      | slice el =>
        simp only [hk, hk2] at hr
        obtain ⟨ei, hei, hr⟩ := BE hr
        cases hk3 : ei.k with
        | int k3 =>
          cases k3 <;> simp only [hk3] at hr <;> first | (cases hr; done) | skip
          refine .of_gives hex (Qn H (fun a l c hxe => ?_) (hT src si hsi) hk2 (hT dst di hdi) hk (hT el ei hei) hk3 hx hr)
          cases hb : Nat.beq src dst with
          | true => exact Eb (by simp only [Go.Proofs.YtfeldadhbnmklaaGreat.kd, hb]) hE _
          | false =>
            have hi : JB ty src = false := by unfold JB; rw [hsi]; simp only [hk2]
            have hi2 : Fi ty dst = false := by unfold Fi; rw [hdi]; simp only [hk]
            have hkd : Go.Proofs.YtfeldadhbnmklaaGreat.kd ty (.convert src dst x) = .r x := by simp only [Go.Proofs.YtfeldadhbnmklaaGreat.kd, hb, hi, hi2]
            unfold FX at hE
            rw [hkd] at hE
            exact hE x' hx' _ (by rw [hxe]; rfl)
        | _ => simp only [hk3] at hr; cases hr
      | _ => simp only [hk, hk2] at hr; cases hr
    | slice el =>
      cases hk2 : si.k with
      | string =>
        simp only [hk, hk2] at hr
        obtain ⟨ei, hei, hr⟩ := BE hr
        cases hk3 : ei.k with
        | int k3 =>
          cases k3 <;> simp only [hk3] at hr <;> first | (cases hr; done) | skip
          cases hb : Nat.beq ei.size 1 with
          | false => rw [hb] at hr; cases hr
          | true =>
            rw [hb] at hr
            exact .of_gives hex (Ms H (hT src si hsi) hk2 (hT dst di hdi) hk (hT el ei hei) hk3 hei (AZ.1 hb) hx hr)
        | _ => simp only [hk3] at hr; cases hr
      | slice el2 =>
        simp only [hk, hk2] at hr
        cases hb : Nat.beq src dst with
        | false => rw [hb] at hr; cases hr
        | true =>
          rw [hb] at hr
          have heq : src = dst := AZ.1 hb
          have hE' := Eb (by simp only [Go.Proofs.YtfeldadhbnmklaaGreat.kd, hb]) hE
          obtain ⟨ei, hei, hr⟩ := BE hr
          cases hk3 : ei.k with
          | int k3 =>
            cases k3 <;> simp only [hk3] at hr <;> first | (cases hr; done) | skip
            have hg := QY (P := P) H hE' (hT dst di hdi) hk (hT el ei hei) hk3 hx hr
            rw [heq] at hex
            exact .of_gives hex hg
          | _ => simp only [hk3] at hr; cases hr
      | _ => simp only [hk, hk2] at hr; cases hr
    | _ => simp only [hk] at hr; cases hr
  | call c =>
    rw [ho] at hr hst hE
    simp only [opC] at hr
    cases h1 : cOs f c.args.toList with
    | none => simp only [h1] at hr; cases hr
    | some args =>
      simp only [h1] at hr
      have ha : RelL φ (vals e args) (c.args.toList.map a.eval) := Kt h1 fun x hx => hst x (by
        unfold Op.operands Call.operands
        cases hc : c.callee <;> simp [hc] <;> first | exact Or.inr (by simpa using hx) | exact (by simpa using hx))
      cases hc : c.callee with
      | builtin b =>
        simp only [hc] at hr
        refine Ra hT H hc ho ha ?_ hr
        cases b with
        | len =>
          refine .inr (.inr (.inr ⟨rfl, fun x hx t ti ht hti hm r hxr => ?_⟩))
          subst hx
          cases hl : c.args.toList with
          | nil => rw [hl] at h1; cases h1
          | cons x0 l =>
            cases l with
            | cons x1 l =>
              rw [hl] at h1
              unfold cOs at h1
              cases hx0 : cO f x0 with
              | none => rw [hx0] at h1; cases h1
              | some y0 =>
                rw [hx0] at h1
                cases hx1 : cOs f (x1 :: l) with
                | none => rw [hx1] at h1; cases h1
                | some ys =>
                  rw [hx1] at h1
                  cases h1
                  unfold cOs at hx1
                  cases hq : cO f x1 with
                  | none => rw [hq] at hx1; cases hx1
                  | some y1 =>
                    rw [hq] at hx1
                    cases hq2 : cOs f l with
                    | none => rw [hq2] at hx1; cases hx1
                    | some ys => rw [hq2] at hx1; cases hx1
            | nil =>
              rw [hl] at h1
              have hx0 : cO f x0 = some x := by
                unfold cOs at h1
                cases hx0 : cO f x0 with
                | none => rw [hx0] at h1; cases h1
                | some y0 => rw [hx0] at h1; cases h1; rfl
              obtain ⟨k, q, hm⟩ := hm
              have hmap : N9 ty (c.argTypes.getD 0 0) = true := by
                have : c.argTypes.getD 0 0 = t := by rw [Array.getD_eq_getD_getElem?, ht]; rfl
                rw [this]; unfold N9; rw [hti]; simp only [hm]
              have hk : kd ty (.call c) = .r x0 := by simp only [kd, hc, hl, hmap]
              unfold FX at hE
              rw [hk] at hE
              exact hE x hx0 r (by rw [hxr]; rfl)
        | min => exact .inr (.inl rfl)
        | max => exact .inr (.inr (.inl rfl))
        | _ =>
          refine .inl ?_
          cases hl : c.args.toList with
          | nil => exact Eb (by simp only [kd, hc, hl]) hE
          | cons x l => exact Ib (x := x) (by simp only [kd, hc, hl]) hE
      | value g =>
        simp only [hc] at hr
        have hE' : ∀ b, ¬ E b := Eb (by simp only [kd, hc]) hE
        cases g with
        | func g => exact Sj hF H hE' hc ho ha hr
        | tmp t =>
          obtain ⟨g', hg', hr⟩ := CX hr
          exact Hl hF H hE' hc ho (hst (.tmp t) (by unfold Op.operands Call.operands; simp [hc]) g' hg') ha hr
        | const t =>
          obtain ⟨g', hg', hr⟩ := CX hr
          exact Hl hF H hE' hc ho (hst (.const t) (by unfold Op.operands Call.operands; simp [hc]) g' hg') ha hr
        | global t =>
          obtain ⟨g', hg', hr⟩ := CX hr
          exact Hl hF H hE' hc ho (hst (.global t) (by unfold Op.operands Call.operands; simp [hc]) g' hg') ha hr
      | invoke recv name =>
        simp only [hc] at hr
        have hE' : ∀ b, ¬ E b := Eb (by simp only [kd, hc]) hE
        obtain ⟨x', hx', hr⟩ := CX hr
        exact OV hT hF H hE' hc ho (hst recv (by unfold Op.operands Call.operands; simp [hc]) x' hx') ha hr
  | lookup t x ix ok =>
    rw [ho] at hr hst hE
    obtain ⟨ti, hti, hr⟩ := BE hr
    obtain ⟨x', ix', hx', hix', hr⟩ := HO hr
    cases hk : ti.k with
    | map kt el =>
      simp only [hk] at hr
      obtain ⟨ei, hei, hr⟩ := BE hr
      obtain ⟨hz, hr⟩ := GN hr
      unfold wZero at hr
      cases hzv : zeroV ei with
      | none => rw [hzv] at hr; cases hr
      | some z =>
        rw [hzv] at hr
        obtain ⟨ti2, kt2, el2, K, hti2, hk2, hK, hr⟩ := Ic hr
        rw [hti] at hti2; cases hti2
        rw [hk] at hk2; cases hk2
        refine .of_gives (by unfold execOp; rw [ho]) (OX hT H (hT t ti hti) hk (hT el ei hei) hz hzv hK (hst x (by simp [Op.operands]) x' hx') (hst ix (by simp [Op.operands]) ix' hix') (fun r hxr => ?_) hr)
        have hkd : kd ty (.lookup t x ix ok) = .r x := rfl
        unfold FX at hE
        rw [hkd] at hE
        exact hE x' hx' r (by rw [hxr]; rfl)
    | _ => simp only [hk] at hr; cases hr
  | mapUpdate t m k x =>
    rw [ho] at hr hst hE
    obtain ⟨ti, kt, el, K, hti, hk, hK, hr⟩ := Ic (k := fun ks => w1 f m fun m => w2 f k x fun key x => FF ks m key x) hr
    obtain ⟨m', hm', hr⟩ := CX hr
    obtain ⟨k', x', hk', hx', hr⟩ := HO hr
    exact .of_skips (by unfold execOp; rw [ho]) (JU hT H (Ib (x := m) rfl hE) (hT t ti hti) hk hK (hst m (by simp [Op.operands]) m' hm') (hst k (by simp [Op.operands]) k' hk') (hst x (by simp [Op.operands]) x' hx') hr)
  | insert t m k x =>
    rw [ho] at hr hst hE
    obtain ⟨ti, kt, el, K, hti, hk, hK, hr⟩ := Ic (k := fun ks => w1 f m fun m => w2 f k x fun key x => FF ks m key x) hr
    obtain ⟨m', hm', hr⟩ := CX hr
    obtain ⟨k', x', hk', hx', hr⟩ := HO hr
    exact .of_skips (by unfold execOp; rw [ho]) (JU hT H (Ib (x := m) rfl hE) (hT t ti hti) hk hK (hst m (by simp [Op.operands]) m' hm') (hst k (by simp [Op.operands]) k' hk') (hst x (by simp [Op.operands]) x' hx') hr)
  | range t x =>
    rw [ho] at hr hst hE
    obtain ⟨ti, hti, hr⟩ := BE hr
    cases hk : ti.k with
    | map k q =>
      simp only [hk] at hr
      obtain ⟨x', hx', hr⟩ := CX hr
      exact .of_gives (by unfold execOp; rw [ho]) (Qj H (Eb rfl hE) (hT t ti hti) hk (hst x (by simp [Op.operands]) x' hx') hr)
    | _ => simp only [hk] at hr; cases hr
  | next x s =>
    rw [ho] at hr hst hE
    cases s with
    | true => cases hr
    | false =>
      obtain ⟨x', hx', hr⟩ := CX hr
      exact .of_gives (by unfold execOp; rw [ho]) (S1 (t := o.type) H (Eb rfl hE) (hst x (by simp [Op.operands]) x' hx') hr)
  | entry x =>
    rw [ho] at hr hst hE
    obtain ⟨x', hx', hr⟩ := CX hr
    exact .of_gives (by unfold execOp; rw [ho]) (Qa H (Eb rfl hE) (hst x (by simp [Op.operands]) x' hx') hr)
  | typeAssert x xt t ok =>
    rw [ho] at hr hst hE
    obtain ⟨ti, hti, hr⟩ := BE hr
    obtain ⟨x', hx', hr⟩ := CX hr
    have hr2 : ti.k ≠ .iface ∧ wZ ti (wZero ti fun z => IU t ok z x') F e h = .ok v h' := by
      cases hk : ti.k with
      | iface => simp only [hk] at hr; cases hr
      | _ => simp only [hk] at hr; exact ⟨nofun, hr⟩
    obtain ⟨hki, hr⟩ := hr2
    obtain ⟨hz, hr⟩ := GN hr
    unfold wZero at hr
    cases hzv : zeroV ti with
    | none => rw [hzv] at hr; cases hr
    | some z =>
      rw [hzv] at hr
      exact .of_gives (by unfold execOp; rw [ho]) (OL H (hT t ti hti) hki hz hzv (hst x (by simp [Op.operands]) x' hx') hr)
  | _ => rw [ho] at hr; cases hr
end
end
end Go.Proofs.YtfeldadhbnmklaaGreat
set_option linter.unusedSimpArgs false
set_option linter.unusedVariables false
namespace Go.Proofs.YtfeldadhbnmklaaGreat
noncomputable section
open Go
def eZ (h : Hp) : R → R
  | .ok v _ => .ok v h
  | .no => .no
def Kr (g : Hp → R) : Prop := ∀ h h2 : Hp, h2.bl = h.bl → g h2 = eZ h2 (g h)
def Kp (g : OpF) : Prop := ∀ F e, Kr (g F e)
theorem Kr.same {g : Hp → R} (k : Kr g) {h h' : Hp} {v : Value} (hr : g h = .ok v h') : h' = h := by
  have := k h h rfl
  rw [hr] at this
  have : (R.ok v h') = .ok v h := this
  cases this; rfl
theorem Kr.at {g : Hp → R} (k : Kr g) {h h' : Hp} {v : Value} (hr : g h = .ok v h') (h2 : Hp) (hb : h2.bl = h.bl) : g h2 = .ok v h2 := by
  rw [k h h2 hb, hr]; rfl
theorem Kr.no : Kr fun _ => .no := fun _ _ _ => rfl
theorem Kr.ok (v : Value) : Kr fun h => .ok v h := fun _ _ _ => rfl
theorem Kr.bif {c : Bool} {a b : Hp → R} (ka : Kr a) (kb : Kr b) : Kr fun h => bif c then a h else b h := by
  cases c
  · exact kb
  · exact ka
theorem Kr.forceV {v : Value} {k : Value → Hp → R} (hk : ∀ v, Kr (k v)) : Kr fun h => forceV v fun v => k v h := by
  intro h h2 hb; simp only [A7]; exact hk v h h2 hb
theorem Kr.forceL {v : List Value} {k : List Value → Hp → R} (hk : ∀ v, Kr (k v)) : Kr fun h => forceL v fun v => k v h := by
  intro h h2 hb; simp only [CN]; exact hk v h h2 hb
theorem Kr.forceN {v : Nat} {k : Nat → Hp → R} (hk : ∀ v, Kr (k v)) : Kr fun h => forceN v fun v => k v h := by
  intro h h2 hb; simp only [Ao]; exact hk v h h2 hb
theorem Kr.okI (k : IntKind) (n : Int) : Kr fun h => okI k n h := fun h h2 _ => by simp only [Dk]; rfl
theorem Kr.moveR (v : Value) : Kr fun h => moveR v h := fun h h2 _ => by simp only [Df]; rfl
theorem Kr.okB (b : Bool) : Kr fun h => okB b h := by cases b <;> exact .ok _
theorem Kr.row {b : Nat} {k : VT → Nat → Nat → Hp → R} {z : Hp → R} (hk : ∀ c s e, Kr (k c s e)) (hz : Kr z) : Kr fun h => match rowOf h b with
    | .ok c s e => k c s e h
    | .no => z h := by
  intro h h2 hb
  have : rowOf h2 b = rowOf h b := by unfold rowOf; rw [hb]
  simp only [this]
  cases rowOf h b with
  | ok c s e => exact hk c s e h h2 hb
  | no => exact hz h h2 hb
theorem Kr.ents {b : Nat} {k : List Ent → Nat → Hp → R} {z : Hp → R} (hk : ∀ c s, Kr (k c s)) (hz : Kr z) : Kr fun h => match Bv h b with
    | .ok c s => k c s h
    | .no => z h := by
  intro h h2 hb
  have : Bv h2 b = Bv h b := by unfold Bv; rw [hb]
  simp only [this]
  cases Bv h b with
  | ok c s => exact hk c s h h2 hb
  | no => exact hz h h2 hb
theorem PH {c : VT} {off : Nat} {k : List Value → Hp → R} (hk : ∀ l, Kr (k l)) (n : Nat) (acc : List Value) : Kr fun h => N6 c off (fun l => k l h) n acc := by
  intro h h2 hb; simp only [E9]; exact hk _ h h2 hb
theorem FZ {e : Env} {x : Option O} {d y : Nat} {k : Nat → Hp → R} (hk : ∀ n, Kr (k n)) : Kr fun h => DE e x d y fun n => k n h := by
  unfold DE
  cases x with
  | none => exact hk d
  | some o =>
    simp only
    cases Cy (o e) with
    | no => exact .no
    | ok n => exact .bif (hk n) .no
theorem HY {e : Env} {l c : Nat} {lo hi mx : Option O} {k : Nat → Nat → Nat → Hp → R} (hk : ∀ a b c, Kr (k a b c)) : Kr fun h => E5 e l c lo hi mx fun a b c => k a b c h := by
  unfold E5
  cases mx with
  | none => exact FZ (k := fun hh h => DE e lo 0 hh fun l => k l hh c h) fun hh => FZ (k := fun l h => k l hh c h) fun l => hk l hh c
  | some m =>
    refine FZ (k := fun m h => _) fun m => ?_
    cases hi with
    | none => exact .no
    | some hh => exact FZ (k := fun hh h => DE e lo 0 hh fun l => k l hh m h) fun hh => FZ (k := fun l h => k l hh m h) fun l => hk l hh m
theorem FO {a : Option Addr} {s l hh m : Nat} : Kr fun h => CQ a s l hh m h := by
  unfold CQ
  refine .forceN (k := fun n h => _) fun n => .forceN (k := fun c h => _) fun c => ?_
  cases Nat.beq m l with
  | true => exact .ok _
  | false =>
    cases a with
    | none => exact .ok _
    | some a =>
      simp only
      cases Nat.mul l s with
      | zero => exact .ok _
      | succ m => exact .forceN (k := fun o h => _) fun o => .ok _
theorem Mz {g : Bool} {s : Nat} {cs : List Value} {off : Nat} : Kr fun h => Ke g s cs off h := by
  unfold Ke
  cases g with
  | true => exact .forceL (k := fun l h => _) fun l => .ok _
  | false =>
    simp only
    cases nth cs off with
    | none => exact .no
    | some v => exact .forceV (k := fun l h => _) fun l => .ok _
theorem Lz {e : Env} {k : List Value → Hp → R} (hk : ∀ l, Kr (k l)) : ∀ (ps : List (Nat × Nat × O)) (cs : List Value), Kr fun h => DQ cs e (fun l => k l h) ps
  | [], cs => by
    unfold DQ; exact .forceL (k := k) hk
  | (off, size, x) :: ps, cs => by
    unfold DQ
    exact .forceV (k := fun v h => _) fun v => .bif (.bif (.bif (Lz hk ps _) .no) .no) .no
theorem JH {ok : Bool} {v : Value} {b : Bool} : Kr fun h => C2 ok v b h := by
  unfold C2
  cases ok
  · exact .forceV (k := fun v h => _) fun v => .ok _
  · exact .forceV (k := fun v h => _) fun v => .ok _
theorem M8 {a : Addr} {n : Nat} : Kr fun h => Kf a n h := .forceN (k := fun o h => _) fun o => .ok _
theorem NO {size : Nat} {v : Value} {n : Nat} {k : List Value → Hp → R} (hk : ∀ l, Kr (k l)) : Kr fun h => BX h size v n fun l => k l h := by
  unfold BX
  cases v with
  | slice a l c =>
    cases a with
    | none => exact hk []
    | some a => exact .row (k := fun c s _ h => bif Nat.ble (Nat.add a.off (Nat.mul n size)) s then N6 c a.off (fun l => k l h) (Nat.mul n size) [] else .no) (z := fun _ => .no) (fun c s _ => .bif (PH hk _ _) .no) .no
  | string s => exact .bif (hk _) .no
  | _ => exact .no
end
end Go.Proofs.YtfeldadhbnmklaaGreat
set_option linter.unusedSimpArgs false
set_option linter.unusedVariables false
namespace Go.Proofs.YtfeldadhbnmklaaGreat
noncomputable section
open Go
theorem Kp.oNo : Kp oNo := fun _ _ => .no
theorem Kp.w1 {f : Fr} {x : Operand} {k : O → OpF} (hk : ∀ y, Kp (k y)) : Kp (w1 f x k) := by
  unfold Go.Proofs.YtfeldadhbnmklaaGreat.w1; split
  · exact hk _
  · exact .oNo
theorem Kp.w2 {f : Fr} {x y : Operand} {k : O → O → OpF} (hk : ∀ x y, Kp (k x y)) : Kp (w2 f x y k) := .w1 fun x => .w1 fun y => hk x y
theorem Kp.wTy {ty : TTy} {t : Nat} {k : TI → OpF} (hk : ∀ ti, ty.get t = some ti → Kp (k ti)) : Kp (wTy ty t k) := by
  unfold Go.Proofs.YtfeldadhbnmklaaGreat.wTy; split
  · rename_i ti h; exact hk ti h
  · exact .oNo
theorem Kp.wZ {ti : TI} {k : OpF} (hk : Kp k) : Kp (wZ ti k) := by
  unfold Go.Proofs.YtfeldadhbnmklaaGreat.wZ; split
  · exact hk
  · exact .oNo
theorem Kp.wZero {ti : TI} {k : Value → OpF} (hk : ∀ z, Kp (k z)) : Kp (wZero ti k) := by
  unfold Go.Proofs.YtfeldadhbnmklaaGreat.wZero; split
  · exact hk _
  · exact .oNo
theorem Kp.wKey {ty : TTy} {t : Nat} {k : KS → OpF} (hk : ∀ z, Kp (k z)) : Kp (wKey ty t k) := by
  unfold Go.Proofs.YtfeldadhbnmklaaGreat.wKey
  refine .wTy fun ti _ => ?_
  split
  · refine .wTy fun ki _ => ?_
    split
    · exact hk _
    · exact .oNo
  · exact .oNo
section
variable {x y z : O}
theorem JT : Kp (AC x) := fun F e => .moveR _
theorem S3 : Kp (AW x y z) := fun F e => by
  show Kr fun h => TM (x e) (y e) (z e) h
  cases x e with
  | bool t => cases t <;> exact .moveR _
  | _ => exact .no
theorem Ka {zs : List Value} {ps : List (Nat × Nat × O)} : Kp (BA zs ps) := fun F e => Lz (k := fun cs h => .ok (.agg ⟨cs⟩) h) (fun l => .ok _) ps zs
theorem Wh : Kp (BF x) := fun F e => by
  show Kr fun h => QS (x e) h
  unfold QS
  cases x e with
  | pointer a => cases a; exact .no; exact .ok _
  | func f a b => cases f <;> first | exact .ok _ | exact .no
  | slice a n c => exact .ok _
  | map m => exact .ok _
  | iface t v => exact .forceV (k := fun v h => .ok (.iface t v) h) fun v => .ok _
  | _ => exact .no
theorem WM {f : Int → Int → Bool} {k : IntKind} : Kp (AM f k x y) := fun F e => by
  show Kr fun h => VI f (B9 k (x e)) (B9 k (y e)) h
  cases B9 k (x e) with
  | no => exact .no
  | ok a => cases B9 k (y e) with
    | no => exact .no
    | ok b => exact .okB _
theorem WD {f : Int → Int → Int} {k : IntKind} : Kp (As f k x y) := fun F e => by
  show Kr fun h => YC f k (B9 k (x e)) (B9 k (y e)) h
  cases B9 k (x e) with
  | no => exact .no
  | ok a => cases B9 k (y e) with
    | no => exact .no
    | ok b => exact .okI _ _
theorem V9 {k : IntKind} {top : Nat} : Kp (Ai k top x y) := fun F e => by
  show Kr fun h => UO k top (B9 k (x e)) (B9 k (y e)) h
  cases B9 k (x e) with
  | no => exact .no
  | ok a => cases B9 k (y e) with
    | no => exact .no
    | ok b =>
      cases a with
      | negSucc _ => exact .okI _ _
      | ofNat a => cases b with
        | negSucc _ => exact .okI _ _
        | ofNat b =>
          unfold UO
          simp only
          cases Nat.ble (Nat.add a b) top with
          | true => exact .forceN (k := fun n h => .ok (.int k (.ofNat n)) h) fun n => .ok _
          | false => exact .okI _ _
theorem WS {k : IntKind} : Kp (Ch k x y) := fun F e => by
  show Kr fun h => R7 k (B9 k (x e)) (B9 k (y e)) h
  unfold R7
  cases B9 k (x e) with
  | no => exact .no
  | ok a => cases B9 k (y e) with
    | no => exact .no
    | ok b => exact .bif .no (.okI _ _)
theorem Wl {k : IntKind} : Kp (GF k x y) := fun F e => by
  show Kr fun h => TQ k (B9 k (x e)) (B9 k (y e)) h
  unfold TQ
  cases B9 k (x e) with
  | no => exact .no
  | ok a => cases B9 k (y e) with
    | no => exact .no
    | ok b => exact .bif .no (.okI _ _)
theorem WG {f : Nat → Nat → Nat} {k : IntKind} : Kp (DP f k x y) := fun F e => by
  show Kr fun h => RU f k (EL k (x e)) (EL k (y e)) h
  unfold RU
  cases EL k (x e) with
  | no => exact .no
  | ok a => cases EL k (y e) with
    | no => exact .no
    | ok b => exact .bif (.bif (.okI _ _) .no) .no
theorem Wo {k : IntKind} : Kp (Ga k x y) := fun F e => by
  show Kr fun h => TZ k (EL k (x e)) (Cy (y e)) h
  unfold TZ
  cases EL k (x e) with
  | no => exact .no
  | ok a => cases Cy (y e) with
    | no => exact .no
    | ok b => exact .okI _ _
theorem Wr {k : IntKind} : Kp (FE k x y) := fun F e => by
  show Kr fun h => Ta k (EL k (x e)) (Cy (y e)) h
  unfold Ta
  cases EL k (x e) with
  | no => exact .no
  | ok a => cases Cy (y e) with
    | no => exact .no
    | ok b => exact .okI _ _
theorem Wt {f : List UInt8 → List UInt8 → Bool} : Kp (GG f x y) := fun F e => by
  show Kr fun h => Tj f (x e) (y e) h
  unfold Tj
  cases x e with
  | string a => cases y e with
    | string b => exact .okB _
    | _ => exact .no
  | _ => exact .no
theorem WK : Kp (LH x y) := fun F e => by
  show Kr fun h => VH (x e) (y e) h
  unfold VH
  cases x e with
  | string a => cases y e with
    | string b => exact .bif (.ok _) .no
    | _ => exact .no
  | _ => exact .no
theorem bB {k : TK} {n : Bool} : Kp (oEq k n x y) := fun F e => by
  unfold oEq
  cases eqV k (x e) (y e) with
  | some r => exact .okB _
  | none => exact .no
theorem S2 {n : Bool} : Kp (Kb n x) := fun F e => by
  show Kr fun h => Sf n (x e) h
  unfold Sf
  cases x e <;> first | exact .okB _ | exact .no
theorem Pk {k : KS} {n : Bool} : Kp (Mh k n x y) := fun F e => by
  unfold Mh
  cases eqC k (x e) (y e) with
  | some r => exact .okB _
  | none => exact .no
theorem Wj : Kp (Bo x) := fun F e => by
  unfold Bo
  cases x e with
  | bool b => exact .okB _
  | _ => exact .no
theorem WN : Kp (Sp x) := fun F e => by
  unfold Sp
  cases EL .u8 (x e) with
  | no => exact .no
  | ok n => exact .bif (.okI _ _) .no
theorem We {k : IntKind} : Kp (S0 k x) := fun F e => by
  unfold S0
  cases B9 k (x e) with
  | no => exact .no
  | ok n => exact .okI _ _
theorem Sm {k : IntKind} : Kp (An k x) := fun F e => by
  unfold An
  cases QN (x e) with
  | no => exact .no
  | ok n => exact .okI _ _
theorem S5 : Kp (Mq x) := fun F e => by
  unfold Mq
  cases x e with
  | string b => exact .ok _
  | _ => exact .no
theorem Ql : Kp (Cb x) := fun F e => by
  unfold Cb
  cases x e with
  | slice a n c =>
    refine NO (k := fun cs h => match DZ cs with | some bs => .ok (.string ⟨⟨bs⟩⟩) h | none => .no) fun l => ?_
    cases DZ l with
    | some bs => exact .ok _
    | none => exact .no
  | _ => exact .no
theorem Qd {t : Nat} : Kp (JS t x) := fun F e => .forceV (k := fun v h => .ok (.iface t v) h) fun v => .ok _
theorem Sr {fn : Fn} {a b : List O} : Kp (D6 fn a b) := fun F e => .forceL (k := fun f h => forceL (vals e b) fun c => .ok (.func fn ⟨f⟩ ⟨c⟩) h) fun f => .forceL (k := fun c h => .ok (.func fn ⟨f⟩ ⟨c⟩) h) fun c => .ok _
theorem OQ {lo hi : Option O} : Kp (F6 x lo hi) := fun F e => by
  unfold F6
  cases x e with
  | string s => exact HY (k := fun l hh _ h => .ok (.string ⟨⟨IC (Nat.sub hh l) (I0 l s.data.toList)⟩⟩) h) fun a b c => .ok _
  | _ => exact .no
theorem VK {el s : Nat} {a : Option Addr} {mx : Bool} {l hh m : Nat} : Kr fun h => He el s a mx l hh m h := by
  unfold He
  cases mx with
  | true => exact FO
  | false =>
    cases l with
    | zero => exact FO
    | succ l =>
      intro h h2 hb
      have : GJ el a h2 = GJ el a h := by
        unfold GJ
        cases a with
        | none => rfl
        | some a =>
          have : rowOf h2 a.block = rowOf h a.block := by unfold rowOf; rw [hb]
          simp only [this]
      simp only [this]
      cases GJ el a h with
      | true => exact FO h h2 hb
      | false => rfl
theorem WP {el s : Nat} {lo hi mx : Option O} : Kp (EM el s x lo hi mx) := fun F e => by
  unfold EM
  cases x e with
  | slice a n c => exact HY (k := fun l hh m h => He el s a mx.isSome l hh m h) fun _ _ _ => VK
  | _ => exact .no
theorem OO {n s : Nat} {lo hi mx : Option O} : Kp (F5 n s x lo hi mx) := fun F e => by
  unfold F5
  cases DD (x e) with
  | ok a => exact HY (k := fun l hh m h => CQ (some a) s l hh m h) fun _ _ _ => FO
  | no => exact .no
theorem Ju {o : Nat} : Kp (AE o x) := fun F e => by
  unfold AE
  cases DD (x e) with
  | ok a => exact M8
  | no => exact .no
theorem Qb {g : Bool} {s o : Nat} : Kp (JR g s o x) := fun F e => by
  unfold JR
  cases x e with
  | agg cs => exact Mz
  | _ => exact .no
theorem PR {n s : Nat} {a : AA} {i : NN} : Kr fun h => I9 n s a i h := by
  unfold I9
  cases i with
  | no => exact .no
  | ok i =>
    simp only
    cases Nat.blt i n with
    | false => exact .no
    | true =>
      cases a with
      | no => exact .no
      | ok a => exact M8
theorem OT {n s : Nat} : Kp (A4 n s x y) := fun F e => PR
theorem WU {s : Nat} : Kp (AY s x y) := fun F e => by
  unfold AY
  cases x e with
  | slice a n c => cases a; exact .no; exact PR
  | _ => exact .no
theorem az {g : Bool} {n s : Nat} : Kp (oAt g n s x y) := fun F e => by
  show Kr fun h => atF g n s (x e) (Cy (y e)) h
  unfold atF
  cases Cy (y e) with
  | no => exact .no
  | ok i =>
    refine .bif ?_ .no
    cases x e with
    | agg cs => exact Mz
    | _ => exact .no
theorem QW : Kp (Hn x y) := fun F e => by
  show Kr fun h => Kq (x e) (Cy (y e)) h
  unfold Kq
  cases Cy (y e) with
  | no => exact .no
  | ok i =>
    simp only
    cases x e with
    | string s =>
      simp only
      cases nth s.data.toList i with
      | some b => exact .okI _ _
      | none => exact .no
    | _ => exact .no
theorem Mi {i : Nat} : Kp (AN i x) := fun F e => by
  unfold AN
  cases x e with
  | tuple vs =>
    simp only
    cases nth vs.toList i with
    | some v => exact .forceV (k := fun v h => .ok v h) fun v => .ok v
    | none => exact .no
  | _ => exact .no
theorem WE {n : Nat} : Kp (QV n x) := fun F e => by
  unfold QV
  cases x e with
  | slice a l c => cases a; exact .no; exact .bif (.ok _) .no
  | _ => exact .no
theorem Sv : Kp (Aw x) := fun F e => by
  unfold Aw
  cases x e with
  | slice a n c => exact .ok _
  | chan o => cases o; exact .no; exact .ok _
  | _ => exact .no
theorem Sx : Kp (Mm x) := fun F e => by
  unfold Mm
  cases x e with
  | string s => exact .forceN (k := fun n h => .ok (.int .i64 (.ofNat n)) h) fun n => .ok _
  | _ => exact .no
theorem St : Kp (Ml x) := fun F e => by
  unfold Ml
  cases x e with
  | map r =>
    cases r with
    | none => exact .ok _
    | some r => exact .ents (k := fun es _ h => forceN (BR es) fun n => .ok (.int .i64 (.ofNat n)) h) (z := fun _ => .no) (fun es _ => .forceN (k := fun n h => .ok (.int .i64 (.ofNat n)) h) fun n => .ok _) .no
  | _ => exact .no
theorem KV {l : Bool} {a b : Value} : Kr fun h => GZ l a b h := by
  unfold GZ
  cases a with
  | int k a =>
    simp only
    cases QN b with
    | no => exact .no
    | ok b => exact .bif (.ok _) (.ok _)
  | _ => exact .no
theorem Wc : Kp (II x y) := fun F e => KV
theorem Wa : Kp (WZ x y) := fun F e => KV
theorem Qf : Kp (AG x) := fun F e => by
  unfold AG
  cases DD (x e) with
  | no => exact .no
  | ok a =>
    intro h h2 hb
    show load1 a h2 = eZ h2 (load1 a h)
    have : rowOf h2 a.block = rowOf h a.block := by unfold rowOf; rw [hb]
    unfold load1
    rw [this]
    cases rowOf h a.block with
    | no => rfl
    | ok c s t =>
      simp only
      cases Nat.blt a.off s with
      | false => rfl
      | true => simp only [A7]; rfl
theorem Qh {n : Nat} : Kp (Ac n x) := fun F e => by
  unfold Ac
  cases DD (x e) with
  | no => exact .no
  | ok a => exact .row (k := fun c s _ h => bif Nat.ble (Nat.add a.off n) s then N6 c a.off (fun l => .ok (.agg ⟨l⟩) h) n [] else .no) (z := fun _ => .no) (fun c s _ => .bif (PH (k := fun l h => .ok (.agg ⟨l⟩) h) (fun l => .ok _) _ _) .no) .no
theorem OW {K : KS} {zv : Value} {ok : Bool} : Kp (G8 K zv ok x y) := fun F e => by
  show Kr fun h => IQ K zv (x e) (y e) ok h
  unfold IQ
  cases Ef K (y e) with
  | false => exact .no
  | true =>
    simp only
    cases x e with
    | map r =>
      cases r with
      | none => exact JH
      | some r =>
        refine .ents (k := fun es _ h => match J9 K (y e) es with
          | some (some en) => C2 ok en.val true h
          | some none => C2 ok zv false h
          | none => .no) (z := fun _ => .no) (fun es _ => ?_) .no
        cases J9 K (y e) es with
        | none => exact .no
        | some o => cases o <;> exact JH
    | _ => exact .no
end
section
variable {ty : TTy} {f : Fr}
theorem VB {op : BinOp} {t : Nat} {x y : Operand} : Kp (RR ty f op t x y) := by
  unfold RR
  refine .wTy fun ti _ => .w2 fun x y => ?_
  split
  · split
    · cases op <;> first | exact S2 | exact .oNo
    · exact .oNo
  · cases op <;> first | exact V9 | exact WD | exact WS | exact Wl | exact WG | exact Wo | exact Wr | exact WM | exact .oNo
  · cases op <;> first | exact WK | exact Wt | exact .oNo
  · split
    · cases op <;> first | exact Pk | exact .oNo
    · exact .oNo
  · split
    · cases op <;> first | exact Pk | exact .oNo
    · exact .oNo
  · cases op <;> first | exact bB | exact .oNo
theorem bD {op : Op} (hk : kd ty op = .p ∨ ∃ x, kd ty op = .r x) : Kp (opC ty f op) := by
  cases op with
  | move x => exact .w1 fun x => JT
  | assign x => exact .w1 fun x => JT
  | pick c a b => exact .w1 fun c => .w2 fun a b => S3
  | build t ps =>
    refine .wTy fun ti _ => .wZ ?_
    split
    · split
      · exact Ka
      · exact .oNo
    · refine .wTy fun ei _ => ?_
      split
      · exact Ka
      · exact .oNo
    · exact .oNo
  | load t x =>
    refine .wTy fun ti _ => .w1 fun x => ?_
    split
    · exact Qh
    · exact Qf
  | nilCheck x => exact .w1 fun x => Wh
  | binOp op t x y u => exact VB
  | unOp op t x =>
    refine .wTy fun ti _ => .w1 fun x => ?_
    split <;> first | exact Wj | exact We | exact WN | exact .oNo
  | convert src dst x =>
    refine .wTy fun si hsi => .wTy fun di hdi => .w1 fun x => ?_
    split
    · exact Sm
    · exact S5
    · refine .wTy fun ei _ => ?_
      split
      · exact Ql
      · exact .oNo
    · rename_i hd hs
      exfalso
      simp only [kd] at hk
      cases hb : Nat.beq src dst with
      | true => simp only [hb] at hk; rcases hk with hk | ⟨_, hk⟩ <;> cases hk
      | false =>
        have h1 : JB ty src = false := by unfold JB; rw [hsi]; simp only [hs]
        have h2 : Fi ty dst = true := by unfold Fi; rw [hdi]; simp only [hd]
        simp only [hb, h1, h2] at hk
        rcases hk with hk | ⟨_, hk⟩ <;> cases hk
    · rename_i hs hd
      split
      · rename_i hb
        exfalso
        simp only [kd, hb] at hk
        rcases hk with hk | ⟨_, hk⟩ <;> cases hk
      · exact .oNo
    · exact .oNo
  | makeInterface t x =>
    refine .wTy fun ti _ => .w1 fun x => ?_
    split
    · exact .oNo
    · exact Qd
  | makeFunc fn a b =>
    show Kp (match cOs f a.toList, cOs f b.toList with
      | some fs, some c => D6 fn fs c
      | _, _ => oNo)
    split
    · exact Sr
    · exact .oNo
  | slice t x lo hi mx =>
    refine .wTy fun ti _ => .w1 fun x => ?_
    split
    · split
      · split
        · exact OQ
        · exact .oNo
      · exact .wTy fun ei _ => WP
      · exact .wTy fun ei _ => OO
      · exact .oNo
    · exact .oNo
  | fieldAddr t x i =>
    refine .wTy fun ti _ => .w1 fun x => ?_
    split
    · split <;> first | exact Ju | exact .oNo
    · exact .oNo
  | field t x i =>
    refine .wTy fun ti _ => .w1 fun x => ?_
    split
    · split
      · exact .wTy fun fi _ => Qb
      · exact .oNo
    · exact .oNo
  | indexAddr t x i =>
    refine .wTy fun ti _ => .w2 fun x y => ?_
    split
    · exact .wTy fun fi _ => OT
    · exact .wTy fun fi _ => WU
    · exact .oNo
  | index t x i =>
    refine .wTy fun ti _ => .w2 fun x y => ?_
    split
    · exact .wTy fun fi _ => az
    · exact QW
    · exact .oNo
  | lookup t x i ok =>
    refine .wTy fun ti _ => .w2 fun x y => ?_
    split
    · exact .wTy fun ei _ => .wZ (.wZero fun z => .wKey fun ks => OW)
    · exact .oNo
  | extract t i => exact .w1 fun t => Mi
  | sliceToArrayPointer t x =>
    refine .wTy fun ti _ => ?_
    split
    · exact .w1 fun x => WE
    · exact .oNo
  | call c =>
    simp only [kd] at hk
    cases hc : c.callee with
    | builtin b =>
      show Kp (match cOs f c.args.toList with
        | some args => match c.callee with
          | .builtin b => HZ ty b c.argTypes.toList args
          | .value g => match g with
            | .func g => AL g args
            | g => w1 f g fun g => B8 g args
          | .invoke recv name => w1 f recv fun x => IX (ty.meths name fun k => k) x args
        | none => oNo)
      split
      · rename_i args ha
        simp only [hc]
        cases b with
        | len =>
          unfold HZ
          split <;> rename_i h1 <;> first | (cases h1; done) | skip
          all_goals (try (exact .oNo))
          split
          · refine .wTy fun ti _ => ?_
            split
            · exact Sv
            · exact Sx
            · exact St
            · exact JT
            · exact .oNo
          · exact .oNo
        | min =>
          unfold HZ
          split <;> rename_i h1 <;> first | (cases h1; done) | exact Wc | exact .oNo
        | max =>
          unfold HZ
          split <;> rename_i h1 <;> first | (cases h1; done) | exact Wa | exact .oNo
        | _ =>
          exfalso
          simp only [hc] at hk
          cases hl : c.args.toList with
          | nil => simp only [hl] at hk; rcases hk with hk | ⟨_, hk⟩ <;> cases hk
          | cons _ _ => simp only [hl] at hk; rcases hk with hk | ⟨_, hk⟩ <;> cases hk
      · exact .oNo
    | _ =>
      exfalso
      simp only [hc] at hk
      rcases hk with hk | ⟨_, hk⟩ <;> cases hk
  | _ => first | exact .oNo | (exfalso; rcases hk with hk | ⟨_, hk⟩ <;> cases hk)
end
end
end Go.Proofs.YtfeldadhbnmklaaGreat
set_option linter.unusedSimpArgs false
set_option linter.unusedVariables false
namespace Go.Proofs.YtfeldadhbnmklaaGreat
noncomputable section
open Go
abbrev Rho := Nat → Option Value
def rhoOf (A : List Nat) (σ : Sg) (e : Env) : Rho := fun t => match LU A σ (.tmp t) with
  | some s => some (IK s e)
  | none => none
def evR (ρ : Rho) : Operand → Option Value
  | .tmp t => ρ t
  | .const v => if D8 v then some v else none
  | .func g => some (.func (.func g) #[] #[])
  | .global _ => none
theorem DK (A : List Nat) (σ : Sg) (e : Env) (t : Nat) : rhoOf A σ e t = match Cj t σ with
    | some s => some (IK s e)
    | none => match memN t A with
      | true => none
      | false => match Nat.blt t 320 with
        | true => some (AB t e)
        | false => none := by
  show (match LU A σ (.tmp t) with | some s => some (IK s e) | none => none) = _
  show (match (match Cj t σ with | some s => some s | none => match memN t A with | true => none | false => match Nat.blt t 320 with | true => some (Src.s t) | false => none) with | some s => some (IK s e) | none => none) = _
  cases Cj t σ with
  | some s => rfl
  | none =>
    cases memN t A with
    | true => rfl
    | false => cases Nat.blt t 320 <;> rfl
theorem Tg {A : List Nat} {σ : Sg} {x : Operand} {s : Src} (h : LU A σ x = some s) (e : Env) : evR (rhoOf A σ e) x = some (IK s e) := by
  cases x with
  | tmp t => show (match LU A σ (.tmp t) with | some s => some (IK s e) | none => none) = _; rw [h]
  | const v =>
    have h : (match D8 v with | true => some (Src.c v) | false => none) = some s := h
    cases hp : D8 v with
    | true => rw [hp] at h; cases h; show (if D8 v then some v else none) = _; rw [if_pos hp]; rfl
    | false => rw [hp] at h; cases h
  | func g => cases h; rfl
  | global _ => cases h
theorem Zh {f : Fr} {x : Operand} {y : O} (h : cO f x = some y) : ∃ s, LU f.A f.σ x = some s ∧ y = IK s := by
  unfold cO at h
  split at h
  · rename_i s hs; cases h; exact ⟨s, hs, rfl⟩
  · cases h
theorem EP {A : List Nat} {σ : Sg} {x : Operand} {y : O} (h : cO ⟨A, σ⟩ x = some y) (e : Env) : evR (rhoOf A σ e) x = some (y e) := by
  obtain ⟨s, hs, rfl⟩ := Zh h
  exact Tg hs e
theorem JZ {φ : Phi} {v : Value} (h : D8 v = true) : RelV φ v v := by
  unfold D8 at h
  split at h
  · rename_i cs
    exact .agg (l := cs.toList) (l' := cs.toList) (.plain h)
  · exact .plain h
structure SgOk (A : List Nat) (σ : Sg) : Prop where
  mem : ∀ p ∈ σ, memN p.1 A = true
  nodup : (σ.map (·.1)).Nodup
  lt : ∀ p ∈ σ, ∀ n, p.2 = .s n → n < 320
theorem SgOk.nil (A : List Nat) : SgOk A [] where
  mem := fun p hp => by cases hp
  nodup := List.nodup_nil
  lt := fun p hp => by cases hp
theorem Dt {a b : Nat} (h : Nat.beq a b = false) : a ≠ b := fun e => by rw [e, Nat.beq_refl] at h; cases h
theorem DU : ∀ {σ : Sg} {t : Nat} {s : Src}, Cj t σ = some s → (t, s) ∈ σ
  | (d, s') :: l, t, s, h => by
    unfold Cj at h
    split at h
    · rename_i hb
      cases h
      have := AZ.1 hb
      subst this; exact List.mem_cons_self
    · exact List.mem_cons_of_mem _ (DU h)
theorem Do : ∀ {σ : Sg} {t : Nat} {s : Src}, (σ.map (·.1)).Nodup → (t, s) ∈ σ → Cj t σ = some s
  | (d, s') :: l, t, s, hn, h => by
    unfold Cj
    rw [List.map_cons, List.nodup_cons] at hn
    rcases List.mem_cons.1 h with h | h
    · cases h
      rw [Nat.beq_refl]
    · have : d ≠ t := by
        intro e; subst e
        exact hn.1 (List.mem_map.2 ⟨_, h, rfl⟩)
      have hb : Nat.beq d t = false := by
        cases hb : Nat.beq d t with
        | true => exact absurd (AZ.1 hb) this
        | false => rfl
      rw [hb]; exact Do hn.2 h
theorem DT : ∀ {σ : Sg} {d : Nat}, (ET d σ).Sublist σ ∧ ∀ p ∈ ET d σ, p.2 ≠ .s d
  | [], d => ⟨.slnil, fun p hp => by cases hp⟩
  | (t, .s n) :: l, d => by
    obtain ⟨h1, h2⟩ := DT (σ := l) (d := d)
    unfold ET
    split
    · exact ⟨h1.cons _, h2⟩
    · rename_i hb
      refine ⟨h1.cons_cons _, fun p hp => ?_⟩
      rcases List.mem_cons.1 hp with rfl | hp
      · intro e; cases e; exact Dt hb rfl
      · exact h2 p hp
  | (t, .c v) :: l, d => by
    obtain ⟨h1, h2⟩ := DT (σ := l) (d := d)
    unfold ET
    refine ⟨h1.cons_cons _, fun p hp => ?_⟩
    rcases List.mem_cons.1 hp with rfl | hp
    · intro e; cases e
    · exact h2 p hp
theorem E0 : ∀ {σ : Sg} {d : Nat}, (EG d σ).Sublist σ ∧ ∀ p ∈ EG d σ, p.1 ≠ d
  | [], d => ⟨.slnil, fun p hp => by cases hp⟩
  | (t, s) :: l, d => by
    obtain ⟨h1, h2⟩ := E0 (σ := l) (d := d)
    unfold EG
    split
    · exact ⟨h1.cons _, h2⟩
    · rename_i hb
      refine ⟨h1.cons_cons _, fun p hp => ?_⟩
      rcases List.mem_cons.1 hp with rfl | hp
      · exact Dt hb
      · exact h2 p hp
theorem SgOk.sub {A : List Nat} {σ σ' : Sg} (h : SgOk A σ) (hs : σ'.Sublist σ) : SgOk A σ' :=
  ⟨fun p hp => h.mem p (hs.subset hp), (hs.map (·.1)).nodup h.nodup, fun p hp => h.lt p (hs.subset hp)⟩
theorem SgOk.alias {A : List Nat} {σ : Sg} (h : SgOk A σ) {d : Nat} (hd : memN d A = true) {s : Src} (hs : ∀ n, s = .s n → n < 320) : SgOk A ((d, s) :: EG d σ) := by
  have h' := h.sub (E0 (d := d)).1
  refine ⟨fun p hp => ?_, ?_, fun p hp => ?_⟩
  · rcases List.mem_cons.1 hp with rfl | hp
    · exact hd
    · exact h'.mem p hp
  rotate_left
  · rcases List.mem_cons.1 hp with rfl | hp
    · exact hs
    · exact h'.lt p hp
  · rw [List.map_cons, List.nodup_cons]
    refine ⟨fun hm => ?_, h'.nodup⟩
    obtain ⟨p, hp, e⟩ := List.mem_map.1 hm
    exact (E0 (d := d)).2 p hp e
theorem Wz {A : List Nat} {σ : Sg} {e : Env} (hS : SgOk A σ) {d : Nat} (hd : memN d A = false) (hlt : d < 320) (v : Value) {t : Nat} {u : Value}
    (h : rhoOf A (ET d σ) (Env.set d v e) t = some u) : if t = d then u = v else rhoOf A σ e t = some u := by
  rw [DK] at h
  cases hf : Cj t (ET d σ) with
  | some s =>
    simp only [hf] at h
    cases h
    have hm := DU hf
    have hm' := DT.1.subset hm
    have hne := (DT (σ := σ) (d := d)).2 _ hm
    have hA := hS.mem _ hm'
    have ht : t ≠ d := by intro e; subst e; simp only at hA; rw [hd] at hA; cases hA
    rw [if_neg ht, DK, Do hS.nodup hm']
    simp only
    congr 1
    cases s with
    | c v => rfl
    | s n =>
      have hn : n ≠ d := fun e => hne (by rw [e])
      show AB n e = AB n (Env.set d v e)
      have h3 : n < 320 := hS.lt _ hm' n rfl
      rw [Bm n h3, Bm n h3, Env.get_set _ _ _ _ hlt h3, if_neg hn]
  | none =>
    simp only [hf] at h
    cases hm : memN t A with
    | true => simp only [hm] at h; cases h
    | false =>
      simp only [hm] at h
      cases hb : Nat.blt t 320 with
      | false => simp only [hb] at h; cases h
      | true =>
        simp only [hb] at h
        have h3 := A3.1 hb
        cases h
        have hg : AB t (Env.set d v e) = if t = d then v else e.get t := by
          rw [Bm t h3, Env.get_set _ _ _ _ hlt h3]
        rw [hg]
        split
        · rfl
        · have hf2 : Cj t σ = none := by
            cases hf2 : Cj t σ with
            | none => rfl
            | some s =>
              have := hS.mem _ (DU hf2)
              simp only at this; rw [hm] at this; cases this
          rw [DK]
          simp only [hf2, hm, hb]
          rw [Bm t h3]
theorem Qs {A : List Nat} {σ : Sg} {e : Env} (hS : SgOk A σ) {d : Nat} (hd : memN d A = true) (s : Src) {t : Nat} {u : Value}
    (h : rhoOf A ((d, s) :: EG d σ) e t = some u) : if t = d then u = IK s e else rhoOf A σ e t = some u := by
  rw [DK] at h
  by_cases ht : t = d
  · rw [if_pos ht]
    subst ht
    have : Cj t ((t, s) :: EG t σ) = some s := by unfold Cj; rw [Nat.beq_refl]
    simp only [this] at h
    cases h; rfl
  · rw [if_neg ht]
    have hb : Nat.beq d t = false := by
      cases hb : Nat.beq d t with
      | true => exact absurd (AZ.1 hb).symm ht
      | false => rfl
    have h1 : Cj t ((d, s) :: EG d σ) = Cj t (EG d σ) := by conv => lhs; unfold Cj; rw [hb]
    have h2 : Cj t (EG d σ) = Cj t σ := by
      cases hf : Cj t (EG d σ) with
      | some s' => exact (Do hS.nodup (E0.1.subset (DU hf))).symm
      | none =>
        cases hf2 : Cj t σ with
        | none => rfl
        | some s' =>
          have hm := DU hf2
          have : ∀ {σ : Sg}, (t, s') ∈ σ → (t, s') ∈ EG d σ := by
            intro σ hm
            induction σ with
            | nil => cases hm
            | cons p l ih =>
              obtain ⟨a, b⟩ := p
              unfold EG
              rcases List.mem_cons.1 hm with h | h
              · cases h
                have hb2 : Nat.beq t d = false := by
                  cases hb : Nat.beq t d with
                  | true => exact absurd (AZ.1 hb) ht
                  | false => rfl
                rw [hb2]; exact List.mem_cons_self
              · split
                · exact ih h
                · exact List.mem_cons_of_mem _ (ih h)
          have := Do (hS.sub (E0 (d := d)).1).nodup (this hm)
          rw [hf] at this; cases this
    rw [h1, h2] at h
    rw [DK]; exact h
structure Eff (T : Nat → Prop) (φ : Phi) (h : Hp) (w : World) (φ' : Phi) (h' : Hp) (w' : World) : Prop where
  le : φ.Le φ'
  new : ∀ i p, φ' i = some p → φ i = some p ∨ h.next ≤ i
  next : h.next ≤ h'.next
  size : w.heap.size ≤ w'.heap.size
  tape : w'.tape = w.tape
  os : w'.os = w.os
  output : w'.output = w.output
  frame : ∀ k, k < w.heap.size → (∀ i p, φ i = some p → p.inp = false → T i → Live h i → p.blk ≠ k) → w'.heap[k]? = w.heap[k]?
  back : ∀ i p, φ' i = some p → Live h' i → p.blk < w.heap.size → ∃ j q, φ j = some q ∧ Live h j ∧ q.blk = p.blk ∧ q.inp = p.inp ∧ (j = i ∨ T j)
  kept : ∀ i, i < h.next → ¬ T i → h'.bl.get i = h.bl.get i
  shape : ∀ i, i < h.next → ShapeLe (h.bl.get i) (h'.bl.get i)
  only : ∀ i, i < h.next → φ i = none → h'.bl.get i = h.bl.get i
  all : ∀ i, h.next ≤ i → i < h'.next → ∃ p, φ' i = some p
theorem Evo.eff {φ ψ : Phi} {h h' : Hp} {w w' : World} (ev : Evo φ h w ψ h' w') : Eff (fun c => h'.low ≤ c ∧ c ≤ h'.high) φ h w ψ h' w' where
  le := ev.le
  new := ev.new
  next := ev.next
  size := ev.size
  tape := ev.tape
  os := ev.os
  output := ev.output
  frame := fun k hk hf => ev.frame k hk fun i p e hn h1 h2 hl => hf i p e hn ⟨h1, h2⟩ hl
  back := ev.back
  kept := fun i hi ht => ev.kept i hi (by
    rcases Nat.lt_or_ge i h'.low with h | h
    · exact .inl h
    · rcases Nat.lt_or_ge h'.high i with h2 | h2
      · exact .inr h2
      · exact absurd ⟨h, h2⟩ ht)
  shape := ev.shape
  only := ev.only
  all := ev.all
theorem Eff.of_bl {T : Nat → Prop} {φ ψ : Phi} {h h' g g' : Hp} {w w' : World} (ev : Eff T φ h w ψ h' w') (h1 : g.bl = h.bl) (h2 : g.next = h.next) (h3 : g'.bl = h'.bl) (h4 : g'.next = h'.next) : Eff T φ g w ψ g' w' where
  le := ev.le
  new := by rw [h2]; exact ev.new
  next := by rw [h2, h4]; exact ev.next
  size := ev.size
  tape := ev.tape
  os := ev.os
  output := ev.output
  frame := by unfold Live; rw [h1]; exact ev.frame
  back := by unfold Live; rw [h1, h3]; exact ev.back
  kept := by rw [h1, h2, h3]; exact ev.kept
  shape := by rw [h1, h2, h3]; exact ev.shape
  only := by rw [h1, h2, h3]; exact ev.only
  all := by rw [h2, h4]; exact ev.all
theorem Eff.evo {T : Nat → Prop} {φ ψ : Phi} {h h' : Hp} {w w' : World} (ev : Eff T φ h w ψ h' w') (hT : ∀ c, T c → h'.low ≤ c ∧ c ≤ h'.high) (hl : h'.low ≤ h.low) (hh : h.high ≤ h'.high) : Evo φ h w ψ h' w' where
  le := ev.le
  new := ev.new
  next := ev.next
  size := ev.size
  tape := ev.tape
  os := ev.os
  output := ev.output
  frame := fun k hk hf => ev.frame k hk fun i p e hn ht hl => hf i p e hn (hT i ht).1 (hT i ht).2 hl
  back := fun i p e hl hp => by
    obtain ⟨j, q, e1, e2, e3, e5, e4⟩ := ev.back i p e hl hp
    exact ⟨j, q, e1, e2, e3, e5, e4.imp id (hT j)⟩
  kept := fun i hi ho => ev.kept i hi fun ht => by have := hT i ht; omega
  low := hl
  high := hh
  shape := ev.shape
  only := ev.only
  all := ev.all
theorem RelW.of_bl {ty : TTy} {φ : Phi} {E : Nat → Prop} {h g : Hp} {w : World} (H : RelW ty φ E h w) (h1 : g.bl = h.bl) (h2 : g.next = h.next) : RelW ty φ E g w where
  dom := by rw [h2]; exact H.dom
  inj := by unfold Live; rw [h1]; exact H.inj
  row := by rw [h1]; exact H.row
  fresh := by rw [h1, h2]; exact H.fresh
  kind := by rw [h1]; exact H.kind
  inp := H.inp
def TouchR (ty : TTy) (ρ : Rho) (E : Nat → Prop) (op : Op) : Prop := match kd ty op with
  | .p => True
  | .a => True
  | .r x => ∀ u, evR ρ x = some u → ∀ b, blkOf u = .ok b → ¬ E b
  | .w _ => ∀ b, ¬ E b
  | .q => ∀ b, ¬ E b
theorem Eff.cut {T : Nat → Prop} {φ ψ : Phi} {h h' : Hp} {w w' : World} (ev : Eff T φ h w ψ h' w') (hd : ∀ i p, φ i = some p → i < h.next) : Eff (fun c => T c ∧ c < h.next) φ h w ψ h' w' where
  le := ev.le
  new := ev.new
  next := ev.next
  size := ev.size
  tape := ev.tape
  os := ev.os
  output := ev.output
  frame := fun k hk hf => ev.frame k hk fun i p e hn ht hl => hf i p e hn ⟨ht, hd i p e⟩ hl
  back := fun i p e hl hp => by
    obtain ⟨j, q, e1, e2, e3, e5, e4⟩ := ev.back i p e hl hp
    exact ⟨j, q, e1, e2, e3, e5, e4.imp id fun ht => ⟨ht, hd j q e1⟩⟩
  kept := fun i hi ho => ev.kept i hi fun ht => ho ⟨ht, hi⟩
  shape := ev.shape
  only := ev.only
  all := ev.all
theorem Eff.refl (φ : Phi) (h : Hp) (w : World) : Eff (fun _ => False) φ h w φ h w where
  le := .refl φ
  new := fun _ _ e => .inl e
  next := Nat.le_refl _
  size := Nat.le_refl _
  tape := rfl
  os := rfl
  output := rfl
  frame := fun _ _ _ => rfl
  back := fun i p e hl _ => ⟨i, p, e, hl, rfl, rfl, .inl rfl⟩
  kept := fun _ _ _ => rfl
  shape := fun _ _ => .refl _
  only := fun _ _ _ => rfl
  all := fun _ h1 h2 => absurd h2 (Nat.not_lt.2 h1)
def Tame (ty : TTy) (o : Oper) (ah : Ahead) : Prop := (kd ty o.op = .p ∨ ∃ x, kd ty o.op = .r x) ∨ (ah ≠ .plain ∧ ∀ old x xs, ah ≠ .chk old x xs)
structure Core (P : Program) (ty : TTy) (o : Oper) (ah : Ahead) (ρ : Rho) (h h' : Hp) (v : Value) (T : Nat → Prop) : Prop where
  does : ∀ (φ : Phi) (E : Nat → Prop) (w : World) (a : Act), RelW ty φ E h w → (∀ x ∈ o.op.operands.toList, ∀ u, evR ρ x = some u → RelV φ u (a.eval x)) → TouchR ty ρ E o.op →
    ∀ (next : Act → World → Prop) (Q : Exit → Act → World → Prop), (∀ ψ v' w', RelV ψ v v' → RelW ty ψ E h' w' → Eff T φ h w ψ h' w' → Evo φ h w ψ h' w' → next (a.put o.dst v') w') → o.wp P a w next Q
  tame : Tame ty o ah → h'.low ≤ h.low ∧ h.high ≤ h'.high ∧ (∀ c, T c → h'.low ≤ c ∧ c ≤ h'.high) ∧ h'.mark = h.mark
  tlt : ∀ c, T c → c < h.next
  tp : (kd ty o.op = .p ∨ ∃ x, kd ty o.op = .r x) → (∀ c, ¬ T c) ∧ h' = h
  strong : ah = .quiet .strong → ∀ c, ¬ T c
  weak : ah = .quiet .weak → ∀ c, T c → h.mark ≤ c
  wr : ∀ x xs, ah = .wr x xs → ∀ c, T c → ∃ u, evR ρ x = some u ∧ blkOf u = .ok c
structure Side (ah : Ahead) (ρ : Rho) (h : Hp) : Prop where
  wrx : ∀ x xs, ah = .wr x xs → ∀ y ∈ xs, ∀ u u' b, evR ρ x = some u → evR ρ y = some u' → blkOf u = .ok b → blkOf u' ≠ .ok b
  chk : ∀ old x xs, ah = .chk old x xs → ∀ y ∈ xs, ∀ u u' b, evR ρ x = some u → evR ρ y = some u' → blkOf u = .ok b → blkOf u' ≠ .ok b
  old : ∀ x xs, ah = .chk true x xs → ∀ u b, evR ρ x = some u → blkOf u = .ok b → b < h.mark
  known : ∀ x xs, (ah = .wr x xs ∨ ∃ old, ah = .chk old x xs) → (∃ u, evR ρ x = some u) ∧ ∀ y ∈ xs, ∃ u, evR ρ y = some u
structure SF (P : Program) (ty : TTy) (ops : List Oper) (o : Oper) (ah : Ahead) (ρ ρ' : Rho) (h h' : Hp) (v : Value) (run : Bool) (T : Nat → Prop) : Prop where
  slot : ∀ t u, ρ' t = some u → if o.dst = some t then u = v else ρ t = some u
  grd : match o.guard with
    | none => run = true
    | some (g, want) => ∃ og d c, ops[g]? = some og ∧ og.dst = some d ∧ ρ d = some c ∧ ((∃ b, c = .bool b ∧ run = (want == b)) ∨ (∃ l, c = .tuple l ∧ run = false))
  side : kd ty o.op ≠ .p → Side ah ρ h
  core : (run = true ∧ Core P ty o ah ρ h h' v T) ∨ (run = false ∧ v = noRes ∧ h' = h ∧ ∀ c, ¬ T c)
section
variable {P : Program} {ty : TTy} {F : CallF}
theorem Iz (hT : CL P ty) (hF : CY P ty F) {A : List Nat} {σ : Sg} {e : Env} {o : Oper} {g g' : Hp} {v : Value} (hr : opC ty ⟨A, σ⟩ o.op F e g = .ok v g') (φ : Phi) (E : Nat → Prop) (w : World) (a : Act) (H : RelW ty φ E g w)
    (hn : ∀ x ∈ o.op.operands.toList, ∀ u, evR (rhoOf A σ e) x = some u → RelV φ u (a.eval x)) (ht : TouchR ty (rhoOf A σ e) E o.op) : DR P ty φ E g v g' o a w := by
  refine bE hT hF H (f := ⟨A, σ⟩) (e := e) (F := F) (fun x hx y hy => hn x hx _ (EP hy e)) ?_ hr
  unfold FX
  unfold TouchR at ht
  cases hk : kd ty o.op with
  | p => trivial
  | a => trivial
  | r x => rw [hk] at ht; exact fun y hy b hb => ht _ (EP hy e) b hb
  | w x => rw [hk] at ht; exact ht
  | q => rw [hk] at ht; exact ht
def HI (h : Hp) : Hp := { next := h.next, low := h.next, high := 0, mark := h.mark, bl := h.bl }
theorem Iv (hT : CL P ty) (hF : CY P ty F) {A : List Nat} {σ : Sg} {e : Env} {o : Oper} {ah : Ahead} (hah : ah = .plain ∨ ∃ old x xs, ah = .chk old x xs) {h h' : Hp} {v : Value} (hr : opC ty ⟨A, σ⟩ o.op F e h = .ok v h') : ∃ T, Core P ty o ah (rhoOf A σ e) h h' v T := by
  have hns : ah ≠ .quiet .strong := by rcases hah with rfl | ⟨_, _, _, rfl⟩ <;> exact fun h => by cases h
  have hnw : ah ≠ .quiet .weak := by rcases hah with rfl | ⟨_, _, _, rfl⟩ <;> exact fun h => by cases h
  have hnr : ∀ x xs, ah ≠ .wr x xs := by rcases hah with rfl | ⟨_, _, _, rfl⟩ <;> exact fun _ _ h => by cases h
  have hnm : ¬ (ah ≠ .plain ∧ ∀ old x xs, ah ≠ .chk old x xs) := by
    rcases hah with rfl | ⟨_, _, _, rfl⟩
    · exact fun h => h.1 rfl
    · exact fun h => h.2 _ _ _ rfl
  by_cases hk : kd ty o.op = .p ∨ ∃ x, kd ty o.op = .r x
  · have K := bD (ty := ty) (f := ⟨A, σ⟩) hk F e
    have hh := K.same hr
    have hr2 := K.at hr (HI h) rfl
    subst hh
    refine ⟨fun _ => False, { does := fun φ E w a H hn ht next Q hnx => ?_, tame := fun _ => ⟨Nat.le_refl _, Nat.le_refl _, fun _ h => h.elim, rfl⟩, tlt := fun _ h => h.elim, tp := fun _ => ⟨fun _ h => h, rfl⟩, strong := fun h => absurd h hns, weak := fun h => absurd h hnw, wr := fun _ _ h => absurd h (hnr _ _) }⟩
    have key : ∀ ψ v' w', RelV ψ v v' → RelW ty ψ E (HI h') w' → Evo φ (HI h') w ψ (HI h') w' → Eff (fun _ => False) φ h' w ψ h' w' := ?_
    · exact Iz hT hF hr2 φ E w a (H.of_bl rfl rfl) hn ht next Q fun ψ v' w' hv H' ev => hnx ψ v' w' hv (H'.of_bl rfl rfl) (key ψ v' w' hv H' ev) ((key ψ v' w' hv H' ev).evo (fun _ h => h.elim) (Nat.le_refl _) (Nat.le_refl _))
    intro ψ v' w' hv H' ev
    have e1 : Eff (fun c => h'.next ≤ c ∧ c ≤ 0) φ h' w ψ h' w' := ev.eff.of_bl rfl rfl rfl rfl
    have hd : ∀ i p, φ i = some p → i < h'.next := fun i p e => (H.dom i p e).1
    have e2 := e1.cut hd
    exact { e2 with
      frame := fun k hk hf => e2.frame k hk fun i p e hn ht => by omega
      back := fun i p e hl hp => by
        obtain ⟨j, q, e1, e2, e3, e5, e4⟩ := e2.back i p e hl hp
        exact ⟨j, q, e1, e2, e3, e5, e4.imp id fun ht => by omega⟩
      kept := fun i hi _ => e2.kept i hi fun ht => by omega }
  · refine ⟨fun c => (h'.low ≤ c ∧ c ≤ h'.high) ∧ c < h.next, { does := fun φ E w a H hn ht next Q hnx => ?_, tame := fun h => absurd h (fun h => h.elim hk hnm), tlt := fun _ h => h.2, tp := fun h => absurd h hk, strong := fun h => absurd h hns, weak := fun h => absurd h hnw, wr := fun _ _ h => absurd h (hnr _ _) }⟩
    exact Iz hT hF hr φ E w a H hn ht next Q fun ψ v' w' hv H' ev => hnx ψ v' w' hv H' (ev.eff.cut fun i p e => (H.dom i p e).1) ev
theorem Gq (hT : CL P ty) (hF : CY P ty F) {A : List Nat} {σ : Sg} {e : Env} {o : Oper} {ah : Ahead} {h h' g' : Hp} {v : Value} (hr : opC ty ⟨A, σ⟩ o.op F e (HI h) = .ok v g')
    (h1 : h'.bl = g'.bl) (h2 : h'.next = g'.next) (h3 : h'.low = min h.low g'.low) (h4 : h'.high = max h.high g'.high) (h5 : h'.mark = h.mark)
    (hs : ah = .quiet .strong → h.next ≤ g'.low) (hw : ah = .quiet .weak → h.mark ≤ g'.low)
    (hx : ∀ x xs, ah = .wr x xs → ∀ c, g'.low ≤ c → c ≤ g'.high → c < h.next → ∃ u, evR (rhoOf A σ e) x = some u ∧ blkOf u = .ok c) (hnk : ¬ (kd ty o.op = .p ∨ ∃ x, kd ty o.op = .r x)) : ∃ T, Core P ty o ah (rhoOf A σ e) h h' v T := by
  refine ⟨fun c => (g'.low ≤ c ∧ c ≤ g'.high) ∧ c < h.next, { does := fun φ E w a H hn ht next Q hnx => ?_, tame := fun _ => ⟨by omega, by omega, fun c h => by omega, h5⟩, tlt := fun _ h => h.2, tp := fun h => absurd h hnk, strong := fun h c hc => ?_, weak := fun h c hc => ?_, wr := fun x xs h c hc => hx x xs h c hc.1.1 hc.1.2 hc.2 }⟩
  · refine Iz hT hF hr φ E w a (H.of_bl rfl rfl) hn ht next Q fun ψ v' w' hv H' ev => ?_
    have e1 : Eff (fun c => g'.low ≤ c ∧ c ≤ g'.high) φ h w ψ h' w' := ev.eff.of_bl rfl rfl h1 h2
    exact hnx ψ v' w' hv (H'.of_bl h1 h2) (e1.cut fun i p e => (H.dom i p e).1) (e1.evo (fun c h => by omega) (by omega) (by omega))
  · have := hs h; omega
  · have := hw h; omega
end
end
end Go.Proofs.YtfeldadhbnmklaaGreat
set_option linter.unusedSimpArgs false
set_option linter.unusedVariables false
namespace Go.Proofs.YtfeldadhbnmklaaGreat
noncomputable section
open Go
section
variable {P : Program} {ty : TTy} {F : CallF}
structure AhOk (ty : TTy) (o : Oper) (ah : Ahead) : Prop where
  quiet : ∀ m, ah = .quiet m → ¬ (kd ty o.op = .p ∨ ∃ x, kd ty o.op = .r x)
  wr : ∀ x xs, ah = .wr x xs → kd ty o.op = .w x
  chk : ∀ old x xs, ah = .chk old x xs → kd ty o.op = .r x
theorem AhOk.plain (ty : TTy) (o : Oper) : AhOk ty o .plain := ⟨(fun _ h => by cases h), (fun _ _ h => by cases h), (fun _ _ _ h => by cases h)⟩
theorem Ha {b : Nat} {e : Env} : ∀ {rs : List (Env → Value)}, DS b e rs = true → ∀ g ∈ rs, blkOf (g e) ≠ .ok b
  | [], _, g, hg => by cases hg
  | x :: l, h, g, hg => by
    unfold DS at h
    cases hb : blkOf (x e) with
    | no =>
      rw [hb] at h
      rcases List.mem_cons.1 hg with rfl | hg
      · rw [hb]; exact fun h => by cases h
      · exact Ha h g hg
    | ok a =>
      rw [hb] at h
      simp only at h
      cases hq : Nat.beq a b with
      | true => rw [hq] at h; cases h
      | false =>
        rw [hq] at h
        rcases List.mem_cons.1 hg with rfl | hg
        · rw [hb]; exact fun h => by cases h; exact Dt hq rfl
        · exact Ha h g hg
theorem O2 {w : Env → Value} {rs : List (Env → Value)} {k : C} {e : Env} {h : Hp} {X : X} (hr : B7 w rs k F e h = X) (hn : X ≠ .no) : k F e h = X ∧ ∀ b, blkOf (w e) = .ok b → ∀ g ∈ rs, blkOf (g e) ≠ .ok b := by
  unfold B7 at hr
  cases hb : blkOf (w e) with
  | no => rw [hb] at hr; exact ⟨hr, fun b h => by cases h⟩
  | ok b =>
    rw [hb] at hr
    simp only at hr
    cases hc : DS b e rs with
    | false => rw [hc] at hr; exact absurd hr.symm hn
    | true => rw [hc] at hr; exact ⟨hr, fun b' h => by cases h; exact Ha hc⟩
theorem VG {x : O} {k : C} {e : Env} {h : Hp} {X : X} (hr : Cn x k F e h = X) (hn : X ≠ .no) : k F e h = X ∧ ∀ b, blkOf (x e) = .ok b → b < h.mark := by
  unfold Cn at hr
  cases hb : blkOf (x e) with
  | no => rw [hb] at hr; exact ⟨hr, fun b h => by cases h⟩
  | ok b =>
    rw [hb] at hr
    simp only at hr
    cases hc : Nat.blt b h.mark with
    | false => rw [hc] at hr; exact absurd hr.symm hn
    | true => rw [hc] at hr; exact ⟨hr, fun b' h => by cases h; exact A3.1 hc⟩
theorem Gm {f : Fr} : ∀ {l : List Operand} {ys : List O}, cOs f l = some ys → ∀ x ∈ l, ∃ y, cO f x = some y ∧ y ∈ ys
  | [], ys, h, x, hx => by cases hx
  | z :: l, ys, h, x, hx => by
    unfold cOs at h
    split at h
    · rename_i y hy
      split at h
      · rename_i r hr
        cases h
        rcases List.mem_cons.1 hx with rfl | hx
        · exact ⟨y, hy, List.mem_cons_self⟩
        · obtain ⟨y', h1, h2⟩ := Gm hr x hx
          exact ⟨y', h1, List.mem_cons_of_mem _ h2⟩
      · cases h
    · cases h
theorem Lp {h g' h' : Hp} {v u : Value} (hr : D0 h v g' = .ok u h') : u = v ∧ h'.bl = g'.bl ∧ h'.next = g'.next ∧ h'.low = min h.low g'.low ∧ h'.high = max h.high g'.high ∧ h'.mark = h.mark := by
  unfold D0 at hr
  rw [Ao, Ao, BU, CI] at hr
  cases hr
  exact ⟨rfl, rfl, rfl, rfl, rfl, rfl⟩
theorem Side.none {ah : Ahead} {ρ : Rho} {h : Hp} (h1 : ∀ x xs, ah ≠ .wr x xs) (h2 : ∀ old x xs, ah ≠ .chk old x xs) : Side ah ρ h where
  wrx := fun x xs e => absurd e (h1 x xs)
  chk := fun old x xs e => absurd e (h2 old x xs)
  old := fun x xs e => absurd e (h2 true x xs)
  known := fun x xs e => by
    rcases e with e | ⟨old, e⟩
    · exact absurd e (h1 x xs)
    · exact absurd e (h2 old x xs)
theorem Ii (hT : CL P ty) (hF : CY P ty F) {A : List Nat} {σ : Sg} {e : Env} {h : Hp} {o : Oper} {ah : Ahead} (hA : AhOk ty o ah) {kc : OpF → C} {X : X} (hr : FY ⟨A, σ⟩ ah (opC ty ⟨A, σ⟩ o.op) kc F e h = X) (hn : X ≠ .no) :
    ∃ p, kc p F e h = X ∧ (∀ v h', p F e h = .ok v h' → ∃ T, Core P ty o ah (rhoOf A σ e) h h' v T) ∧ Side ah (rhoOf A σ e) h := by
  cases ah with
  | plain => exact ⟨_, hr, fun v h' hp => Iv hT hF (.inl rfl) hp, .none (fun _ _ h => by cases h) (fun _ _ _ h => by cases h)⟩
  | quiet m =>
    refine ⟨_, hr, fun v h' hp => ?_, .none (fun _ _ h => by cases h) (fun _ _ _ h => by cases h)⟩
    have hk := hA.quiet m rfl
    unfold AS at hp
    have hp : (match opC ty ⟨A, σ⟩ o.op F e (HI h) with | .ok v h' => bif qOk m h h'.low then D0 h v h' else .no | .no => .no) = .ok v h' := hp
    cases hq : opC ty ⟨A, σ⟩ o.op F e (HI h) with
    | no => rw [hq] at hp; cases hp
    | ok u g' =>
      rw [hq] at hp
      obtain ⟨hc, hp⟩ := BM hp
      obtain ⟨rfl, h1, h2, h3, h4, h5⟩ := Lp hp
      refine Gq hT hF hq h1 h2 h3 h4 h5 (fun e => ?_) (fun e => ?_) (fun _ _ e => by cases e) hk
      · cases e; exact Ap.1 hc
      · cases e; exact Ap.1 hc
  | wr x xs =>
    have hk := hA.wr x xs rfl
    unfold FY at hr
    simp only at hr
    cases h1 : cO ⟨A, σ⟩ x with
    | none => simp only [h1] at hr; exact absurd hr.symm hn
    | some x' =>
      cases h2 : cOs ⟨A, σ⟩ xs with
      | none => simp only [h1, h2] at hr; exact absurd hr.symm hn
      | some xs' =>
        simp only [h1, h2] at hr
        obtain ⟨hr, hap⟩ := O2 hr hn
        refine ⟨_, hr, fun v h' hp => ?_, ?_⟩
        · unfold Hm at hp
          have hp : (match opC ty ⟨A, σ⟩ o.op F e (HI h) with | .ok v h' => bif P3 (blkOf (x' e)) h h'.low h'.high then D0 h v h' else .no | .no => .no) = .ok v h' := hp
          cases hq : opC ty ⟨A, σ⟩ o.op F e (HI h) with
          | no => rw [hq] at hp; cases hp
          | ok u g' =>
            rw [hq] at hp
            obtain ⟨hc, hp⟩ := BM hp
            obtain ⟨rfl, q1, q2, q3, q4, q5⟩ := Lp hp
            refine Gq hT hF hq q1 q2 q3 q4 q5 (fun e => by cases e) (fun e => by cases e) (fun y ys he c c1 c2 c3 => ?_) (by rw [hk]; rintro (h | ⟨_, h⟩) <;> cases h)
            cases he
            refine ⟨x' e, EP h1 e, ?_⟩
            unfold P3 at hc
            cases hb : blkOf (x' e) with
            | no => rw [hb] at hc; have hc := Ap.1 hc; omega
            | ok b =>
              rw [hb] at hc
              simp only at hc
              cases hb1 : Nat.ble b g'.low with
              | false => rw [hb1] at hc; cases hc
              | true =>
                rw [hb1] at hc
                have c4 := Ap.1 hb1
                have c5 := Ap.1 hc
                congr 1; omega
        · refine { wrx := fun y ys he z hz u u' b hu hu' hb => ?_, chk := fun _ _ _ h => (by cases h), old := fun _ _ h => (by cases h), known := fun y ys he => ?_ }
          · cases he
            obtain ⟨z', hz1, hz2⟩ := Gm h2 z hz
            rw [EP h1 e] at hu; cases hu
            rw [EP hz1 e] at hu'; cases hu'
            exact hap b hb z' hz2
          · rcases he with he | ⟨_, he⟩
            · cases he
              exact ⟨⟨_, EP h1 e⟩, fun z hz => by obtain ⟨z', hz1, _⟩ := Gm h2 z hz; exact ⟨_, EP hz1 e⟩⟩
            · cases he
  | chk old x xs =>
    unfold FY at hr
    simp only at hr
    cases h1 : cO ⟨A, σ⟩ x with
    | none => simp only [h1] at hr; exact absurd hr.symm hn
    | some x' =>
      cases h2 : cOs ⟨A, σ⟩ xs with
      | none => simp only [h1, h2] at hr; exact absurd hr.symm hn
      | some xs' =>
        simp only [h1, h2] at hr
        have hold : B7 x' xs' (kc (opC ty ⟨A, σ⟩ o.op)) F e h = X ∧ (old = true → ∀ b, blkOf (x' e) = .ok b → b < h.mark) := by
          cases old with
          | true => obtain ⟨q1, q2⟩ := VG hr hn; exact ⟨q1, fun _ => q2⟩
          | false => exact ⟨hr, fun h => by cases h⟩
        obtain ⟨hr, hap⟩ := O2 hold.1 hn
        refine ⟨_, hr, fun v h' hp => Iv hT hF (.inr ⟨_, _, _, rfl⟩) hp, ?_⟩
        refine { wrx := fun _ _ h => (by cases h), chk := fun _ y ys he z hz u u' b hu hu' hb => ?_, old := fun y ys he u b hu hb => ?_, known := fun y ys he => ?_ }
        · cases he
          obtain ⟨z', hz1, hz2⟩ := Gm h2 z hz
          rw [EP h1 e] at hu; cases hu
          rw [EP hz1 e] at hu'; cases hu'
          exact hap b hb z' hz2
        · cases he
          rw [EP h1 e] at hu; cases hu
          exact hold.2 rfl b hb
        · rcases he with he | ⟨_, he⟩
          · cases he
          · cases he
            exact ⟨⟨_, EP h1 e⟩, fun z hz => by obtain ⟨z', hz1, _⟩ := Gm h2 z hz; exact ⟨_, EP hz1 e⟩⟩
structure Tr (P : Program) (ty : TTy) (all : List Oper) (ahs : List Ahead) (l : List Oper) (ρ : Nat → Rho) (H : Nat → Hp) (V : Nat → Value) (run : Nat → Bool) (T : Nat → Nat → Prop) : Prop where
  sf : ∀ j o, l[j]? = some o → SF P ty all o (ahs.getD j .plain) (ρ j) (ρ (j + 1)) (H j) (H (j + 1)) (V j) (run j) (T j)
def Lu {α : Type} (x : α) (f : Nat → α) : Nat → α
  | 0 => x
  | j + 1 => f j
theorem Tr.cons {all : List Oper} {ahs : List Ahead} {o : Oper} {l : List Oper} {ρ : Nat → Rho} {H : Nat → Hp} {V : Nat → Value} {run : Nat → Bool} {T : Nat → Nat → Prop} (t : Tr P ty all ahs.tail l ρ H V run T)
    {ρ0 : Rho} {h0 : Hp} {v0 : Value} {r0 : Bool} {T0 : Nat → Prop} (s : SF P ty all o (ahs.headD .plain) ρ0 (ρ 0) h0 (H 0) v0 r0 T0) : Tr P ty all ahs (o :: l) (Lu ρ0 ρ) (Lu h0 H) (Lu v0 V) (Lu r0 run) (Lu T0 T) where
  sf := fun j o' hj => by
    cases j with
    | zero =>
      cases hj
      have : ahs.getD 0 .plain = ahs.headD .plain := by cases ahs <;> rfl
      rw [this]; exact s
    | succ j =>
      have : ahs.getD (j + 1) .plain = ahs.tail.getD j .plain := by cases ahs <;> rfl
      rw [this]; exact t.sf j o' hj
theorem Jj {A : List Nat} {σ : Sg} {e : Env} (hS : SgOk A σ) {d : Nat} (hd : memN d A = false) (hlt : d < 320) (v : Value) {o : Oper} (ho : o.dst = some d) (t : Nat) (u : Value)
    (h : rhoOf A (ET d σ) (Env.set d v e) t = some u) : if o.dst = some t then u = v else rhoOf A σ e t = some u := by
  have := Wz hS hd hlt v h
  rw [ho]
  by_cases ht : t = d
  · rw [if_pos ht] at this; rw [if_pos (by rw [ht])]; exact this
  · rw [if_neg ht] at this; rw [if_neg (fun e => ht (Option.some.inj e).symm)]; exact this
theorem LP (hT : CL P ty) (hF : CY P ty F) {A : List Nat} {all : List Oper} {k : Sg → C} : ∀ (l : List Oper) (ahs : List Ahead) (σ : Sg) (e : Env) (h : Hp) (X : X), (∀ j o, l[j]? = some o → AhOk ty o (ahs.getD j .plain)) → SgOk A σ →
    FG ty A all k ahs l σ F e h = X → X ≠ .no →
    ∃ (ρ : Nat → Rho) (H : Nat → Hp) (V : Nat → Value) (run : Nat → Bool) (T : Nat → Nat → Prop) (σ' : Sg) (e' : Env), Tr P ty all ahs l ρ H V run T ∧ ρ 0 = rhoOf A σ e ∧ H 0 = h ∧ ρ l.length = rhoOf A σ' e' ∧ SgOk A σ' ∧ k σ' F e' (H l.length) = X
  | [], ahs, σ, e, h, X, _, hS, hr, _ => by
    refine ⟨fun _ => rhoOf A σ e, fun _ => h, fun _ => noRes, fun _ => true, fun _ _ => False, σ, e, ⟨fun j o hj => by cases hj⟩, rfl, rfl, rfl, hS, ?_⟩
    unfold FG at hr; exact hr
  | o :: l, ahs, σ, e, h, X, hA, hS, hr, hn => by
    have hA0 : AhOk ty o (ahs.headD .plain) := by
      have := hA 0 o rfl
      cases ahs <;> exact this
    have hA1 : ∀ j o', l[j]? = some o' → AhOk ty o' (ahs.tail.getD j .plain) := fun j o' hj => by
      have := hA (j + 1) o' hj
      cases ahs <;> exact this
    have fin : ∀ {σ1 : Sg} {e1 : Env} {h1 : Hp} {v : Value} {r : Bool} {T0 : Nat → Prop}, SgOk A σ1 → FG ty A all k ahs.tail l σ1 F e1 h1 = X →
        SF P ty all o (ahs.headD .plain) (rhoOf A σ e) (rhoOf A σ1 e1) h h1 v r T0 →
        ∃ (ρ : Nat → Rho) (H : Nat → Hp) (V : Nat → Value) (run : Nat → Bool) (T : Nat → Nat → Prop) (σ' : Sg) (e' : Env), Tr P ty all ahs (o :: l) ρ H V run T ∧ ρ 0 = rhoOf A σ e ∧ H 0 = h ∧ ρ (o :: l).length = rhoOf A σ' e' ∧ SgOk A σ' ∧ k σ' F e' (H (o :: l).length) = X := by
      intro σ1 e1 h1 v r T0 hS1 hr1 sf
      obtain ⟨ρ, H, V, run, T, σ', e', t, q1, q2, q3, q4, q5⟩ := LP hT hF l ahs.tail σ1 e1 h1 X hA1 hS1 hr1 hn
      exact ⟨_, _, _, _, _, σ', e', t.cons (by rw [q1, q2]; exact sf), rfl, rfl, q3, q4, q5⟩
    unfold FG at hr
    cases hg : o.guard with
    | none =>
      cases hd : o.dst with
      | none =>
        simp only [hg, hd] at hr
        obtain ⟨p, hp, hcore, hside⟩ := Ii hT hF hA0 hr hn
        unfold cDo at hp
        cases hq : p F e h with
        | no => rw [hq] at hp; exact absurd hp.symm hn
        | ok v h1 =>
          rw [hq] at hp
          obtain ⟨T0, core⟩ := hcore v h1 hq
          exact fin hS hp { slot := fun t u ht => (by rw [hd, if_neg (by intro h; cases h)]; exact ht), grd := (by rw [hg]), side := fun _ => hside, core := .inl ⟨rfl, core⟩ }
      | some d =>
        simp only [hg, hd] at hr
        cases hm : memN d A with
        | true =>
          simp only [hm] at hr
          cases hop : o.op with
          | move x =>
            simp only [hop] at hr
            cases hs : LU A σ x with
            | none => simp only [hs] at hr; exact absurd hr.symm hn
            | some s =>
              simp only [hs] at hr
              have hlt : ∀ n, s = .s n → n < 320 := by
                intro n hn
                subst hn
                cases x with
                | tmp t =>
                  have hs : (match Cj t σ with | some s => some s | none => match memN t A with | true => none | false => match Nat.blt t 320 with | true => some (Src.s t) | false => none) = some (.s n) := hs
                  cases hf : Cj t σ with
                  | some s' =>
                    rw [hf] at hs; cases hs
                    exact hS.lt _ (DU hf) n rfl
                  | none =>
                    rw [hf] at hs
                    simp only at hs
                    cases hm2 : memN t A with
                    | true => rw [hm2] at hs; cases hs
                    | false =>
                      rw [hm2] at hs
                      simp only at hs
                      cases hb : Nat.blt t 320 with
                      | false => rw [hb] at hs; cases hs
                      | true => rw [hb] at hs; cases hs; exact A3.1 hb
                | const v =>
                  have hs : (match D8 v with | true => some (Src.c v) | false => none) = some (.s n) := hs
                  cases hp : D8 v <;> rw [hp] at hs <;> cases hs
                | func g => cases hs
                | global g => cases hs
              have hkp : kd ty o.op = .p := by rw [hop]; rfl
              refine fin (hS.alias hm hlt) hr (v := IK s e) (r := true) (T0 := fun _ => False) { slot := fun t u ht => ?_, grd := (by rw [hg]), side := fun h => absurd hkp h, core := .inl ⟨rfl, ?_⟩ }
              · have := Qs hS hm s ht
                rw [hd]
                by_cases htd : t = d
                · rw [if_pos htd] at this; rw [if_pos (by rw [htd])]; exact this
                · rw [if_neg htd] at this; rw [if_neg (fun e => htd (Option.some.inj e).symm)]; exact this
              · refine { does := fun φ E w a H hn ht next Q hnx => ?_, tame := fun _ => ⟨Nat.le_refl _, Nat.le_refl _, fun _ h => h.elim, rfl⟩, tlt := fun _ h => h.elim, tp := fun _ => ⟨fun _ h => h, rfl⟩, strong := fun _ _ h => h, weak := fun _ _ h => h.elim, wr := fun _ _ _ _ h => h.elim }
                have hv := hn x (by rw [hop]; simp [Op.operands]) _ (Tg hs e)
                have hx : execOp a.eval o = (do pure (.value (← (pure (a.eval x) : Sem Value)))) := by unfold execOp; rw [hop]; rfl
                unfold Oper.wp
                rw [hx, Sem.run_bind, Sem.run_pure, Result.andThen_ok, Sem.run_pure, Oper.upon_value]
                exact hnx φ _ w hv H (.refl _ _ _) (.refl _ _ _)
          | _ => simp only [hop] at hr; exact absurd hr.symm hn
        | false =>
          simp only [hm] at hr
          cases hb : Nat.blt d 320 with
          | false => simp only [hb] at hr; exact absurd hr.symm hn
          | true =>
            simp only [hb] at hr
            have hlt := A3.1 hb
            obtain ⟨p, hp, hcore, hside⟩ := Ii hT hF hA0 hr hn
            unfold cOp at hp
            cases hq : p F e h with
            | no => rw [hq] at hp; exact absurd hp.symm hn
            | ok v h1 =>
              rw [hq] at hp
              simp only at hp
              rw [C1 d hlt] at hp
              obtain ⟨T0, core⟩ := hcore v h1 hq
              exact fin (hS.sub DT.1) hp { slot := Jj hS hm hlt v hd, grd := (by rw [hg]), side := fun _ => hside, core := .inl ⟨rfl, core⟩ }
    | some gw =>
      obtain ⟨g, want⟩ := gw
      cases hd : o.dst with
      | none => simp only [hg, hd] at hr; exact absurd hr.symm hn
      | some d =>
        simp only [hg, hd] at hr
        cases hm : memN d A with
        | true => simp only [hm] at hr; exact absurd hr.symm hn
        | false =>
          simp only [hm] at hr
          rw [Ej] at hr
          cases hog : all[g]? with
          | none => rw [hog] at hr; exact absurd hr.symm hn
          | some og =>
            rw [hog] at hr
            simp only at hr
            cases hgd : og.dst with
            | none => simp only [hgd] at hr; exact absurd hr.symm hn
            | some dg =>
              simp only [hgd] at hr
              cases hcg : cO ⟨A, σ⟩ (.tmp dg) with
              | none => simp only [hcg] at hr; exact absurd hr.symm hn
              | some gg =>
                simp only [hcg] at hr
                cases hb : Nat.blt d 320 with
                | false => simp only [hb] at hr; exact absurd hr.symm hn
                | true =>
                  simp only [hb] at hr
                  have hlt := A3.1 hb
                  obtain ⟨p, hp, hcore, hside⟩ := Ii hT hF hA0 hr hn
                  have hρ : rhoOf A σ e dg = some (gg e) := EP hcg e
                  unfold cG at hp
                  have not_run : AD d (fun e => FG ty A all k ahs.tail l (ET d σ) F e h) noRes e = X → (∀ r : Bool, r = false → (match o.guard with
                        | none => r = true
                        | some (g, want) => ∃ og d c, all[g]? = some og ∧ og.dst = some d ∧ rhoOf A σ e d = some c ∧ ((∃ b, c = .bool b ∧ r = (want == b)) ∨ (∃ l, c = .tuple l ∧ r = false)))) →
                      ∃ (ρ : Nat → Rho) (H : Nat → Hp) (V : Nat → Value) (run : Nat → Bool) (T : Nat → Nat → Prop) (σ' : Sg) (e' : Env), Tr P ty all ahs (o :: l) ρ H V run T ∧ ρ 0 = rhoOf A σ e ∧ H 0 = h ∧ ρ (o :: l).length = rhoOf A σ' e' ∧ SgOk A σ' ∧ k σ' F e' (H (o :: l).length) = X := by
                    intro hp hgrd
                    rw [C1 d hlt] at hp
                    exact fin (hS.sub DT.1) hp (v := noRes) (r := false) (T0 := fun _ => False) { slot := Jj hS hm hlt noRes hd, grd := hgrd false rfl, side := fun _ => hside, core := .inr ⟨rfl, rfl, rfl, fun _ h => h⟩ }
                  split at hp
                  · rename_i b hgb
                    cases hwb : want == b with
                    | true =>
                      rw [hwb] at hp
                      simp only [cond_true] at hp
                      unfold cOp at hp
                      cases hq : p F e h with
                      | no => rw [hq] at hp; exact absurd hp.symm hn
                      | ok v h1 =>
                        rw [hq] at hp
                        simp only at hp
                        rw [C1 d hlt] at hp
                        obtain ⟨T0, core⟩ := hcore v h1 hq
                        exact fin (hS.sub DT.1) hp (r := true) { slot := Jj hS hm hlt v hd, grd := (by rw [hg]; exact ⟨og, dg, _, hog, hgd, hρ, .inl ⟨b, hgb, hwb.symm⟩⟩), side := fun _ => hside, core := .inl ⟨rfl, core⟩ }
                    | false =>
                      rw [hwb] at hp
                      exact not_run hp fun r hr => by rw [hg]; exact ⟨og, dg, _, hog, hgd, hρ, .inl ⟨b, hgb, by rw [hr, hwb]⟩⟩
                  · rename_i ls hgb
                    exact not_run hp fun r hr => by rw [hg]; exact ⟨og, dg, _, hog, hgd, hρ, .inr ⟨ls, hgb, hr⟩⟩
                  · exact absurd hp.symm hn
end
end
end Go.Proofs.YtfeldadhbnmklaaGreat
set_option linter.unusedSimpArgs false
set_option linter.unusedVariables false
namespace Go.Proofs.YtfeldadhbnmklaaGreat
noncomputable section
open Go
abbrev nil : Nat → Prop := fun _ => False
structure AR (N : Nat) (φ : Phi) (ρ : Rho) (a : Act) : Prop where
  size : a.tmps.size = N
  defs : a.defers = []
  rel : ∀ t u, ρ t = some u → RelV φ u (a.tmps.getD t undef)
theorem AR.ev {N : Nat} {φ : Phi} {ρ : Rho} {a : Act} (h : AR N φ ρ a) {x : Operand} {u : Value} (hu : evR ρ x = some u) : RelV φ u (a.eval x) := by
  cases x with
  | tmp t => exact h.rel t u hu
  | const v =>
    have hu : (if D8 v then some v else none) = some u := hu
    split at hu
    · rename_i hp; cases hu; exact JZ hp
    · cases hu
  | func g => cases hu; exact .func _ .nil .nil
  | global g => cases hu
theorem AR.mono {N : Nat} {φ ψ : Phi} {ρ : Rho} {a : Act} (h : AR N φ ρ a) (hle : φ.Le ψ) : AR N ψ ρ a := ⟨h.size, h.defs, fun t u hu => (h.rel t u hu).mono hle⟩
theorem D9 (a : Act) (d : Option Nat) (v : Value) (t : Nat) : (a.put d v).tmps.getD t undef = if d = some t ∧ t < a.tmps.size then v else a.tmps.getD t undef := by
  cases d with
  | none => rw [if_neg (fun h => by cases h.1)]; rfl
  | some d =>
    show (a.tmps.setIfInBounds d v).getD t undef = _
    rw [Array.getD_eq_getD_getElem?, Array.getElem?_setIfInBounds, Array.getD_eq_getD_getElem?]
    by_cases h : d = t
    · subst h
      rw [if_pos rfl]
      by_cases h2 : d < a.tmps.size
      · rw [if_pos h2, if_pos ⟨rfl, h2⟩]; rfl
      · rw [if_neg h2, if_neg (fun h => h2 h.2), Array.getElem?_eq_none (by omega)]
    · rw [if_neg h, if_neg (fun h2 => h (Option.some.inj h2.1))]
theorem Ce (a : Act) (d : Option Nat) (v : Value) : (a.put d v).tmps.size = a.tmps.size := by
  cases d with
  | none => rfl
  | some d => show (a.tmps.setIfInBounds d v).size = _; simp
theorem C0 (a : Act) (d : Option Nat) (v : Value) : (a.put d v).defers = a.defers := by cases d <;> rfl
theorem AR.put {N : Nat} {φ ψ : Phi} {ρ ρ' : Rho} {a : Act} (h : AR N φ ρ a) (hle : φ.Le ψ) {d : Option Nat} (hd : ∀ t, d = some t → t < N) {v v' : Value} (hv : RelV ψ v v')
    (hs : ∀ t u, ρ' t = some u → if d = some t then u = v else ρ t = some u) : AR N ψ ρ' (a.put d v') where
  size := by rw [Ce]; exact h.size
  defs := by rw [C0]; exact h.defs
  rel := fun t u hu => by
    have := hs t u hu
    rw [D9]
    by_cases ht : d = some t
    · rw [if_pos ht] at this
      rw [if_pos ⟨ht, by rw [h.size]; exact hd t ht⟩, this]; exact hv
    · rw [if_neg ht] at this
      rw [if_neg (fun h => ht h.1)]
      exact (h.rel t u this).mono hle
theorem Kl {P : Program} {ty : TTy} {all : List Oper} {o : Oper} {ah : Ahead} {ρ ρ' : Rho} {h h' : Hp} {v : Value} {run : Bool} {T : Nat → Prop} (s : SF P ty all o ah ρ ρ' h h' v run T) {a : Act} {φ : Phi}
    (hr : ∀ g want og d u, o.guard = some (g, want) → all[g]? = some og → og.dst = some d → ρ d = some u → RelV φ u (a.tmps.getD d undef)) : Region.wanted o (yielded all.toArray a.tmps) = run := by
  have hg := s.grd
  unfold Region.wanted
  cases hgd : o.guard with
  | none => rw [hgd] at hg; exact hg.symm
  | some gw =>
    obtain ⟨g, want⟩ := gw
    rw [hgd] at hg
    obtain ⟨og, d, c, h1, h2, h3, h4⟩ := hg
    have hrel := hr g want og d c hgd h1 h2 h3
    simp only
    have hy : yielded all.toArray a.tmps g = match a.tmps[d]? with | some (.bool b) => some b | _ => none := by
      unfold yielded
      have : (all.toArray[g]?).bind (·.dst) = some d := by rw [List.getElem?_toArray, h1]; exact h2
      rw [this]; rfl
    rw [Array.getD_eq_getD_getElem?] at hrel
    rcases h4 with ⟨b, rfl, hrun⟩ | ⟨ls, rfl, hrun⟩
    · have hb := hrel.bool_inv
      cases hq : a.tmps[d]? with
      | none => rw [hq] at hb; cases hb
      | some x =>
        rw [hq] at hb
        have hb : x = .bool b := hb
        rw [hy, hq, hb, hrun]
        cases b <;> cases want <;> rfl
    · rw [hrun, hy]
      cases hq : a.tmps[d]? with
      | none => rfl
      | some x =>
        rw [hq] at hrel
        have hrel : RelV φ (.tuple ls) x := hrel
        cases hrel; rfl
structure Txt (P : Program) (ty : TTy) (N : Nat) (φ0 : Phi) (ρ : Nat → Rho) (H : Nat → Hp) (V : Nat → Value) (T : Nat → Nat → Prop) (n : Nat) : Prop where
  next : ∀ j, j < n → (H j).next ≤ (H (j + 1)).next
  shape : ∀ j, j < n → ∀ i, i < (H j).next → ShapeLe ((H j).bl.get i) ((H (j + 1)).bl.get i)
  kept : ∀ j, j < n → ∀ i, i < (H j).next → ¬ T j i → (H (j + 1)).bl.get i = (H j).bl.get i
  fresh : ∀ j, j ≤ n → ∀ i, (H j).next ≤ i → (H j).bl.get i = .dead
  well : ∀ j, j ≤ n → ∃ (ψ : Phi) (w : World) (a : Act), RelW ty ψ nil (H j) w ∧ AR N ψ (ρ j) a ∧ φ0.Le ψ ∧ ∀ i, (H 0).next ≤ i → i < (H j).next → ∃ p, ψ i = some p
section
variable {P : Program} {ty : TTy}
theorem Lc {N : Nat} {all : List Oper} {Q : Exit → Act → World → Prop} : ∀ (l : List Oper) {ahs : List Ahead} {ρ : Nat → Rho} {H : Nat → Hp} {V : Nat → Value} {run : Nat → Bool} {T : Nat → Nat → Prop} {a : Act} {w : World} {φ : Phi},
    Tr P ty all ahs l ρ H V run T → (∀ o ∈ l, ∀ d, o.dst = some d → d < N) → RelW ty φ nil (H 0) w → AR N φ (ρ 0) a →
    (Txt P ty N φ ρ H V T l.length → ∀ ψ a' w', RelW ty ψ nil (H l.length) w' → AR N ψ (ρ l.length) a' → Evo φ (H 0) w ψ (H l.length) w' → Q .normal a' w') → wpList P all.toArray Q l a w
  | [], ahs, ρ, H, V, run, T, a, w, φ, _, _, HW, HA, hq => by
    refine hq ?_ φ a w HW HA (.refl _ _ _)
    refine { next := fun j hj => absurd hj (Nat.not_lt_zero _), shape := fun j hj => absurd hj (Nat.not_lt_zero _), kept := fun j hj => absurd hj (Nat.not_lt_zero _), fresh := fun j hj i hi => ?_, well := fun j hj => ?_ }
    · have : j = 0 := Nat.le_zero.1 hj
      subst this; exact HW.fresh i hi
    · have : j = 0 := Nat.le_zero.1 hj
      subst this; exact ⟨φ, w, a, HW, HA, .refl _, fun i h1 h2 => absurd h2 (Nat.not_lt.2 h1)⟩
  | o :: l, ahs, ρ, H, V, run, T, a, w, φ, tr, hN, HW, HA, hq => by
    have s := tr.sf 0 o rfl
    have tr' : Tr P ty all ahs.tail l (fun j => ρ (j + 1)) (fun j => H (j + 1)) (fun j => V (j + 1)) (fun j => run (j + 1)) (fun j => T (j + 1)) :=
      ⟨fun j o' hj => by
        have := tr.sf (j + 1) o' hj
        have e : ahs.getD (j + 1) .plain = ahs.tail.getD j .plain := by cases ahs <;> rfl
        rw [e] at this; exact this⟩
    have hd : ∀ d, o.dst = some d → d < N := hN o List.mem_cons_self
    have rest : ∀ ψ v' w', RelV ψ (V 0) v' → RelW ty ψ nil (H 1) w' → Eff (T 0) φ (H 0) w ψ (H 1) w' → Evo φ (H 0) w ψ (H 1) w' → wpList P all.toArray Q l (a.put o.dst v') w' := by
      intro ψ v' w' hv HW' eff evo
      refine Lc l tr' (fun o ho => hN o (List.mem_cons_of_mem _ ho)) HW' (HA.put eff.le hd hv s.slot) fun txt ψ2 a2 w2 q1 q2 q3 => hq ?_ ψ2 a2 w2 q1 q2 (evo.trans q3)
      refine { next := fun j hj => ?_, shape := fun j hj => ?_, kept := fun j hj => ?_, fresh := fun j hj i hi => ?_, well := fun j hj => ?_ }
      · cases j with
        | zero => exact eff.next
        | succ j => exact txt.next j (by simpa using hj)
      · cases j with
        | zero => exact eff.shape
        | succ j => exact txt.shape j (by simpa using hj)
      · cases j with
        | zero => exact eff.kept
        | succ j => exact txt.kept j (by simpa using hj)
      · cases j with
        | zero => exact HW.fresh i hi
        | succ j => exact txt.fresh j (by simpa using hj) i hi
      · cases j with
        | zero => exact ⟨φ, w, a, HW, HA, .refl _, fun i h1 h2 => absurd h2 (Nat.not_lt.2 h1)⟩
        | succ j =>
          obtain ⟨χ, w3, a3, r1, r2, r3, r4⟩ := txt.well j (by simpa using hj)
          refine ⟨χ, w3, a3, r1, r2, eff.le.trans r3, fun i h1 h2 => ?_⟩
          rcases Nat.lt_or_ge i (H 1).next with h | h
          · obtain ⟨p, hp⟩ := eff.all i h1 h
            exact ⟨p, r3 i p hp⟩
          · exact r4 i h h2
    have hw := Kl s (a := a) (φ := φ) fun g want og d u _ _ _ hu => HA.rel d u hu
    unfold wpList
    rcases s.core with ⟨hrun, core⟩ | ⟨hrun, hv, hh, hT⟩
    · rw [hw, hrun, if_pos rfl]
      refine .inl (core.does φ nil w a HW (fun x _ u hu => HA.ev hu) ?_ _ _ fun ψ v' w' hv HW' eff evo => rest ψ v' w' hv HW' eff evo)
      unfold TouchR
      split <;> first | trivial | exact fun _ h => h | exact fun _ _ _ _ h => h
    · rw [hw, hrun, if_neg (by simp)]
      have hu : RelV φ (V 0) undef := by rw [hv]; exact .tuple .nil
      have e1 : Evo φ (H 0) w φ (H 1) w := by
        show Evo φ (H 0) w φ (H (0 + 1)) w
        rw [hh]; exact .refl _ _ _
      have e2 : Eff (T 0) φ (H 0) w φ (H 1) w := by
        show Eff (T 0) φ (H 0) w φ (H (0 + 1)) w
        rw [hh]
        exact { Eff.refl φ (H 0) w with frame := fun _ _ _ => rfl, back := fun i p e hl _ => ⟨i, p, e, hl, rfl, rfl, .inl rfl⟩, kept := fun _ _ _ => rfl }
      exact rest φ undef w hu (by show RelW ty φ nil (H (0 + 1)) w; rw [hh]; exact HW) e2 e1
end
end
end Go.Proofs.YtfeldadhbnmklaaGreat
set_option linter.unusedSimpArgs false
set_option linter.unusedVariables false
namespace Go.Proofs.YtfeldadhbnmklaaGreat
noncomputable section
open Go
section
variable {φ ψ χ : Phi}
theorem RelA.cut (hx : ∀ b p, φ b = some p → (∃ q, ψ b = some q) → χ b = some p) {a a' a'' : Addr} : RelA φ a a' → RelA ψ a a'' → RelA χ a a'
  | ⟨s, s', p, hp, r⟩, ⟨_, _, q, hq, _⟩ => ⟨s, s', p, hx _ _ hp ⟨q, hq⟩, r⟩
theorem RelS.cut (hx : ∀ b p, φ b = some p → (∃ q, ψ b = some q) → χ b = some p) {a a' a'' : Addr} {c c' c'' : Nat} : RelS φ a c a' c' → RelS ψ a c a'' c'' → RelS χ a c a' c'
  | ⟨s, s', p, hp, r⟩, ⟨_, _, q, hq, _⟩ => ⟨s, s', p, hx _ _ hp ⟨q, hq⟩, r⟩
mutual
theorem RelV.cut (hx : ∀ b p, φ b = some p → (∃ q, ψ b = some q) → χ b = some p) : ∀ {v v' v'' : Value}, RelV φ v v' → RelV ψ v v'' → RelV χ v v'
  | _, _, _, .bool b, _ => .bool b
  | _, _, _, .int k n, _ => .int k n
  | _, _, _, .string s, _ => .string s
  | _, _, _, .ptr0, _ => .ptr0
  | _, _, _, .ptr h, h2 => by cases h2 with | ptr h2 => exact .ptr (h.cut hx h2)
  | _, _, _, .slice0, _ => .slice0
  | _, _, _, .slice hn h, h2 => by cases h2 with | slice _ h2 => exact .slice hn (h.cut hx h2)
  | _, _, _, .map0, _ => .map0
  | _, _, _, .map h, h2 => by cases h2 with | map h2 => exact .map (hx _ _ h ⟨_, h2⟩)
  | _, _, _, .func fn h h', h2 => by cases h2 with | func _ h2 h2' => exact .func fn (RelL.cut hx h h2) (RelL.cut hx h' h2')
  | _, _, _, .nilFunc, _ => .nilFunc
  | _, _, _, .iface t h, h2 => by cases h2 with | iface _ h2 => exact .iface t (RelV.cut hx h h2)
  | _, _, _, .nilIface, _ => .nilIface
  | _, _, _, .agg h, h2 => by cases h2 with | agg h2 => exact .agg (RelL.cut hx h h2)
  | _, _, _, .tuple h, h2 => by cases h2 with | tuple h2 => exact .tuple (RelL.cut hx h h2)
  | _, _, _, .unk, _ => .unk
  | _, _, _, .slcE, _ => .slcE
theorem RelL.cut (hx : ∀ b p, φ b = some p → (∃ q, ψ b = some q) → χ b = some p) : ∀ {v v' v'' : List Value}, RelL φ v v' → RelL ψ v v'' → RelL χ v v'
  | _, _, _, .nil, _ => .nil
  | _, _, _, .cons h t, h2 => by cases h2 with | cons h2 t2 => exact .cons (RelV.cut hx h h2) (RelL.cut hx t t2)
end
theorem RelE.cut (hx : ∀ b p, φ b = some p → (∃ q, ψ b = some q) → χ b = some p) : ∀ {l : List Ent} {l' l'' : List MapEntry}, RelE φ l l' → RelE ψ l l'' → RelE χ l l'
  | _, _, _, .nil, _ => .nil
  | _, _, _, .cons hk hv t, h2 => by cases h2 with | cons hk2 hv2 t2 => exact .cons (hk.cut hx hk2) (hv.cut hx hv2) (RelE.cut hx t t2)
theorem RelB.cut {ty : TTy} (hx : ∀ b p, φ b = some p → (∃ q, ψ b = some q) → χ b = some p) {p p2 : Pl} {b : Blk} {o o2 : Option Obj} (h : RelB ty φ p b o) (h2 : RelB ty ψ p2 b o2) : RelB ty χ p b o := by
  cases h with
  | cells h => cases h2 with
    | cells h2 => exact .cells { h with cell := fun j hj => let ⟨v, e, r⟩ := h.cell j hj; let ⟨v2, _, r2⟩ := h2.cell j hj; ⟨v, e, r.cut hx r2⟩ }
  | map h => cases h2 with
    | map h2 => exact .map (h.cut hx h2)
  | iter0 h => exact .iter0 h
  | iter hp h => cases h2 with
    | iter _ h2 => exact .iter hp (hx _ _ h ⟨_, h2⟩)
  | cur hp h hl => cases h2 with
    | cur _ h2 _ => exact .cur hp (hx _ _ h ⟨_, h2⟩) hl
  | dead => exact .dead
end
structure Laws (ty : TTy) (all : List Oper) (ρ : Nat → Rho) (H : Nat → Hp) (T : Nat → Nat → Prop) (B : Nat → Nat → Prop) : Prop where
  lt : ∀ i j, B i j → i < j
  slots : ∀ i j oi oj d, i ≠ j → all[i]? = some oi → all[j]? = some oj → oi.dst = some d →
    (oj.dst = some d ∨ .tmp d ∈ oj.op.operands.toList ∨ ∃ g w og, oj.guard = some (g, w) ∧ all[g]? = some og ∧ og.dst = some d) → B i j ∨ B j i
  kinds : ∀ j oj c, all[j]? = some oj → T j c → (∃ x, kd ty oj.op = .w x) ∨ kd ty oj.op = .q
  fixed : ∀ i j oi c, i ≠ j → all[i]? = some oi → j < all.length → T j c → ((∃ x, kd ty oi.op = .w x) ∨ kd ty oi.op = .q) → B i j ∨ B j i
  reads : ∀ i j oi x c u, i ≠ j → all[i]? = some oi → j < all.length → T j c → kd ty oi.op = .r x → evR (ρ i) x = some u → blkOf u = .ok c → B i j ∨ B j i
  tlt : ∀ j c, j < all.length → T j c → c < (H j).next
  tout : ∀ j c, j < all.length → T j c → (H all.length).low ≤ c ∧ c ≤ (H all.length).high
  low : (H all.length).low ≤ (H 0).low
  high : (H 0).high ≤ (H all.length).high
structure Inv (ty : TTy) (N : Nat) (all : List Oper) (ρ : Nat → Rho) (H : Nat → Hp) (T : Nat → Nat → Prop) (φ0 : Phi) (w0 : World) (S : Nat → Prop) (φ : Phi) (C : Nat → Blk) (a : Act) (w : World) : Prop where
  dom : ∀ b p, φ b = some p → p.blk < w.heap.size ∧ (b < (H 0).next ∨ ∃ j, S j ∧ j < all.length ∧ (H j).next ≤ b ∧ b < (H (j + 1)).next)
  inj : ∀ b c p q, φ b = some p → φ c = some q → C b ≠ .dead → C c ≠ .dead → (p.inp = false ∨ q.inp = false) → p.blk = q.blk → b = c
  row : ∀ b p, φ b = some p → RelB ty φ p (C b) w.heap[p.blk]?
  kind : ∀ k, k ≤ all.length → ∀ b p c s e, φ b = some p → b < (H k).next → (H k).bl.get b = .cells c s e → Kind ty p s e
  inp : ∀ b p, φ b = some p → p.inp = true → b < 256
  link : ∀ k, k ≤ all.length → ∀ b p, φ b = some p → b < (H k).next → (∀ j, j < all.length → T j b → (j < k → S j) ∧ (k ≤ j → ¬ S j)) → C b = (H k).bl.get b
  chg : ∀ j, S j → j < all.length → ∀ b, b < (H j).next → (H (j + 1)).bl.get b ≠ (H j).bl.get b → ∃ p, φ b = some p
  full : ∀ j, S j → j < all.length → ∀ b, (H j).next ≤ b → b < (H (j + 1)).next → ∃ p, φ b = some p
  slot : ∀ k, k ≤ all.length → ∀ t u, (∀ j o, all[j]? = some o → o.dst = some t → (j < k → S j) ∧ (k ≤ j → ¬ S j)) → ρ k t = some u → RelV φ u (a.tmps.getD t undef)
  size : a.tmps.size = N
  defs : a.defers = []
  le : φ0.Le φ
  new : ∀ b p, φ b = some p → φ0 b = some p ∨ (H 0).next ≤ b
  sz : w0.heap.size ≤ w.heap.size
  tape : w.tape = w0.tape
  os : w.os = w0.os
  output : w.output = w0.output
  frame : ∀ k, k < w0.heap.size → (∀ c p, φ0 c = some p → p.inp = false → (H all.length).low ≤ c → c ≤ (H all.length).high → Live (H 0) c → p.blk ≠ k) → w.heap[k]? = w0.heap[k]?
  back : ∀ b p, φ b = some p → C b ≠ .dead → p.blk < w0.heap.size → ∃ c q, φ0 c = some q ∧ Live (H 0) c ∧ q.blk = p.blk ∧ q.inp = p.inp ∧ (c = b ∨ (H all.length).low ≤ c ∧ c ≤ (H all.length).high)
section
variable {P : Program} {ty : TTy} {N : Nat} {all : List Oper} {ρ : Nat → Rho} {H : Nat → Hp} {V : Nat → Value} {T : Nat → Nat → Prop} {φ0 : Phi} {w0 : World} {B : Nat → Nat → Prop}
theorem Txt.mono {φ : Phi} {n : Nat} (t : Txt P ty N φ ρ H V T n) {i : Nat} : ∀ {k : Nat}, i ≤ k → k ≤ n → (H i).next ≤ (H k).next := by
  intro k h hn
  induction k with
  | zero => have : i = 0 := Nat.le_zero.1 h; subst this; exact Nat.le_refl _
  | succ k ih =>
    rcases Nat.lt_or_ge k i with h2 | h2
    · have : i = k + 1 := by omega
      subst this; exact Nat.le_refl _
    · exact Nat.le_trans (ih h2 (by omega)) (t.next k (by omega))
theorem Txt.shapes {φ : Phi} {n : Nat} (t : Txt P ty N φ ρ H V T n) {i : Nat} {b : Nat} (hb : b < (H i).next) : ∀ {k : Nat}, i ≤ k → k ≤ n → ShapeLe ((H i).bl.get b) ((H k).bl.get b) := by
  intro k h hn
  induction k with
  | zero => have : i = 0 := Nat.le_zero.1 h; subst this; exact .refl _
  | succ k ih =>
    rcases Nat.lt_or_ge k i with h2 | h2
    · have : i = k + 1 := by omega
      subst this; exact .refl _
    · exact (ih h2 (by omega)).trans (t.shape k (by omega) b (Nat.lt_of_lt_of_le hb (t.mono h2 (by omega))))
theorem Txt.same {φ : Phi} {n : Nat} (t : Txt P ty N φ ρ H V T n) {i : Nat} {b : Nat} : ∀ {k : Nat}, i ≤ k → k ≤ n → (∀ m, i ≤ m → m < k → (H (m + 1)).bl.get b = (H m).bl.get b) → (H k).bl.get b = (H i).bl.get b := by
  intro k h hn hs
  induction k with
  | zero => have : i = 0 := Nat.le_zero.1 h; subst this; rfl
  | succ k ih =>
    rcases Nat.lt_or_ge k i with h2 | h2
    · have : i = k + 1 := by omega
      subst this; rfl
    · rw [hs k h2 (by omega)]; exact ih h2 (by omega) fun m h1 h2 => hs m h1 (by omega)
theorem Tr.backward {run : Nat → Bool} {ahs : List Ahead} (tr : Tr P ty all ahs all ρ H V run T) {t : Nat} {u : Value} {i : Nat} : ∀ {k : Nat}, i ≤ k → k ≤ all.length → (∀ m o, i ≤ m → m < k → all[m]? = some o → o.dst ≠ some t) → ρ k t = some u → ρ i t = some u := by
  intro k h hn hs hu
  induction k with
  | zero => have : i = 0 := Nat.le_zero.1 h; subst this; exact hu
  | succ k ih =>
    rcases Nat.lt_or_ge k i with h2 | h2
    · have : i = k + 1 := by omega
      subst this; exact hu
    · have hk : k < all.length := by omega
      have ho : all[k]? = some all[k] := List.getElem?_eq_getElem hk
      have := (tr.sf k all[k] ho).slot t u hu
      rw [if_neg (hs k all[k] h2 (Nat.lt_succ_self _) ho)] at this
      exact ih h2 (by omega) (fun m o h1 h2 => hs m o h1 (by omega)) this
def Lh (n : Nat) (T : Nat → Nat → Prop) (S : Nat → Prop) (h : Hp) (i : Nat) : Nat → Prop := fun b => b < h.next ∧ ¬ ∀ j, j < n → T j b → (j < i → S j) ∧ (i ≤ j → ¬ S j)
def upto (φ : Phi) (n : Nat) : Phi := fun b => if b < n then φ b else none
theorem B5 {φ : Phi} {n b : Nat} {p : Pl} (h : upto φ n b = some p) : b < n ∧ φ b = some p := by
  unfold upto at h
  split at h
  · exact ⟨‹_›, h⟩
  · cases h
theorem Inv.relw {φ : Phi} {C : Nat → Blk} {a : Act} {w : World} {S : Nat → Prop} (I : Inv ty N all ρ H T φ0 w0 S φ C a w) (txt : Txt P ty N φ0 ρ H V T all.length) {i : Nat} (hi : i ≤ all.length) :
    RelW ty (upto φ (H i).next) (Lh all.length T S (H i) i) (H i) w ∧ ∃ (ψ : Phi) (b : Act), AR N ψ (ρ i) b ∧ ∀ b p, φ b = some p → (∃ q, ψ b = some q) → upto φ (H i).next b = some p := by
  obtain ⟨ψ, wt, at', HW, HA, hle, hall⟩ := txt.well i hi
  have hx : ∀ b p, φ b = some p → (∃ q, ψ b = some q) → upto φ (H i).next b = some p := by
    rintro b p hp ⟨q, hq⟩
    unfold upto
    rw [if_pos (HW.dom b q hq).1]; exact hp
  have hin : ∀ b p, φ b = some p → b < (H i).next → ∃ q, ψ b = some q := by
    intro b p hp hb
    rcases I.new b p hp with h | h
    · exact ⟨p, hle b p h⟩
    · exact hall b h hb
  have lk : ∀ b p, φ b = some p → b < (H i).next → ¬ Lh all.length T S (H i) i b → C b = (H i).bl.get b := by
    intro b p hp hb hE
    refine I.link i hi b p hp hb fun j hj hT => ?_
    by_cases hh : (j < i → S j) ∧ (i ≤ j → ¬ S j)
    · exact hh
    · exact absurd ⟨hb, fun hall => hh (hall j hj hT)⟩ hE
  refine ⟨{ dom := fun b p e => ?_, inj := fun b c p q eb ec hEb hEc hb hc hio hpq => ?_, row := fun b p e hE => ?_, fresh := txt.fresh i hi, kind := fun b p c s e' e he => ?_, inp := fun b p e => I.inp b p (B5 e).2 }, ψ, at', HA, hx⟩
  · obtain ⟨h1, h2⟩ := B5 e
    exact ⟨h1, (I.dom b p h2).1⟩
  · obtain ⟨h1, h2⟩ := B5 eb
    obtain ⟨h3, h4⟩ := B5 ec
    exact I.inj b c p q h2 h4 (by rw [lk b p h2 h1 hEb]; exact hb) (by rw [lk c q h4 h3 hEc]; exact hc) hio hpq
  · obtain ⟨h1, h2⟩ := B5 e
    have r1 := I.row b p h2
    rw [lk b p h2 h1 hE] at r1
    obtain ⟨q, hq⟩ := hin b p h2 h1
    exact r1.cut hx (HW.row b q hq fun h => h)
  · obtain ⟨h1, h2⟩ := B5 e
    exact I.kind i hi b p c s e' h2 h1 he
end
end
end Go.Proofs.YtfeldadhbnmklaaGreat
set_option linter.unusedSimpArgs false
set_option linter.unusedVariables false
namespace Go.Proofs.YtfeldadhbnmklaaGreat
noncomputable section
open Go
section
variable {P : Program} {ty : TTy} {N : Nat} {all : List Oper} {ρ : Nat → Rho} {H : Nat → Hp} {V : Nat → Value} {T : Nat → Nat → Prop} {φ0 : Phi} {w0 : World} {B : Nat → Nat → Prop}
def MM (φ ψ : Phi) (lo hi : Nat) : Phi := fun b => if lo ≤ b ∧ b < hi then ψ b else φ b
open Classical in
def PZ (C : Nat → Blk) (h : Hp) (lo : Nat) (W : Prop) : Nat → Blk := fun b => if b < h.next ∧ (lo ≤ b ∨ W) then h.bl.get b else C b
theorem Inv.after (L : Laws ty all ρ H T B) {run : Nat → Bool} {ahs : List Ahead} (tr : Tr P ty all ahs all ρ H V run T) (txt : Txt P ty N φ0 ρ H V T all.length) {S : Nat → Prop} {φ : Phi} {C : Nat → Blk} {a : Act} {w : World} (I : Inv ty N all ρ H T φ0 w0 S φ C a w)
    {i : Nat} {o : Oper} (ho : all[i]? = some o) (hS : ¬ S i) (hpre : ∀ j, B j i → S j) (hcl : ∀ j k, S j → B k j → S k) (hN : ∀ d, o.dst = some d → d < N)
    {ψ : Phi} {v' : Value} {w' : World} (hv : RelV ψ (V i) v') (HW : RelW ty ψ (Lh all.length T S (H i) i) (H (i + 1)) w') (eff : Eff (T i) (upto φ (H i).next) (H i) w ψ (H (i + 1)) w') :
    Inv ty N all ρ H T φ0 w0 (fun j => S j ∨ j = i) (MM φ ψ (H i).next (H (i + 1)).next) (PZ C (H (i + 1)) (H i).next (∃ c, T i c)) (a.put o.dst v') w' := by
  have hi : i < all.length := by
    rcases Nat.lt_or_ge i all.length with h | h
    · exact h
    · rw [List.getElem?_eq_none h] at ho; cases ho
  have hnS : ∀ j, B i j → ¬ S j := fun j hb hj => hS (hcl j i hj hb)
  have fx : ∀ j, j ≠ i → (B i j ∨ B j i) → (j < i → S j) ∧ (i ≤ j → ¬ S j) := by
    intro j hj hb
    rcases hb with hb | hb
    · have := L.lt i j hb
      exact ⟨fun h => by omega, fun _ => hnS j hb⟩
    · have := L.lt j i hb
      exact ⟨fun _ => hpre j hb, fun h => by omega⟩
  have hnext := txt.next i hi
  have hn1 : i + 1 ≤ all.length := hi
  have hE : (∃ c, T i c) → ∀ b, ¬ Lh all.length T S (H i) i b := by
    rintro ⟨c, hc⟩ b ⟨hb, hne⟩
    refine hne fun j hj hT => ?_
    by_cases hji : j = i
    · subst hji; exact ⟨fun h => absurd h (Nat.lt_irrefl _), fun _ => hS⟩
    · exact fx j hji (L.fixed i j o b (fun h => hji h.symm) ho hj hT (L.kinds i o c ho hc))
  have hnone : ∀ b, (H i).next ≤ b → b < (H (i + 1)).next → φ b = none := by
    intro b h1 h2
    cases hb : φ b with
    | none => rfl
    | some p =>
      exfalso
      rcases (I.dom b p hb).2 with h | ⟨j, hj, hjn, h3, h4⟩
      · have := txt.mono (Nat.zero_le i) (Nat.le_of_lt hi)
        omega
      · rcases Nat.lt_trichotomy j i with h | h | h
        · have := txt.mono (i := j + 1) (k := i) h (Nat.le_of_lt hi); omega
        · subst h; exact hS hj
        · have := txt.mono (i := i + 1) (k := j) h (Nat.le_of_lt hjn); omega
  have jnew : ∀ {b}, (H i).next ≤ b → b < (H (i + 1)).next → MM φ ψ (H i).next (H (i + 1)).next b = ψ b := fun h1 h2 => if_pos ⟨h1, h2⟩
  have jold : ∀ {b}, ¬ ((H i).next ≤ b ∧ b < (H (i + 1)).next) → MM φ ψ (H i).next (H (i + 1)).next b = φ b := fun h => if_neg h
  have jle : φ.Le (MM φ ψ (H i).next (H (i + 1)).next) := by
    intro b p hb
    rw [jold fun h => by rw [hnone b h.1 h.2] at hb; cases hb]; exact hb
  have jψ : ψ.Le (MM φ ψ (H i).next (H (i + 1)).next) := by
    intro b p hb
    have h2 := (HW.dom b p hb).1
    rcases Nat.lt_or_ge b (H i).next with h | h
    · rw [jold (by omega)]
      rcases eff.new b p hb with h3 | h3
      · exact (B5 h3).2
      · omega
    · rw [jnew h h2]; exact hb
  have jcase : ∀ {b p}, MM φ ψ (H i).next (H (i + 1)).next b = some p → ((H i).next ≤ b ∧ b < (H (i + 1)).next ∧ ψ b = some p) ∨ ((b < (H i).next ∨ (H (i + 1)).next ≤ b) ∧ φ b = some p) := by
    intro b p hb
    by_cases h : (H i).next ≤ b ∧ b < (H (i + 1)).next
    · rw [jnew h.1 h.2] at hb; exact .inl ⟨h.1, h.2, hb⟩
    · rw [jold h] at hb; exact .inr ⟨by omega, hb⟩
  have upψ : ∀ {b p}, φ b = some p → b < (H i).next → ψ b = some p := by
    intro b p hb h
    refine eff.le b p ?_
    unfold upto; rw [if_pos h]; exact hb
  have cnew : ∀ {b}, b < (H (i + 1)).next → ((H i).next ≤ b ∨ ∃ c, T i c) → PZ C (H (i + 1)) (H i).next (∃ c, T i c) b = (H (i + 1)).bl.get b := fun h1 h2 => if_pos ⟨h1, h2⟩
  have cold : ∀ {b}, ¬ (b < (H (i + 1)).next ∧ ((H i).next ≤ b ∨ ∃ c, T i c)) → PZ C (H (i + 1)) (H i).next (∃ c, T i c) b = C b := fun h => if_neg h
  have lk : (∃ c, T i c) → ∀ b p, φ b = some p → b < (H i).next → C b = (H i).bl.get b := by
    intro hw b p hb h
    refine I.link i (Nat.le_of_lt hi) b p hb h fun j hj hT => ?_
    by_cases hh : (j < i → S j) ∧ (i ≤ j → ¬ S j)
    · exact hh
    · exact absurd ⟨h, fun hall => hh (hall j hj hT)⟩ (hE hw b)
  have live : ∀ {b}, b < (H i).next → (H (i + 1)).bl.get b ≠ .dead → (H i).bl.get b ≠ .dead := fun h hl => (eff.shape _ h).live hl
  have injA : ∀ {b c p q}, (H (i + 1)).next ≤ c → φ c = some q → C c ≠ .dead → b < (H (i + 1)).next → MM φ ψ (H i).next (H (i + 1)).next b = some p → PZ C (H (i + 1)) (H i).next (∃ c, T i c) b ≠ .dead → (p.inp = false ∨ q.inp = false) → p.blk ≠ q.blk := by
    intro b c p q hc hq hlc hb hp hlb hio hpq
    rcases jcase hp with ⟨h1, h2, h3⟩ | ⟨h1, h3⟩
    · rw [cnew h2 (.inl h1)] at hlb
      obtain ⟨j, q', e1, e2, e3, ei, e4⟩ := eff.back b p h3 hlb (hpq ▸ (I.dom c q hq).1)
      obtain ⟨e5, e6⟩ := B5 e1
      rcases e4 with rfl | e4
      · omega
      · have := I.inj j c q' q e6 hq (by rw [lk ⟨j, e4⟩ j q' e6 e5]; exact e2) hlc (by rw [ei]; exact hio) (e3.trans hpq)
        omega
    · have hb' : b < (H i).next := by omega
      have hl : C b ≠ .dead := by
        by_cases hw : ∃ c, T i c
        · rw [cnew hb (.inr hw)] at hlb
          rw [lk hw b p h3 hb']; exact live hb' hlb
        · rw [cold (by rintro ⟨_, h | h⟩; omega; exact hw h)] at hlb; exact hlb
      have := I.inj b c p q h3 hq hl hlc hio hpq
      omega
  refine { dom := ?_, inj := ?_, row := ?_, kind := ?_, inp := (fun b p hp hi => by rcases jcase hp with ⟨_, _, h3⟩ | ⟨_, h3⟩; exact HW.inp b p h3 hi; exact I.inp b p h3 hi), link := ?_, chg := ?_, full := ?_, slot := ?_, size := (by rw [Ce]; exact I.size), defs := (by rw [C0]; exact I.defs), le := I.le.trans jle, new := ?_, sz := Nat.le_trans I.sz eff.size, tape := eff.tape.trans I.tape, os := eff.os.trans I.os, output := eff.output.trans I.output, frame := ?_, back := ?_ }
  ·
    intro b p hp
    rcases jcase hp with ⟨h1, h2, h3⟩ | ⟨h1, h3⟩
    · exact ⟨(HW.dom b p h3).2, .inr ⟨i, .inr rfl, hi, h1, h2⟩⟩
    · obtain ⟨q1, q2⟩ := I.dom b p h3
      exact ⟨Nat.lt_of_lt_of_le q1 eff.size, q2.imp id fun ⟨j, hj, r⟩ => ⟨j, .inl hj, r⟩⟩
  ·
    intro b c p q hp hq hlb hlc hio hpq
    rcases Nat.lt_or_ge b (H (i + 1)).next with hb | hb
    · rcases Nat.lt_or_ge c (H (i + 1)).next with hc | hc
      · have toψ : ∀ {b p}, b < (H (i + 1)).next → MM φ ψ (H i).next (H (i + 1)).next b = some p → ψ b = some p := by
          intro b p hb hp
          rcases jcase hp with ⟨_, _, h3⟩ | ⟨h1, h3⟩
          · exact h3
          · exact upψ h3 (by omega)
        have pb := toψ hb hp
        have pc := toψ hc hq
        by_cases hw : ∃ c, T i c
        · rw [cnew hb (.inr hw)] at hlb
          rw [cnew hc (.inr hw)] at hlc
          exact HW.inj b c p q pb pc (hE hw b) (hE hw c) hlb hlc hio hpq
        · rcases Nat.lt_or_ge b (H i).next with hb2 | hb2
          · rcases Nat.lt_or_ge c (H i).next with hc2 | hc2
            · rw [cold (by rintro ⟨_, h | h⟩; omega; exact hw h)] at hlb
              rw [cold (by rintro ⟨_, h | h⟩; omega; exact hw h)] at hlc
              rw [jold (by omega)] at hp hq
              exact I.inj b c p q hp hq hlb hlc hio hpq
            · exfalso
              rw [jold (by omega)] at hp
              rw [cnew hc (.inl hc2)] at hlc
              obtain ⟨j, q', e1, e2, e3, _, e4⟩ := eff.back c q pc hlc (hpq ▸ (I.dom b p hp).1)
              rcases e4 with rfl | e4
              · have := (B5 e1).1; omega
              · exact hw ⟨j, e4⟩
          · rw [cnew hb (.inl hb2)] at hlb
            rcases Nat.lt_or_ge c (H i).next with hc2 | hc2
            · exfalso
              rw [jold (by omega)] at hq
              obtain ⟨j, q', e1, e2, e3, _, e4⟩ := eff.back b p pb hlb (hpq ▸ (I.dom c q hq).1)
              rcases e4 with rfl | e4
              · have := (B5 e1).1; omega
              · exact hw ⟨j, e4⟩
            · rw [cnew hc (.inl hc2)] at hlc
              exact HW.inj b c p q pb pc (fun h => by have := h.1; omega) (fun h => by have := h.1; omega) hlb hlc hio hpq
      · rw [jold (by omega)] at hq
        rw [cold (by omega)] at hlc
        exact absurd hpq (injA hc hq hlc hb hp hlb hio)
    · rcases Nat.lt_or_ge c (H (i + 1)).next with hc | hc
      · rw [jold (by omega)] at hp
        rw [cold (by omega)] at hlb
        exact absurd hpq.symm (injA hb hp hlb hc hq hlc hio.symm)
      · rw [jold (by omega)] at hp hq
        rw [cold (by omega)] at hlb hlc
        exact I.inj b c p q hp hq hlb hlc hio hpq
  ·
    intro b p hp
    by_cases hb : b < (H (i + 1)).next ∧ ((H i).next ≤ b ∨ ∃ c, T i c)
    · rw [cnew hb.1 hb.2]
      have hψ : ψ b = some p := by
        rcases jcase hp with ⟨_, _, h3⟩ | ⟨h1, h3⟩
        · exact h3
        · exact upψ h3 (by omega)
      refine (HW.row b p hψ ?_).mono jψ
      rcases hb.2 with h | h
      · intro hE; have := hE.1; omega
      · exact hE h b
    · rw [cold hb]
      have hφ : φ b = some p := by
        rcases jcase hp with ⟨h1, h2, _⟩ | ⟨_, h3⟩
        · exact absurd ⟨h2, .inl h1⟩ hb
        · exact h3
      by_cases hd : C b = .dead
      · rw [hd]; exact .dead
      · have hr := (I.row b p hφ).mono jle
        rw [eff.frame p.blk (I.dom b p hφ).1 fun c q e1 en e2 e3 e4 => ?_]
        · exact hr
        · obtain ⟨e5, e6⟩ := B5 e1
          have := I.inj c b q p e6 hφ (by rw [lk ⟨c, e2⟩ c q e6 e5]; exact e3) hd (.inl en) e4
          subst this
          exact hb ⟨by omega, .inr ⟨c, e2⟩⟩
  ·
    intro k hk b p c s e hp hb he
    rcases jcase hp with ⟨h1, h2, h3⟩ | ⟨_, h3⟩
    · have hik : i + 1 ≤ k := by
        rcases Nat.lt_or_ge i k with h | h
        · exact h
        · have := txt.mono (i := k) (k := i) h (Nat.le_of_lt hi); omega
      have hs := txt.shapes (i := i + 1) (k := k) h2 hik hk
      rw [he] at hs
      obtain ⟨c', hc'⟩ := hs.cells
      exact HW.kind b p c' s e h3 hc'
    · exact I.kind k hk b p c s e h3 hb he
  ·
    intro k hk b p hp hb hyp
    rcases Nat.lt_or_ge i k with hik | hik
    ·
      rcases jcase hp with ⟨h1, h2, h3⟩ | ⟨h1, h3⟩
      · rw [cnew h2 (.inl h1)]
        refine (txt.same (i := i + 1) hik hk fun m hm1 hm2 => ?_).symm
        by_cases hm : S m
        · by_cases hc : (H (m + 1)).bl.get b = (H m).bl.get b
          · exact hc
          · have := txt.mono (i := i + 1) (k := m) hm1 (by omega)
            obtain ⟨q, hq⟩ := I.chg m hm (by omega) b (by omega) hc
            rw [hnone b h1 h2] at hq; cases hq
        · have := txt.mono (i := i + 1) (k := m) hm1 (by omega)
          refine txt.kept m (by omega) b (by omega) fun hT => ?_
          rcases (hyp m (by omega) hT).1 hm2 with h | h
          · exact hm h
          · omega
      · rcases h1 with h1 | h1
        · by_cases hw : ∃ c, T i c
          · rw [cnew (by omega) (.inr hw)]
            refine (txt.same (i := i + 1) hik hk fun m hm1 hm2 => ?_).symm
            have := txt.mono (i := i + 1) (k := m) hm1 (by omega)
            refine txt.kept m (by omega) b (by omega) fun hT => ?_
            obtain ⟨c, hc⟩ := hw
            have hfx := fx m (by omega) (L.fixed i m o b (by omega) ho (by omega) hT (L.kinds i o c ho hc))
            rcases (hyp m (by omega) hT).1 hm2 with h | h
            · exact hfx.2 (by omega) h
            · omega
          · rw [cold (by rintro ⟨_, h | h⟩; omega; exact hw h)]
            refine I.link k hk b p h3 hb fun j hj hT => ⟨fun h => ?_, fun h => ?_⟩
            · rcases (hyp j hj hT).1 h with h | h
              · exact h
              · subst h; exact absurd ⟨b, hT⟩ hw
            · exact fun hSj => (hyp j hj hT).2 h (.inl hSj)
        · rw [cold (by omega)]
          refine I.link k hk b p h3 hb fun j hj hT => ⟨fun h => ?_, fun h => ?_⟩
          · rcases (hyp j hj hT).1 h with h | h
            · exact h
            · subst h; have := L.tlt j b hj hT; omega
          · exact fun hSj => (hyp j hj hT).2 h (.inl hSj)
    ·
      have hkm := txt.mono (i := k) (k := i) hik (Nat.le_of_lt hi)
      have h3 : φ b = some p := by
        rcases jcase hp with ⟨h1, _, _⟩ | ⟨_, h3⟩
        · omega
        · exact h3
      have l1 : C b = (H k).bl.get b := I.link k hk b p h3 hb fun j hj hT => ⟨fun h => by
          rcases (hyp j hj hT).1 h with h2 | h2
          · exact h2
          · omega, fun h hSj => (hyp j hj hT).2 h (.inl hSj)⟩
      by_cases hw : ∃ c, T i c
      · rw [cnew (by omega) (.inr hw)]
        have hnT : ¬ T i b := fun hT => (hyp i hi hT).2 hik (.inr rfl)
        rw [eff.kept b (by omega) hnT, ← lk hw b p h3 (by omega)]; exact l1
      · rw [cold (by rintro ⟨_, h | h⟩; omega; exact hw h)]; exact l1
  ·
    intro j hj hjn b hb hc
    rcases hj with hj | rfl
    · obtain ⟨p, hp⟩ := I.chg j hj hjn b hb hc
      exact ⟨p, jle b p hp⟩
    · cases hu : upto φ (H j).next b with
      | none => exact absurd (eff.only b hb hu) hc
      | some p => exact ⟨p, jle b p (B5 hu).2⟩
  ·
    intro j hj hjn b h1 h2
    rcases hj with hj | rfl
    · obtain ⟨p, hp⟩ := I.full j hj hjn b h1 h2
      exact ⟨p, jle b p hp⟩
    · obtain ⟨p, hp⟩ := eff.all b h1 h2
      exact ⟨p, jψ b p hp⟩
  ·
    intro k hk t u hyp hu
    rw [D9]
    by_cases hd : o.dst = some t
    · rw [if_pos ⟨hd, by rw [I.size]; exact hN t hd⟩]
      have hik : i < k := by
        rcases Nat.lt_or_ge i k with h | h
        · exact h
        · exact absurd (.inr rfl) ((hyp i o ho hd).2 h)
      have hu2 : ρ (i + 1) t = some u := by
        refine tr.backward (i := i + 1) hik hk (fun m om h1 h2 hom hdm => ?_) hu
        have hfx := fx m (by omega) (L.slots i m o om t (by omega) ho hom hd (.inl hdm))
        rcases (hyp m om hom hdm).1 h2 with h | h
        · exact hfx.2 (by omega) h
        · omega
      have := (tr.sf i o ho).slot t u hu2
      rw [if_pos hd] at this
      rw [this]; exact hv.mono jψ
    · rw [if_neg fun h => hd h.1]
      refine (I.slot k hk t u (fun j oj hoj hdj => ?_) hu).mono jle
      have hji : j ≠ i := fun h => by subst h; rw [ho] at hoj; cases hoj; exact hd hdj
      refine ⟨fun h => ?_, fun h hSj => (hyp j oj hoj hdj).2 h (.inl hSj)⟩
      rcases (hyp j oj hoj hdj).1 h with h2 | h2
      · exact h2
      · exact absurd h2 hji
  ·
    intro b p hp
    rcases jcase hp with ⟨h1, _, _⟩ | ⟨_, h3⟩
    · have := txt.mono (Nat.zero_le i) (Nat.le_of_lt hi)
      exact .inr (by omega)
    · exact I.new b p h3
  ·
    intro k hk hc
    rw [eff.frame k (Nat.lt_of_lt_of_le hk I.sz) fun c q e1 en e2 e3 e4 => ?_]
    · exact I.frame k hk hc
    · obtain ⟨e5, e6⟩ := B5 e1
      obtain ⟨c0, q0, f1, f2, f3, fi, f4⟩ := I.back c q e6 (by rw [lk ⟨c, e2⟩ c q e6 e5]; exact e3) (by rw [e4]; exact hk)
      have hlo : (H all.length).low ≤ c0 ∧ c0 ≤ (H all.length).high := by
        rcases f4 with rfl | f4
        · exact L.tout i _ hi e2
        · exact f4
      exact hc c0 q0 f1 (fi.trans en) hlo.1 hlo.2 f2 (f3.trans e4)
  ·
    intro b p hp hl hlt
    rcases jcase hp with ⟨h1, h2, h3⟩ | ⟨h1, h3⟩
    · rw [cnew h2 (.inl h1)] at hl
      obtain ⟨j, q, e1, e2, e3, ei, e4⟩ := eff.back b p h3 hl (Nat.lt_of_lt_of_le hlt I.sz)
      obtain ⟨e5, e6⟩ := B5 e1
      rcases e4 with rfl | e4
      · omega
      · obtain ⟨c0, q0, f1, f2, f3, fi, f4⟩ := I.back j q e6 (by rw [lk ⟨j, e4⟩ j q e6 e5]; exact e2) (by rw [e3]; exact hlt)
        refine ⟨c0, q0, f1, f2, f3.trans e3, fi.trans ei, .inr ?_⟩
        rcases f4 with rfl | f4
        · exact L.tout i _ hi e4
        · exact f4
    · refine I.back b p h3 ?_ hlt
      by_cases hb : b < (H (i + 1)).next ∧ ((H i).next ≤ b ∨ ∃ c, T i c)
      · have hb' : b < (H i).next := by omega
        rw [cnew hb.1 hb.2] at hl
        have hw : ∃ c, T i c := hb.2.resolve_left (by omega)
        rw [lk hw b p h3 hb']; exact live hb' hl
      · rw [cold hb] at hl; exact hl
end
end
end Go.Proofs.YtfeldadhbnmklaaGreat
set_option linter.unusedSimpArgs false
set_option linter.unusedVariables false
namespace Go.Proofs.YtfeldadhbnmklaaGreat
noncomputable section
open Go
section
variable {P : Program} {ty : TTy} {N : Nat} {all : List Oper} {ρ : Nat → Rho} {H : Nat → Hp} {V : Nat → Value} {T : Nat → Nat → Prop} {φ0 : Phi} {w0 : World} {B : Nat → Nat → Prop} {run : Nat → Bool} {ahs : List Ahead}
theorem Inv.step (L : Laws ty all ρ H T B) (tr : Tr P ty all ahs all ρ H V run T) (txt : Txt P ty N φ0 ρ H V T all.length) {S : Nat → Prop} {φ : Phi} {C : Nat → Blk} {a : Act} {w : World} (I : Inv ty N all ρ H T φ0 w0 S φ C a w)
    {i : Nat} {o : Oper} (ho : all[i]? = some o) (hS : ¬ S i) (hpre : ∀ j, B j i → S j) (hcl : ∀ j k, S j → B k j → S k) (hN : ∀ d, o.dst = some d → d < N)
    {K : Act → World → Prop} {Q : Exit → Act → World → Prop} (hK : ∀ φ' C' a' w', Inv ty N all ρ H T φ0 w0 (fun j => S j ∨ j = i) φ' C' a' w' → K a' w') : wpOp P all.toArray Q i K a w := by
  have hi : i < all.length := by
    rcases Nat.lt_or_ge i all.length with h | h
    · exact h
    · rw [List.getElem?_eq_none h] at ho; cases ho
  have fx : ∀ j, j ≠ i → (B i j ∨ B j i) → (j < i → S j) ∧ (i ≤ j → ¬ S j) := by
    intro j hj hb
    rcases hb with hb | hb
    · have := L.lt i j hb
      exact ⟨fun h => by omega, fun _ hSj => hS (hcl j i hSj hb)⟩
    · have := L.lt j i hb
      exact ⟨fun _ => hpre j hb, fun h => by omega⟩
  have named : ∀ d, (o.dst = some d ∨ .tmp d ∈ o.op.operands.toList ∨ ∃ g w og, o.guard = some (g, w) ∧ all[g]? = some og ∧ og.dst = some d) → ∀ u, ρ i d = some u → RelV φ u (a.tmps.getD d undef) := by
    intro d hd u hu
    refine I.slot i (Nat.le_of_lt hi) d u (fun j oj hoj hdj => ?_) hu
    by_cases hji : j = i
    · subst hji; exact ⟨fun h => absurd h (Nat.lt_irrefl _), fun _ => hS⟩
    · exact fx j hji ((L.slots j i oj o d hji hoj ho hdj hd).symm)
  have s := tr.sf i o ho
  have hw := Kl s (a := a) (φ := φ) fun g want og d u h1 h2 h3 hu => named d (.inr (.inr ⟨g, want, og, h1, h2, h3⟩)) u hu
  obtain ⟨HR, ψ, b, HA, hx⟩ := I.relw txt (Nat.le_of_lt hi)
  have names : ∀ x ∈ o.op.operands.toList, ∀ u, evR (ρ i) x = some u → RelV (upto φ (H i).next) u (a.eval x) := by
    intro x hxm u hu
    have h1 : RelV φ u (a.eval x) := by
      cases x with
      | tmp t => exact named t (.inr (.inl hxm)) u hu
      | const v =>
        have hu : (if D8 v then some v else none) = some u := hu
        split at hu
        · rename_i hp; cases hu; exact JZ hp
        · cases hu
      | func g => cases hu; exact .func _ .nil .nil
      | global g => cases hu
    exact h1.cut hx (HA.ev hu)
  unfold wpOp
  rw [List.getElem?_toArray, ho]
  simp only
  rcases s.core with ⟨hrun, core⟩ | ⟨hrun, hv, hh, hT⟩
  · rw [hw, hrun, if_pos rfl]
    refine .inl (core.does _ _ w a HR names ?_ _ _ fun ψ' v' w' hv HW' eff _ => hK _ _ _ _ (I.after L tr txt ho hS hpre hcl hN hv HW' eff))
    have noE : ((∃ x, kd ty o.op = .w x) ∨ kd ty o.op = .q) → ∀ b, ¬ Lh all.length T S (H i) i b := by
      rintro hk b ⟨hb, hne⟩
      refine hne fun j hj hT => ?_
      by_cases hji : j = i
      · subst hji; exact ⟨fun h => absurd h (Nat.lt_irrefl _), fun _ => hS⟩
      · exact fx j hji (L.fixed i j o b (fun h => hji h.symm) ho hj hT hk)
    unfold TouchR
    cases hk : kd ty o.op with
    | p => trivial
    | a => trivial
    | r x =>
      rintro u hu c hc ⟨hb, hne⟩
      refine hne fun j hj hT => ?_
      by_cases hji : j = i
      · subst hji; exact ⟨fun h => absurd h (Nat.lt_irrefl _), fun _ => hS⟩
      · exact fx j hji (L.reads i j o x c u (fun h => hji h.symm) ho hj hT hk hu hc)
    | w x => exact noE (.inl ⟨x, hk⟩)
    | q => exact noE (.inr hk)
  · rw [hw, hrun, if_neg (by simp)]
    refine hK _ _ _ _ (I.after L tr txt ho hS hpre hcl hN (ψ := upto φ (H i).next) (v' := undef) (w' := w) (by rw [hv]; exact .tuple .nil) (by rw [hh]; exact HR) ?_)
    rw [hh]
    exact { Eff.refl (upto φ (H i).next) (H i) w with frame := fun _ _ _ => rfl, back := fun i p e hl _ => ⟨i, p, e, hl, rfl, rfl, .inl rfl⟩, kept := fun _ _ _ => rfl }
theorem Inv.begin (tr : Tr P ty all ahs all ρ H V run T) (txt : Txt P ty N φ0 ρ H V T all.length) (L : Laws ty all ρ H T B) {a : Act} (HW : RelW ty φ0 nil (H 0) w0) (HA : AR N φ0 (ρ 0) a) {S : Nat → Prop} (hS : ∀ j, j < all.length → ¬ S j) :
    Inv ty N all ρ H T φ0 w0 S φ0 (H 0).bl.get a w0 where
  dom := fun b p hp => ⟨(HW.dom b p hp).2, .inl (HW.dom b p hp).1⟩
  inj := fun b c p q hp hq hb hc hio h => HW.inj b c p q hp hq (fun h => h) (fun h => h) hb hc hio h
  row := fun b p hp => HW.row b p hp fun h => h
  kind := fun k hk b p c s e hp hb he => by
    have hs := txt.shapes (i := 0) (k := k) (HW.dom b p hp).1 (Nat.zero_le _) hk
    rw [he] at hs
    obtain ⟨c', hc'⟩ := hs.cells
    exact HW.kind b p c' s e hp hc'
  inp := HW.inp
  link := fun k hk b p hp hb hyp => by
    refine (txt.same (i := 0) (Nat.zero_le _) hk fun m _ hm => ?_).symm
    have h0 := (HW.dom b p hp).1
    have := txt.mono (i := 0) (k := m) (Nat.zero_le _) (by omega)
    exact txt.kept m (by omega) b (by omega) fun hT => hS m (by omega) ((hyp m (by omega) hT).1 hm)
  chg := fun j hj hjn => absurd hj (hS j hjn)
  full := fun j hj hjn => absurd hj (hS j hjn)
  slot := fun k hk t u hyp hu => by
    refine HA.rel t u (tr.backward (i := 0) (Nat.zero_le _) hk (fun m om _ hm hom hdm => ?_) hu)
    exact hS m (by omega) ((hyp m om hom hdm).1 hm)
  size := HA.size
  defs := HA.defs
  le := .refl _
  new := fun b p hp => .inl hp
  sz := Nat.le_refl _
  tape := rfl
  os := rfl
  output := rfl
  frame := fun _ _ _ => rfl
  back := fun b p hp hl _ => ⟨b, p, hp, hl, rfl, rfl, .inl rfl⟩
theorem Inv.fin (txt : Txt P ty N φ0 ρ H V T all.length) (L : Laws ty all ρ H T B) {S : Nat → Prop} {φ : Phi} {C : Nat → Blk} {a : Act} {w : World} (I : Inv ty N all ρ H T φ0 w0 S φ C a w) (hS : ∀ j, j < all.length → S j) :
    RelW ty φ nil (H all.length) w ∧ AR N φ (ρ all.length) a ∧ Evo φ0 (H 0) w0 φ (H all.length) w := by
  have hdom : ∀ b p, φ b = some p → b < (H all.length).next := by
    intro b p hp
    rcases (I.dom b p hp).2 with h | ⟨j, _, hj, _, h⟩
    · have := txt.mono (Nat.zero_le all.length) (Nat.le_refl _); omega
    · have := txt.mono (i := j + 1) (k := all.length) hj (Nat.le_refl _); omega
  have lk : ∀ b p, φ b = some p → C b = (H all.length).bl.get b := fun b p hp =>
    I.link _ (Nat.le_refl _) b p hp (hdom b p hp) fun j hj _ => ⟨fun _ => hS j hj, fun h => by omega⟩
  refine ⟨{ dom := fun b p hp => ⟨hdom b p hp, (I.dom b p hp).1⟩, inj := fun b c p q hp hq _ _ hb hc hio h => I.inj b c p q hp hq (by rw [lk b p hp]; exact hb) (by rw [lk c q hq]; exact hc) hio h, row := fun b p hp _ => by rw [← lk b p hp]; exact I.row b p hp, fresh := txt.fresh _ (Nat.le_refl _), kind := fun b p c s e hp he => I.kind _ (Nat.le_refl _) b p c s e hp (hdom b p hp) he, inp := I.inp },
    ⟨I.size, I.defs, fun t u hu => I.slot _ (Nat.le_refl _) t u (fun j oj hoj _ => ?_) hu⟩,
    { le := I.le, new := I.new, next := txt.mono (Nat.zero_le _) (Nat.le_refl _), size := I.sz, tape := I.tape, os := I.os, output := I.output, frame := I.frame, back := fun b p hp hl hlt => I.back b p hp (by rw [lk b p hp]; exact hl) hlt, kept := fun b hb ho => ?_, low := L.low, high := L.high, shape := fun b hb => txt.shapes (i := 0) hb (Nat.zero_le _) (Nat.le_refl _), only := fun b hb h0 => ?_, all := fun b h1 h2 => ?_ }⟩
  · have hj : j < all.length := by
      rcases Nat.lt_or_ge j all.length with h | h
      · exact h
      · rw [List.getElem?_eq_none h] at hoj; cases hoj
    exact ⟨fun _ => hS j hj, fun h => by omega⟩
  · refine txt.same (i := 0) (Nat.zero_le _) (Nat.le_refl _) fun m _ hm => ?_
    have := txt.mono (i := 0) (k := m) (Nat.zero_le _) (by omega)
    exact txt.kept m hm b (by omega) fun hT => by have := L.tout m b hm hT; omega
  · refine txt.same (i := 0) (Nat.zero_le _) (Nat.le_refl _) fun m _ hm => ?_
    have := txt.mono (i := 0) (k := m) (Nat.zero_le _) (by omega)
    by_cases hc : (H (m + 1)).bl.get b = (H m).bl.get b
    · exact hc
    · obtain ⟨p, hp⟩ := I.chg m (hS m hm) hm b (by omega) hc
      rcases I.new b p hp with h | h
      · rw [h0] at h; cases h
      · omega
  ·
    have : ∀ k, k ≤ all.length → b < (H k).next → ∃ p, φ b = some p := by
      intro k
      induction k with
      | zero => intro _ h; omega
      | succ k ih =>
        intro hk h
        rcases Nat.lt_or_ge b (H k).next with h3 | h3
        · exact ih (by omega) h3
        · exact I.full k (hS k (by omega)) (by omega) b h3 h
    exact this _ (Nat.le_refl _) h2
theorem J6 {α : Type} {p q : α → Bool} : ∀ {l : List α}, (∀ x ∈ l, p x = true → q x = true) → (∃ x ∈ l, q x = true ∧ p x = false) → l.countP p < l.countP q
  | [], _, h => by obtain ⟨x, hx, _⟩ := h; cases hx
  | y :: l, h1, h2 => by
    have hmono : l.countP p ≤ l.countP q := List.countP_mono_left fun x hx hp => h1 x (List.mem_cons_of_mem _ hx) hp
    rw [List.countP_cons, List.countP_cons]
    by_cases hy : q y = true ∧ p y = false
    · rw [hy.1, hy.2]; simp; omega
    · obtain ⟨x, hx, hq, hp⟩ := h2
      rcases List.mem_cons.1 hx with rfl | hx
      · exact absurd ⟨hq, hp⟩ hy
      · have := J6 (fun x hx => h1 x (List.mem_cons_of_mem _ hx)) ⟨x, hx, hq, hp⟩
        cases hpy : p y with
        | true => rw [h1 y List.mem_cons_self hpy]; simp; omega
        | false => cases q y <;> simp <;> omega
structure Edges (all : List Oper) (B : Nat → Nat → Prop) : Prop where
  dec : ∀ i o j, all[i]? = some o → B j i → ∃ e ∈ o.after.toList, Region.binds .any e = true ∧ (j = e.on ∨ B j e.on)
  back : ∀ i o, all[i]? = some o → ∀ e ∈ o.after.toList, Region.binds .any e = true → e.on < i
theorem YB (E : Edges all B) (L : Laws ty all ρ H T B) (tr : Tr P ty all ahs all ρ H V run T) (txt : Txt P ty N φ0 ρ H V T all.length) (hN : ∀ o ∈ all, ∀ d, o.dst = some d → d < N) {Q : Exit → Act → World → Prop}
    (hq : ∀ ψ a' w', RelW ty ψ nil (H all.length) w' → AR N ψ (ρ all.length) a' → Evo φ0 (H 0) w0 ψ (H all.length) w' → Q .normal a' w') :
    ∀ (fuel : Nat) (listed : Array Bool) (φ : Phi) (C : Nat → Blk) (a : Act) (w : World), listed.size = all.length → (List.range all.length).countP (fun j => !listed.getD j true) ≤ fuel →
      (∀ j k, (j < all.length ∧ listed.getD j false = true) → B k j → (k < all.length ∧ listed.getD k false = true)) →
      Inv ty N all ρ H T φ0 w0 (fun j => j < all.length ∧ listed.getD j false = true) φ C a w → wpAny P .any all.toArray Q fuel listed a w := by
  have getTF : ∀ (listed : Array Bool), listed.size = all.length → ∀ j, j < all.length → listed.getD j true = listed.getD j false := by
    intro listed hs j hj
    rw [Array.getD_eq_getD_getElem?, Array.getD_eq_getD_getElem?, Array.getElem?_eq_getElem (by omega)]; rfl
  have done : ∀ (listed : Array Bool) (φ : Phi) (C : Nat → Blk) (a : Act) (w : World), listed.size = all.length → Region.ready .any all.toArray listed = [] →
      Inv ty N all ρ H T φ0 w0 (fun j => j < all.length ∧ listed.getD j false = true) φ C a w → (∀ j, j < all.length → listed.getD j false = true) ∧ Q .normal a w := by
    intro listed φ C a w hs hr I
    have hall : ∀ j, j < all.length → listed.getD j false = true := by
      intro j
      induction j using Nat.strongRecOn with
      | _ j ih =>
        intro hj
        cases hl : listed.getD j false with
        | true => rfl
        | false =>
          exfalso
          have ho : all[j]? = some all[j] := List.getElem?_eq_getElem hj
          have : j ∈ Region.ready .any all.toArray listed := by
            unfold Region.ready
            rw [List.mem_filter]
            refine ⟨List.mem_range.2 (by simpa using hj), ?_⟩
            rw [getTF listed hs j hj, hl, List.getElem?_toArray, ho]
            simp only [Bool.not_false, Bool.true_and, Option.map_some, Option.getD_some]
            rw [Array.all_eq_true_iff_forall_mem]
            intro e he
            cases hb : Region.binds .any e with
            | false => rfl
            | true =>
              have h1 := E.back j all[j] ho e (Array.mem_toList_iff.2 he) hb
              rw [ih e.on h1 (by omega)]; rfl
          rw [hr] at this; cases this
    obtain ⟨h1, h2, h3⟩ := I.fin txt L fun j hj => ⟨hj, hall j hj⟩
    exact ⟨hall, hq φ a w h1 h2 h3⟩
  intro fuel
  induction fuel with
  | zero =>
    intro listed φ C a w hs hc hcl I
    have hr : Region.ready .any all.toArray listed = [] := by
      cases hr : Region.ready .any all.toArray listed with
      | nil => rfl
      | cons x xs =>
        exfalso
        have hx : x ∈ Region.ready .any all.toArray listed := by rw [hr]; exact List.mem_cons_self
        unfold Region.ready at hx
        rw [List.mem_filter] at hx
        obtain ⟨h1, h2⟩ := hx
        have h3 : x < all.length := by simpa using List.mem_range.1 h1
        simp only [Bool.and_eq_true] at h2
        have := List.countP_pos_iff (p := fun j => !listed.getD j true) (l := List.range all.length) |>.2 ⟨x, List.mem_range.2 h3, h2.1⟩
        omega
    exact ⟨hr, (done listed φ C a w hs hr I).2⟩
  | succ fuel ih =>
    intro listed φ C a w hs hc hcl I
    refine ⟨fun hr => (done listed φ C a w hs hr I).2, fun i hi => ?_⟩
    unfold Region.ready at hi
    rw [List.mem_filter] at hi
    obtain ⟨h1, h2⟩ := hi
    have h3 : i < all.length := by simpa using List.mem_range.1 h1
    have ho : all[i]? = some all[i] := List.getElem?_eq_getElem h3
    rw [Bool.and_eq_true, List.getElem?_toArray, ho] at h2
    obtain ⟨h4, h5⟩ := h2
    simp only [Option.map_some, Option.getD_some] at h5
    rw [Array.all_eq_true_iff_forall_mem] at h5
    have hl : listed.getD i false = false := by
      rw [← getTF listed hs i h3]; simpa using h4
    have hset : ∀ j, j < all.length → (listed.setIfInBounds i true).getD j false = if j = i then true else listed.getD j false := by
      intro j hj
      rw [Array.getD_eq_getD_getElem?, Array.getElem?_setIfInBounds, Array.getD_eq_getD_getElem?]
      by_cases hji : j = i
      · subst hji; rw [if_pos rfl, if_pos (by omega), if_pos rfl]; rfl
      · rw [if_neg fun h => hji h.symm, if_neg hji]
    have hpre : ∀ j, B j i → (j < all.length ∧ listed.getD j false = true) := by
      intro j hb
      obtain ⟨e, he, hbe, hor⟩ := E.dec i _ j ho hb
      have hon := h5 e (Array.mem_toList_iff.1 he)
      rw [hbe] at hon
      have hon : listed.getD e.on false = true := by simpa using hon
      have hlt : e.on < all.length := by have := E.back i _ ho e he hbe; omega
      rcases hor with rfl | hor
      · exact ⟨hlt, hon⟩
      · exact hcl e.on j ⟨hlt, hon⟩ hor
    refine I.step L tr txt ho (fun h => by rw [hl] at h; cases h.2) hpre hcl (hN _ (List.mem_of_getElem? ho)) fun φ' C' a' w' I' => ih _ φ' C' a' w' (by simp [hs]) ?_ ?_ ?_
    · have := J6 (p := fun j => !(listed.setIfInBounds i true).getD j true) (q := fun j => !listed.getD j true) (l := List.range all.length) (fun j hj hp => ?_) ⟨i, List.mem_range.2 h3, h4, ?_⟩
      · omega
      · have hj := List.mem_range.1 hj
        rw [getTF _ (by simp [hs]) j hj, hset j hj] at hp
        rw [getTF _ hs j hj]
        by_cases hji : j = i
        · rw [if_pos hji] at hp; cases hp
        · rw [if_neg hji] at hp; exact hp
      · rw [getTF _ (by simp [hs]) i h3, hset i h3, if_pos rfl]; rfl
    · intro j k hj hb
      have hjk : k < all.length ∧ listed.getD k false = true := by
        rw [hset j hj.1] at hj
        by_cases hji : j = i
        · subst hji; exact hpre k hb
        · rw [if_neg hji] at hj; exact hcl j k hj hb
      refine ⟨hjk.1, ?_⟩
      rw [hset k hjk.1]
      split
      · rfl
      · exact hjk.2
    · have : (fun j => (j < all.length ∧ listed.getD j false = true) ∨ j = i) = fun j => j < all.length ∧ (listed.setIfInBounds i true).getD j false = true := by
        funext j
        apply propext
        constructor
        · rintro (⟨hj, hlj⟩ | rfl)
          · refine ⟨hj, ?_⟩
            rw [hset j hj]
            split
            · rfl
            · exact hlj
          · refine ⟨h3, ?_⟩
            rw [hset _ h3, if_pos rfl]
        · rintro ⟨hj, hlj⟩
          rw [hset j hj] at hlj
          by_cases hji : j = i
          · exact .inr hji
          · rw [if_neg hji] at hlj; exact .inl ⟨hj, hlj⟩
      rw [← this]; exact I'
theorem Evo.of_worlds {φ ψ : Phi} {h h' : Hp} {w w1 w' : World} (ev : Evo φ h w1 ψ h' w') (hh : w1.heap = w.heap) (ht : w1.tape = w.tape) (ho : w1.os = w.os) (hout : w1.output = w.output) : Evo φ h w ψ h' w' where
  le := ev.le
  new := ev.new
  next := ev.next
  size := by rw [← hh]; exact ev.size
  tape := ev.tape.trans ht
  os := ev.os.trans ho
  output := ev.output.trans hout
  frame := by rw [← hh]; exact ev.frame
  back := by rw [← hh]; exact ev.back
  kept := ev.kept
  low := ev.low
  high := ev.high
  shape := ev.shape
  only := ev.only
  all := ev.all
theorem XM (hm : P.follows .mixedOrders = true) (E : Edges all B) (L : Laws ty all ρ H T B) (tr : Tr P ty all ahs all ρ H V run T) (hN : ∀ o ∈ all, ∀ d, o.dst = some d → d < N) {Q : Exit → Act → World → Prop} {a : Act} {w : World} {id : Nat}
    (HW : RelW ty φ0 nil (H 0) w) (HA : AR N φ0 (ρ 0) a) (hq : ∀ ψ a' w', RelW ty ψ nil (H all.length) w' → AR N ψ (ρ all.length) a' → Evo φ0 (H 0) w ψ (H all.length) w' → Q .normal a' w') :
    (Code.region id all.toArray true).wp P Q a w := by
  have txt : Txt P ty N φ0 ρ H V T all.length := by
    have h := Lc (Q := fun _ _ _ => Txt P ty N φ0 ρ H V T all.length) all tr hN HW HA fun txt _ _ _ _ _ _ => txt
    obtain ⟨_, _, _, h, _⟩ := wp_region_list (id := 0) (ops := all.toArray) (by simpa using h) (default : Frame) [] []
    exact h
  refine wp_region_any hm ?_
  have HW1 : RelW ty φ0 nil (H 0) { w with drawn := w.drawn + 1 } := HW.of_heap rfl
  have hsz : all.toArray.size = all.length := by simp
  rw [hsz]
  refine YB (w0 := { w with drawn := w.drawn + 1 }) E L tr txt hN (fun ψ a' w' h1 h2 h3 => hq ψ a' w' h1 h2 (h3.of_worlds rfl rfl rfl rfl)) all.length _ φ0 (H 0).bl.get a _ (by simp) (Nat.le_trans List.countP_le_length (by simp)) ?_ ?_
  · rintro j k ⟨hj, hlj⟩ _
    rw [Array.getD_eq_getD_getElem?] at hlj
    simp [hj] at hlj
  · refine Inv.begin tr txt L HW1 HA fun j hj h => ?_
    have := h.2
    rw [Array.getD_eq_getD_getElem?] at this
    simp [hj] at this
end
end
end Go.Proofs.YtfeldadhbnmklaaGreat
set_option linter.unusedSimpArgs false
set_option linter.unusedVariables false
namespace Go.Proofs.YtfeldadhbnmklaaGreat
noncomputable section
open Go
theorem NM {β : Type} (x : Nat) : ∀ (k : List Nat → β) (l : List Nat), Pu x k l = k (l ++ [x])
  | k, [] => rfl
  | k, y :: l => by
    unfold Pu
    rw [NM x (fun l => k (y :: l)) l]; rfl
def Cu : List Nat → List Oper → List Nat
  | acc, [] => acc
  | acc, o :: l => Cu (acc ++ [FR acc 0 o.after.toList]) l
theorem Oy {β : Type} (k : List Nat → β) : ∀ (l : List Oper) (acc : List Nat), VA k l acc = k (Cu acc l)
  | [], acc => rfl
  | o :: l, acc => by
    unfold VA
    rw [Ao, NM, Oy k l]; rfl
theorem Ik : ∀ (l : List Oper) (acc : List Nat) (j : Nat), j < acc.length → (Cu acc l)[j]? = acc[j]?
  | [], acc, j, _ => rfl
  | o :: l, acc, j, hj => by
    unfold Cu
    rw [Ik l _ j (by simp; omega), List.getElem?_append_left hj]
theorem P7 (l : List Oper) : ∀ (acc : List Nat) (j : Nat) (o : Oper), l[j]? = some o → (Cu acc l)[acc.length + j]? = some (FR ((Cu acc l).take (acc.length + j)) 0 o.after.toList) := by
  induction l with
  | nil => intro acc j o h; cases h
  | cons o' l ih =>
    intro acc j o h
    have hu : Cu acc (o' :: l) = Cu (acc ++ [FR acc 0 o'.after.toList]) l := by rw [Cu]
    rw [hu]
    cases j with
    | zero =>
      have ho : o' = o := by simpa using h
      subst ho
      rw [Nat.add_zero]
      have hp := fun k hk => Ik l (acc ++ [FR acc 0 o'.after.toList]) k hk
      have ht : (Cu (acc ++ [FR acc 0 o'.after.toList]) l).take acc.length = acc := by
        apply List.ext_getElem?
        intro k
        rw [List.getElem?_take]
        split
        · rename_i hk
          rw [hp k (by rw [List.length_append]; omega), List.getElem?_append_left hk]
        · rename_i hk
          rw [List.getElem?_eq_none (by omega)]
      rw [ht, hp acc.length (by rw [List.length_append, List.length_singleton]; omega), List.getElem?_append_right (Nat.le_refl _), Nat.sub_self]; rfl
    | succ j =>
      have := ih (acc ++ [FR acc 0 o'.after.toList]) j o (by simpa using h)
      rw [List.length_append, List.length_singleton] at this
      have e : acc.length + (j + 1) = acc.length + 1 + j := by omega
      rw [e]; exact this
theorem Ij : ∀ (l : List Oper) (acc : List Nat), (Cu acc l).length = acc.length + l.length
  | [], acc => rfl
  | o :: l, acc => by
    unfold Cu; rw [Ij l]; simp; omega
theorem LB {bs : List Nat} {i j : Nat} : isB bs i j = true ↔ ∃ b, bs[j]? = some b ∧ b.testBit i = true := by
  unfold isB
  rw [Ej]
  cases bs[j]? with
  | none => simp
  | some b =>
    simp only [Option.some.injEq, exists_eq_left']
    rw [AZ]
    unfold Nat.testBit
    have e : Nat.shiftRight b i = b >>> i := rfl
    have e2 : Nat.mod (b >>> i) 2 = (b >>> i) % 2 := rfl
    rw [e, e2]
    simp [Nat.and_one_is_mod, bne_iff_ne]
theorem Hf (acc : List Nat) (i : Nat) : ∀ (es : List Edge) (m : Nat), (FR acc m es).testBit i = true ↔ m.testBit i = true ∨ ∃ e ∈ es, Region.binds .any e = true ∧ (i = e.on ∨ ((acc[e.on]?).getD 0).testBit i = true)
  | [], m => by unfold FR; simp
  | e :: es, m => by
    unfold FR
    split
    · rename_i hb
      rw [Hf acc i es]
      have e1 : ∀ a b : Nat, Nat.lor a b = a ||| b := fun _ _ => rfl
      have e2 : Nat.shiftLeft 1 e.on = 1 <<< e.on := rfl
      rw [e1, e1, e2, Ej, Nat.testBit_or, Nat.testBit_or, Nat.one_shiftLeft, Nat.testBit_two_pow]
      simp only [Bool.or_eq_true, decide_eq_true_eq, List.mem_cons, exists_eq_or_imp, hb, true_and]
      constructor
      · rintro ((h | h | h) | h)
        · exact .inl h
        · exact .inr (.inl (.inl h.symm))
        · exact .inr (.inl (.inr h))
        · exact .inr (.inr h)
      · rintro (h | (h | h) | h)
        · exact .inl (.inl h)
        · exact .inl (.inr (.inl h.symm))
        · exact .inl (.inr (.inr h))
        · exact .inr h
    · rename_i hb
      rw [Hf acc i es]
      simp only [List.mem_cons, exists_eq_or_imp, hb, Bool.false_eq_true, false_and, false_or]
theorem FC {ops : List Oper} {o : Oper} {i : Nat} : (o, i) ∈ ops.zipIdx ↔ ops[i]? = some o := List.mem_zipIdx_iff_getElem?
theorem JK {d : Nat} : ∀ {l : List Nat}, memN d l = true ↔ d ∈ l
  | [] => by simp [memN]
  | x :: l => by
    unfold memN
    split
    · rename_i hb
      have := AZ.1 hb
      simp [this]
    · rename_i hb
      have := Dt hb
      rw [JK, List.mem_cons]
      constructor
      · exact .inr
      · rintro (h | h)
        · exact absurd h.symm this
        · exact h
section
variable {ty : TTy} {all : List Oper} {bs : List Nat}
theorem Lw (hbs : bs = Cu [] all) (he : F0 all = true) : Edges all (fun i j => isB bs i j = true) := by
  have back : ∀ i o, all[i]? = some o → ∀ e ∈ o.after.toList, Region.binds .any e = true → e.on < i := by
    intro i o ho e hem hb
    unfold F0 at he
    rw [List.all_eq_true] at he
    have := he (o, i) (FC.2 ho)
    simp only [List.all_eq_true] at this
    have := this e hem
    rw [hb] at this
    exact A3.1 (by simpa using this)
  refine ⟨fun i o j ho hB => ?_, back⟩
  obtain ⟨b, hb1, hb2⟩ := LB.1 hB
  have := P7 all [] i o ho
  rw [← hbs] at this
  simp only [List.length_nil, Nat.zero_add] at this
  rw [this] at hb1
  cases hb1
  rcases (Hf _ j _ _).1 hb2 with h | ⟨e, hem, hbe, hor⟩
  · simp at h
  · refine ⟨e, hem, hbe, hor.imp id fun h => ?_⟩
    have hlt := back i o ho e hem hbe
    rw [List.getElem?_take, if_pos hlt] at h
    cases hq : bs[e.on]? with
    | none => rw [hq] at h; simp at h
    | some c => rw [hq] at h; exact LB.2 ⟨c, hq, h⟩
theorem aj (hbs : bs = Cu [] all) (he : F0 all = true) : ∀ j i, isB bs i j = true → i < j := by
  have E := Lw hbs he
  intro j
  induction j using Nat.strongRecOn with
  | _ j ih =>
    intro i hB
    have hj : j < all.length := by
      obtain ⟨b, hb1, _⟩ := LB.1 hB
      have := (List.getElem?_eq_some_iff.1 hb1).1
      rw [hbs, Ij] at this
      simpa using this
    obtain ⟨e, hem, hbe, hor⟩ := E.dec j _ i (List.getElem?_eq_getElem hj) hB
    have hlt := E.back j _ (List.getElem?_eq_getElem hj) e hem hbe
    rcases hor with rfl | h
    · exact hlt
    · have := ih e.on hlt i h; omega
theorem PX {i j : Nat} (h : isB bs (Bh i j) (i + j - Bh i j) = true) : isB bs i j = true ∨ isB bs j i = true := by
  rw [BU] at h
  rcases Nat.le_total i j with h1 | h1
  · rw [Nat.min_eq_left h1, show i + j - i = j by omega] at h; exact .inl h
  · rw [Nat.min_eq_right h1, show i + j - j = i by omega] at h; exact .inr h
theorem Vt {i j : Nat} (h1 : isB bs i j ≠ true) (h2 : isB bs j i ≠ true) : isB bs (Bh i j) (i + j - Bh i j) = false := by
  cases h : isB bs (Bh i j) (i + j - Bh i j) with
  | false => rfl
  | true =>
    rcases PX h with h | h
    · exact absurd h h1
    · exact absurd h h2
theorem Te (hs : HH all bs = true) {i j : Nat} {oi oj : Oper} {d : Nat} (hij : i ≠ j) (hi : all[i]? = some oi) (hj : all[j]? = some oj) (hd : oi.dst = some d)
    (hn : oj.dst = some d ∨ .tmp d ∈ oj.op.operands.toList ∨ ∃ g w og, oj.guard = some (g, w) ∧ all[g]? = some og ∧ og.dst = some d) : isB bs i j = true ∨ isB bs j i = true := by
  unfold HH at hs
  rw [List.all_eq_true] at hs
  have h1 := hs (oi, i) (FC.2 hi)
  simp only [hd, List.all_eq_true] at h1
  have h2 := h1 (oj, j) (FC.2 hj)
  simp only [Bool.or_eq_true, Bool.not_eq_true'] at h2
  rcases h2 with (h2 | h2) | h2
  · exact absurd (AZ.1 h2) hij
  · exact PX h2
  · exfalso
    have : memN d (oj.dst.toList ++ Lb all oj) = true := by
      rw [JK, List.mem_append]
      rcases hn with h | h | ⟨g, w, og, h, h3, h4⟩
      · left; rw [h]; simp
      · right
        unfold Lb
        rw [List.mem_append]; left
        rw [List.mem_filterMap]
        exact ⟨_, h, rfl⟩
      · right
        unfold Lb
        rw [List.mem_append]; right
        rw [h]
        simp only [Ej, h3, h4]; simp
    rw [this] at h2; cases h2
structure Held (ty : TTy) (all : List Oper) (xs : List Operand) (i j : Nat) (oi oj : Oper) : Prop where
  ww : ∀ x y, kd ty oi.op = .w x → kd ty oj.op ≠ .w y
  wq : ∀ x, kd ty oi.op = .w x → kd ty oj.op ≠ .q
  qw : ∀ y, kd ty oi.op = .q → kd ty oj.op ≠ .w y
  wr : ∀ x y, kd ty oi.op = .w x → kd ty oj.op = .r y → x ∈ xs ∧ ∃ t, x = .tmp t ∧ ∀ k o, i ≤ k → k < j → all[k]? = some o → o.dst ≠ some t
  rw' : ∀ x y, kd ty oi.op = .r x → kd ty oj.op = .w y → x ∈ xs ∧ ∃ t, x = .tmp t ∧ ∀ k o, i ≤ k → k < j → all[k]? = some o → o.dst ≠ some t
theorem G0 {j i : Nat} {x : Operand} {rest : Option (List Operand)} {xs : List Operand} (h : PK all j x i rest = some xs) :
    ∃ ys, rest = some ys ∧ xs = x :: ys ∧ ∃ t, x = .tmp t ∧ ∀ k o, i ≤ k → k < j → all[k]? = some o → o.dst ≠ some t := by
  unfold PK at h
  split at h
  · rename_i t
    split at h
    · cases h
    · rename_i hany
      split at h
      · rename_i ys
        cases h
        refine ⟨ys, rfl, rfl, t, rfl, fun k o h1 h2 ho hd => ?_⟩
        rw [List.any_eq_false] at hany
        refine hany (o, k) (FC.2 ho) ?_
        have e1 : Nat.ble i k = true := Ap.2 h1
        have e2 : Nat.blt k j = true := A3.2 h2
        simp only [e1, e2, Bool.true_and]
        rw [JK, hd]; simp
      · cases h
  · cases h
theorem Dc {j : Nat} {oj : Oper} : ∀ {l : List (Oper × Nat)} {xs : List Operand}, apart ty all bs j oj l = some xs → ∀ oi i, (oi, i) ∈ l → i < j → isB bs i j = false → Held ty all xs i j oi oj
  | [], xs, _, oi, i, hm, _, _ => by cases hm
  | (o, k) :: l, xs, h, oi, i, hm, hij, hB => by
    unfold apart at h
    have mono : ∀ {ys : List Operand} {x : Operand}, Held ty all ys i j oi oj → Held ty all (x :: ys) i j oi oj := fun h =>
      { h with wr := fun a b h1 h2 => (h.wr a b h1 h2).imp (List.mem_cons_of_mem _) id, rw' := fun a b h1 h2 => (h.rw' a b h1 h2).imp (List.mem_cons_of_mem _) id }
    rcases List.mem_cons.1 hm with he | hm
    · obtain ⟨e1, e2⟩ := Prod.mk.inj he
      subst e1
      subst e2
      have hc : (Nat.blt i j && !isB bs i j) = true := by rw [hB, A3.2 hij]; rfl
      rw [hc] at h
      simp only at h
      unfold SO at h
      split at h
      · rename_i hk
        exact ⟨(fun x y h1 => by rw [hk] at h1; cases h1), (fun x h1 => by rw [hk] at h1; cases h1), (fun y h1 => by rw [hk] at h1; cases h1), (fun x y h1 => by rw [hk] at h1; cases h1), (fun x y h1 => by rw [hk] at h1; cases h1)⟩
      · rename_i hk _
        exact ⟨(fun x y _ h1 => by rw [hk] at h1; cases h1), (fun x _ h1 => by rw [hk] at h1; cases h1), (fun y _ h1 => by rw [hk] at h1; cases h1), (fun x y _ h1 => by rw [hk] at h1; cases h1), (fun x y _ h1 => by rw [hk] at h1; cases h1)⟩
      · cases h
      · cases h
      · cases h
      · rename_i hk1 hk2
        obtain ⟨ys, _, rfl, t, ht, hw⟩ := G0 h
        exact ⟨(fun x y _ h1 => by rw [hk2] at h1; cases h1), (fun x _ h1 => by rw [hk2] at h1; cases h1), (fun y h1 => by rw [hk1] at h1; cases h1), (fun x y h1 _ => by rw [hk1] at h1; cases h1; exact ⟨List.mem_cons_self, t, ht, hw⟩), (fun x y h1 => by rw [hk1] at h1; cases h1)⟩
      · rename_i hk1 hk2
        obtain ⟨ys, _, rfl, t, ht, hw⟩ := G0 h
        exact ⟨(fun x y h1 => by rw [hk1] at h1; cases h1), (fun x h1 => by rw [hk1] at h1; cases h1), (fun y h1 => by rw [hk1] at h1; cases h1), (fun x y h1 => by rw [hk1] at h1; cases h1), (fun x y h1 _ => by rw [hk1] at h1; cases h1; exact ⟨List.mem_cons_self, t, ht, hw⟩)⟩
      · rename_i q1 q2 q3 q4 q5 q6 q7
        exact ⟨fun x y h1 h2 => q3 x y h1 h2, fun x h1 h2 => q4 x h1 h2, fun y h1 h2 => q5 y h1 h2, fun x y h1 h2 => (q6 x y h1 h2).elim, fun x y h1 h2 => (q7 x y h1 h2).elim⟩
    · split at h
      · exact Dc h oi i hm hij hB
      · unfold SO at h
        split at h
        · exact Dc h oi i hm hij hB
        · exact Dc h oi i hm hij hB
        · cases h
        · cases h
        · cases h
        · obtain ⟨ys, h1, rfl, _⟩ := G0 h
          exact mono (Dc h1 oi i hm hij hB)
        · obtain ⟨ys, h1, rfl, _⟩ := G0 h
          exact mono (Dc h1 oi i hm hij hB)
        · exact Dc h oi i hm hij hB
theorem G5 {j i : Nat} {o : Oper} {ask : Nat → Kd → Bool} (ho : all[i]? = some o) (hij : i ≠ j) (h1 : isB bs i j ≠ true) (h2 : isB bs j i ≠ true) (ha : ask i (kd ty o.op) = true) : loose ty all bs j ask = true := by
  unfold loose
  rw [List.any_eq_true]
  refine ⟨(o, i), FC.2 ho, ?_⟩
  have hb : Nat.beq i j = false := by
    cases hb : Nat.beq i j with
    | false => rfl
    | true => exact absurd (AZ.1 hb) hij
  simp only [hb, Bool.not_false, Bool.true_and, Vt h1 h2, ha]
inductive AhIs (ty : TTy) (all : List Oper) (bs : List Nat) (j : Nat) (o : Oper) (xs : List Operand) : Ahead → Prop
  | strong (hk : kd ty o.op = .q) (hs : strongQ ty all bs j = true) : AhIs ty all bs j o xs (.quiet .strong)
  | weak (hk : kd ty o.op = .q) (hs : strongQ ty all bs j = false) : AhIs ty all bs j o xs (.quiet .weak)
  | free (hk : kd ty o.op = .q) (hs : strongQ ty all bs j = false) (hl : looseQ ty all bs j = false) : AhIs ty all bs j o xs (.quiet .free)
  | alloc (hk : kd ty o.op = .a) : AhIs ty all bs j o xs (.quiet .strong)
  | read {x : Operand} (hk : kd ty o.op = .r x) : AhIs ty all bs j o xs (chkOf (loose ty all bs j fun i k => isQ k && !(strongQ ty all bs i)) x xs)
  | write {x : Operand} (hk : kd ty o.op = .w x) : AhIs ty all bs j o xs (.wr x xs)
  | wfree {x : Operand} (hk : kd ty o.op = .w x) (hl : (loose ty all bs j fun _ k => isR k) = false) : AhIs ty all bs j o xs (.quiet .free)
  | plain (hk : kd ty o.op = .p) : AhIs ty all bs j o xs .plain
theorem Nj {j : Nat} {o : Oper} {ah : Ahead} (h : IM ty all bs j o = some ah) : ∃ xs, apart ty all bs j o all.zipIdx = some xs ∧ AhIs ty all bs j o xs ah := by
  unfold IM at h
  split at h
  · cases h
  · rename_i xs hx
    refine ⟨xs, hx, ?_⟩
    split at h
    · rename_i hk
      split at h
      · rename_i hs; cases h; exact .strong hk hs
      · rename_i hs _; cases h; exact .weak hk hs
      · rename_i hs hl; cases h; exact .free hk hs hl
    · rename_i hk; cases h; exact .alloc hk
    · rename_i hk; cases h; exact .read hk
    · rename_i hk
      split at h
      · cases h; exact .write hk
      · rename_i hl; cases h; exact .wfree hk hl
    · rename_i q1 q2 q3 q4
      cases h
      refine .plain ?_
      cases hk : kd ty o.op with
      | p => rfl
      | a => exact absurd hk q2
      | r x => exact absurd hk (q3 x)
      | w x => exact absurd hk (q4 x)
      | q => exact absurd hk q1
theorem Jx : ∀ {l : List Oper} {j : Nat} {ahs : List Ahead}, Kn ty all bs j l = some ahs → ∀ k o, l[k]? = some o → IM ty all bs (j + k) o = some (ahs.getD k .plain)
  | [], j, ahs, h, k, o, hk => by cases hk
  | o' :: l, j, ahs, h, k, o, hk => by
    unfold Kn at h
    split at h
    · rename_i a ha
      split at h
      · rename_i r hr
        cases h
        cases k with
        | zero => cases hk; exact ha
        | succ k =>
          have := Jx hr k o hk
          have e : j + (k + 1) = j.succ + k := by omega
          rw [e]; exact this
      · cases h
    · cases h
theorem Iu {old : Bool} {x : Operand} {xs : List Operand} : (chkOf old x xs = .plain ∧ old = false ∧ xs = []) ∨ chkOf old x xs = .chk old x xs := by
  unfold chkOf
  cases old <;> cases xs <;> first | exact .inl ⟨rfl, rfl, rfl⟩ | exact .inr rfl
theorem AhIs.ok {j : Nat} {o : Oper} {xs : List Operand} {ah : Ahead} (h : AhIs ty all bs j o xs ah) : AhOk ty o ah := by
  cases h with
  | strong hk _ => exact ⟨(fun _ _ h => by rw [hk] at h; rcases h with h | ⟨_, h⟩ <;> cases h), (fun _ _ h => by cases h), (fun _ _ _ h => by cases h)⟩
  | weak hk _ => exact ⟨(fun _ _ h => by rw [hk] at h; rcases h with h | ⟨_, h⟩ <;> cases h), (fun _ _ h => by cases h), (fun _ _ _ h => by cases h)⟩
  | free hk _ _ => exact ⟨(fun _ _ h => by rw [hk] at h; rcases h with h | ⟨_, h⟩ <;> cases h), (fun _ _ h => by cases h), (fun _ _ _ h => by cases h)⟩
  | alloc hk => exact ⟨(fun _ _ h => by rw [hk] at h; rcases h with h | ⟨_, h⟩ <;> cases h), (fun _ _ h => by cases h), (fun _ _ _ h => by cases h)⟩
  | read hk =>
    rcases Iu (old := loose ty all bs j fun i k => isQ k && !(strongQ ty all bs i)) (xs := xs) with ⟨h, _⟩ | h
    · rw [h]; exact .plain ty o
    · rw [h]; exact ⟨(fun _ h => by cases h), (fun _ _ h => by cases h), (fun _ _ _ h => by cases h; exact hk)⟩
  | write hk => exact ⟨(fun _ h => by cases h), (fun _ _ h => by cases h; exact hk), (fun _ _ _ h => by cases h)⟩
  | wfree hk _ => exact ⟨(fun _ _ h => by rw [hk] at h; rcases h with h | ⟨_, h⟩ <;> cases h), (fun _ _ h => by cases h), (fun _ _ _ h => by cases h)⟩
  | plain hk => exact .plain ty o
theorem AhIs.tame {j : Nat} {o : Oper} {xs : List Operand} {ah : Ahead} (h : AhIs ty all bs j o xs ah) : Tame ty o ah := by
  cases h with
  | read hk => exact .inl (.inr ⟨_, hk⟩)
  | plain hk => exact .inl (.inl hk)
  | _ => exact .inr ⟨(fun h => by cases h), (fun _ _ _ h => by cases h)⟩
end
end
end Go.Proofs.YtfeldadhbnmklaaGreat
