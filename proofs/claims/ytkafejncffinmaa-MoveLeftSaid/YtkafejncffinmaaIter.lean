/-
  Walks through maps.
-/
import Derived.Test.YtkafejncffinmaaCall
set_option linter.unusedSimpArgs false
set_option linter.unusedVariables false
namespace Go.Proofs.Ytkafejncffinmaa
open Go

section
variable {P : Program} {ty : TTy} {φ : Phi} {E : Nat → Prop} {h h' : Hp} {w : World} {F : CallF} {e : Env} {v : Value} {f : Fr}

/-- a new block that is no row -/
theorem newObj_ok (H : RelW ty φ E h w) {o : Blk} {ob : Obj} (hr : newBlk h o ptrNew = .ok v h')
    (hB : RelB ty (φ.put h.next { blk := w.heap.size, off := 0, sz := 0, room := 0, es := 1 }) { blk := w.heap.size, off := 0, sz := 0, room := 0, es := 1 } o (some ob)) :
    Gives ty φ E h w v h' (.ok (.pointer (some ⟨w.heap.size, 0, none⟩)) { w with heap := w.heap.push ob }) := by
  obtain ⟨bl, hbl, hk⟩ := newBlk_ok hr
  cases hk
  let w' : World := { w with heap := w.heap.push ob }
  have hs : w'.heap.size = w.heap.size + 1 := by simp [w']
  have hsame : ∀ k, k < w.heap.size → w'.heap[k]? = w.heap[k]? := fun k hk => by
    show (w.heap.push _)[k]? = _
    rw [Array.getElem?_push_lt hk, Array.getElem?_eq_getElem hk]
  refine ⟨_, w', φ.put h.next { blk := w.heap.size, off := 0, sz := 0, room := 0, es := 1 }, rfl, ptr_new (Phi.put_self _ _ _) rfl,
    H.new hbl (by omega) (by show w.heap.size < _; omega) (fun j q e _ => by have := (H.dom j q e).2; show _ ≠ w.heap.size; omega) (fun k hk _ => hsame k hk) ?_,
    .made H hbl (Nat.le_refl _) (by omega) hsame rfl rfl rfl⟩
  have : w'.heap[w.heap.size]? = some ob := by show (w.heap.push _)[w.heap.size]? = _; simp
  rw [this]
  exact hB
theorem oRange_ok (H : RelW ty φ E h w) (hE : ∀ b, ¬ E b) {x : O} {x' : Value} {t kt el : TypeId} {ti : TI} (T : TyOk P t ti) (hk : ti.k = .map kt el) (hx : RelV φ (x e) x') (hr : oRange x F e h = .ok v h') :
    Gives ty φ E h w v h' ((Instr.range t x').run P w) := by
  obtain ⟨d, hd, hkd⟩ := T.desc
  rw [hk] at hkd; cases hkd
  unfold oRange at hr
  split at hr
  · rename_i hxe
    rw [hxe] at hx
    cases hx
    have key : (Instr.range t (.map none)).run P w = .ok (.pointer (some ⟨w.heap.size, 0, none⟩)) { w with heap := w.heap.push (.mapIter none 0 #[] 0) } := by
      simp only [Instr.range, Sem.run_bind, hd, Result.andThen_ok, Sem.run_pure, run_newObj]
    rw [key]
    exact newObj_ok H hr (.iter0 rfl)
  · rename_i r hxe
    rw [hxe] at hx
    cases hx with
    | @map _ p hp =>
      split at hr
      case h_2 => cases hr
      rename_i es c hes
      obtain ⟨es', hw, hrel⟩ := H.entsAt hp (hE r) hes
      have key : (Instr.range t (.map (some p.blk))).run P w = .ok (.pointer (some ⟨w.heap.size, 0, none⟩)) { w with heap := w.heap.push (.mapIter (some p.blk) c #[] c) } := by
        simp only [Instr.range, Sem.run_bind, hd, Result.andThen_ok, getObj_run hw rfl, Sem.run_pure, run_newObj]
      rw [key]
      exact newObj_ok H hr (.iter rfl (Phi.put_le H.none_next _ _ hp))
  · cases hr

theorem memL_is (n : Nat) : ∀ l : List Nat, memL n l = l.contains n
  | [] => rfl
  | x :: l => by
    unfold memL
    rw [memL_is n l, List.contains_cons]
    cases hb : Nat.beq x n with
    | true =>
      have : x = n := nat_beq.1 hb
      subst this; simp
    | false =>
      have : ¬ n = x := fun h => by rw [h, Nat.beq_refl] at hb; cases hb
      simp [this]
theorem pushL_is (n : Nat) : ∀ l : List Nat, pushL n l = l ++ [n]
  | [] => rfl
  | x :: l => congrArg (x :: ·) (pushL_is n l)
theorem leftE_ok {since : Nat} {seen : List Nat} : ∀ {es : List Ent} {es' : List MapEntry} {l : List Ent}, RelE φ es es' → leftE since seen es = some l →
    ∃ l', RelE φ l l' ∧ es'.filter (fun e => !seen.contains e.born) = l' ∧ l'.filter (fun e => decide (e.born < since)) = l' ∧ l'.filter (fun e => decide (e.born ≥ since)) = []
  | _, _, l, .nil, h => by cases h; exact ⟨[], .nil, rfl, rfl, rfl⟩
  | _, _, l, .cons (b := b) hk hv t, h => by
    unfold leftE at h
    split at h
    · rename_i r hr
      obtain ⟨l', h1, h2, h3, h4⟩ := leftE_ok t hr
      rw [memL_is] at h
      cases hm : seen.contains b with
      | true =>
        simp only [hm, cond_true] at h
        cases h
        exact ⟨l', h1, by rw [List.filter_cons]; simp only [hm, Bool.not_true, Bool.false_eq_true, if_false]; exact h2, h3, h4⟩
      | false =>
        simp only [hm, cond_false] at h
        obtain ⟨hb, h⟩ : Nat.blt b since = true ∧ _ = some l := by
          cases hb : Nat.blt b since with
          | true => rw [hb] at h; exact ⟨rfl, h⟩
          | false => rw [hb] at h; cases h
        cases h
        have hlt := nat_blt.1 hb
        refine ⟨_, .cons hk hv h1, by rw [List.filter_cons]; simp only [hm, Bool.not_false, if_true]; rw [h2], ?_, ?_⟩
        · rw [List.filter_cons]; simp [hlt, h3]
        · rw [List.filter_cons]; simp [Nat.not_le.2 hlt, h4]
    · cases h
theorem allYoung_is {last : Nat} : ∀ {es : List Ent} {es' : List MapEntry}, RelE φ es es' → es'.all (fun e => decide (e.born ≥ last)) = allYoung last es
  | _, _, .nil => rfl
  | _, _, .cons (b := b) hk hv t => by
    unfold allYoung
    rw [List.all_cons, allYoung_is t]
    cases hb : Nat.ble last b with
    | true => simp [nat_ble.1 hb]
    | false =>
      have : ¬ last ≤ b := fun h => by rw [nat_ble.2 h] at hb; cases hb
      simp [this]

theorem iter_ok {b : Nat} {m : Option Nat} {s : Nat} {l : List Nat} {t : Nat} (hr : iterB (h.bl.get b) = .ok m s l t) : h.bl.get b = .iter m s l t := by
  unfold iterB at hr
  split at hr <;> first | (cases hr; assumption) | cases hr
theorem cur_ok {b m s t : Nat} (hr : iterB (h.bl.get b) = .cur m s t) : h.bl.get b = .cur m s t := by
  unfold iterB at hr
  split at hr <;> first | (cases hr; assumption) | cases hr
theorem pick_ok {b m s t : Nat} {sn : Option (List Nat)} (hr : iterB (h.bl.get b) = .pick m s t sn) : h.bl.get b = .pick m s t sn := by
  unfold iterB at hr
  split at hr <;> first | (cases hr; assumption) | cases hr
theorem over_rel : RelV φ (.tuple ⟨[.bool false]⟩) (.tuple #[.bool false]) := .tuple (.cons (.bool _) .nil)
theorem oNext_ok (H : RelW ty φ E h w) (hE : ∀ b, ¬ E b) {x : O} {x' : Value} {t : TypeId} (hx : RelV φ (x e) x') (hr : oNext x F e h = .ok v h') : Gives ty φ E h w v h' ((Instr.next x' false t).run P w) := by
  unfold oNext at hr
  split at hr
  case h_2 => cases hr
  rename_i a ha
  obtain ⟨hb, hr⟩ := bif_ok hr
  obtain ⟨a', rfl, hra⟩ := adr_rel hx ha
  obtain ⟨p, hp, rfl⟩ := hra.eq
  have hoff : a.off = 0 := nat_beq.1 hb
  unfold nextF at hr
  split at hr
  · rename_i s l tl hit
    cases hr
    have hrow := H.row a.block p hp (hE _)
    rw [iter_ok hit] at hrow
    generalize hw : w.heap[p.blk]? = ob at hrow
    cases hrow with
    | iter0 hp0 =>
      have key : (Instr.next (.pointer (some ⟨p.blk, p.off + a.off, none⟩)) false t).run P w = .ok (.tuple #[.bool false]) w := by
        rw [hp0, hoff]
        simp only [Instr.next, Sem.run_bind, getObj_run hw rfl, Result.andThen_ok, Sem.run_pure]
      rw [key]; exact .same H over_rel
  · rename_i m since seen last hit
    have hrow := H.row a.block p hp (hE _)
    rw [iter_ok hit] at hrow
    generalize hw : w.heap[p.blk]? = ob at hrow
    cases hrow with
    | @iter _ q _ _ _ hp0 hq =>
      split at hr
      case h_2 => cases hr
      rename_i es c hes
      obtain ⟨es', hwm, hrel⟩ := H.entsAt hq (hE m) hes
      rw [hp0, hoff]
      have hmatch : ∃ k : R, k = .ok v h' ∧ (!(⟨seen⟩ : Array Nat).isEmpty && !(⟨es'⟩ : Array MapEntry).isEmpty && (⟨es'⟩ : Array MapEntry).all (fun e => decide (e.born ≥ last))) = false ∧
          k = (match leftE since seen es with
            | some [] => overF h
            | some [x] => putBlk h a.block (.iter (some m) since (pushL x.born seen) c) fun h => .ok (.tuple ⟨[.bool true, x.key, x.val]⟩) h
            | _ => .no) := by
        have hall : (⟨es'⟩ : Array MapEntry).all (fun e => decide (e.born ≥ last)) = allYoung last es := by
          rw [← allYoung_is hrel]; simp
        cases seen with
        | nil => exact ⟨_, hr, by simp, rfl⟩
        | cons s0 sl =>
          cases hrel with
          | nil => exact ⟨_, hr, by simp, rfl⟩
          | cons hk hv tl =>
            simp only at hr
            rw [hall]
            generalize hy : allYoung last _ = y at hr ⊢
            cases y with
            | true => cases hr
            | false => exact ⟨_, hr, by simp, rfl⟩
      obtain ⟨k, hk, hstop, rfl⟩ := hmatch
      cases hl : leftE since seen es with
      | none => rw [hl] at hk; cases hk
      | some l =>
        rw [hl] at hk
        obtain ⟨l', q1, q2, q3, q4⟩ := leftE_ok hrel hl
        have f1 : (⟨es'⟩ : Array MapEntry).filter (fun e => !(⟨seen⟩ : Array Nat).contains e.born) = ⟨l'⟩ := by
          rw [← q2]; apply Array.ext'; simp
        have f2 : (⟨l'⟩ : Array MapEntry).filter (fun e => decide (e.born < since)) = ⟨l'⟩ := by
          apply Array.ext'; rw [Array.toList_filter]; exact q3
        have f3 : (⟨l'⟩ : Array MapEntry).filter (fun e => decide (e.born ≥ since)) = #[] := by
          apply Array.ext'; rw [Array.toList_filter]; exact q4
        cases q1 with
        | nil =>
          cases hk
          have key : (Instr.next (.pointer (some ⟨p.blk, 0, none⟩)) false t).run P w = .ok (.tuple #[.bool false]) w := by
            simp only [Instr.next, Sem.run_bind, getObj_run hw rfl, Result.andThen_ok, getObj_run hwm rfl, hstop, Bool.false_eq_true, if_false, f1, f2, f3]
            simp [run_choose, Question.forced]
          have : p.off + a.off = 0 := by omega
          rw [show (0 : Nat) + 0 = 0 from rfl, key]; exact .same H over_rel
        | cons hkk hvv tl =>
          cases tl with
          | cons _ _ _ => cases hk
          | nil =>
            rename_i k0 k1 v0 v1 b0
            have hlive : Live h a.block := by unfold Live; rw [iter_ok hit]; intro hd; cases hd
            simp only at hk
            obtain ⟨h1, hk2, H1, ev⟩ := putObj_ok (ob := .mapIter (some q.blk) since ⟨seen ++ [b0]⟩ c) H (hE _) hp hlive hk (by rw [iter_ok hit]; exact .inr trivial) (by rw [pushL_is]; exact .iter hp0 hq)
            cases hk2
            have key : (Instr.next (.pointer (some ⟨p.blk, 0, none⟩)) false t).run P w = .ok (.tuple #[.bool true, k1, v1]) { w with heap := w.heap.setIfInBounds p.blk (.mapIter (some q.blk) since ⟨seen ++ [b0]⟩ c) } := by
              have hset := setObj_run (P := P) (ob' := .mapIter (some q.blk) since ⟨seen ++ [b0]⟩ c) hw rfl
              simp only [Instr.next, Sem.run_bind, getObj_run hw rfl, Result.andThen_ok, getObj_run hwm rfl, hstop, Bool.false_eq_true, if_false, f1, f2, f3]
              simp [run_choose, Question.forced, hset]
            rw [key]; exact ⟨_, _, φ, rfl, .tuple (.cons (.bool _) (.cons hkk (.cons hvv .nil))), H1, ev⟩
  · cases hr
  · cases hr
  · rename_i m s last hit
    have hrow := H.row a.block p hp (hE _)
    rw [pick_ok hit] at hrow
    cases hrow

theorem lastL_is : ∀ l : List Nat, lastL l = l.getLast?
  | [] => rfl
  | [x] => rfl
  | x :: y :: l => by
    show lastL (y :: l) = _
    rw [lastL_is (y :: l)]; rfl
theorem findB_ok {n : Nat} : ∀ {es : List Ent} {es' : List MapEntry} {x : Ent}, RelE φ es es' → findB n es = some x → ∃ x', es'.find? (fun e => e.born == n) = some x' ∧ RelV φ x.key x'.key ∧ RelV φ x.val x'.val
  | _, _, x, .nil, h => by cases h
  | _, _, x, .cons (k' := k') (v' := v') (b := b) hk hv t, h => by
    unfold findB at h
    rw [List.find?_cons]
    cases hb : Nat.beq b n with
    | true =>
      simp only [hb, cond_true] at h
      cases h
      have : b = n := nat_beq.1 hb
      subst this
      refine ⟨⟨k', v', b⟩, ?_, hk, hv⟩
      simp only [beq_self_eq_true]
    | false =>
      simp only [hb, cond_false] at h
      have hne : (b == n) = false := by
        rw [beq_eq_false_iff_ne]; intro he; rw [he, Nat.beq_refl] at hb; cases hb
      obtain ⟨x', q1, q2⟩ := findB_ok t h
      exact ⟨x', by simp only [hne]; exact q1, q2⟩
theorem entryAt_ok (H : RelW ty φ E h w) (hE : ∀ b, ¬ E b) {m s last : Nat} {q : Pl} (hq : φ m = some q) (hr : entryAt m s last h = .ok v h') :
    h' = h ∧ ∃ (es' : List MapEntry) (c : Nat) (en' : MapEntry) (k0 v0 : Value), w.heap[q.blk]? = some (.map ⟨es'⟩ c) ∧ c = last ∧ (⟨es'⟩ : Array MapEntry).find? (fun e => e.born == s) = some en' ∧ v = .tuple ⟨[k0, v0]⟩ ∧ RelV φ k0 en'.key ∧ RelV φ v0 en'.val := by
  unfold entryAt at hr
  split at hr
  case h_2 => cases hr
  rename_i es c hes
  obtain ⟨hc, hr⟩ := bif_ok hr
  split at hr
  case h_2 => cases hr
  rename_i en hen
  cases hr
  obtain ⟨es', hwm, hrel⟩ := H.entsAt hq (hE m) hes
  obtain ⟨en', q1, q2, q3⟩ := findB_ok hrel hen
  exact ⟨rfl, es', c, en', _, _, hwm, nat_beq.1 hc, by rw [← q1]; simp, rfl, q2, q3⟩
theorem oEntry_ok (H : RelW ty φ E h w) (hE : ∀ b, ¬ E b) {x : O} {x' : Value} (hx : RelV φ (x e) x') (hr : oEntry x F e h = .ok v h') : Gives ty φ E h w v h' ((Instr.entry x').run P w) := by
  unfold oEntry at hr
  split at hr
  case h_2 => cases hr
  rename_i a ha
  obtain ⟨hb, hr⟩ := bif_ok hr
  obtain ⟨a', rfl, hra⟩ := adr_rel hx ha
  obtain ⟨p, hp, rfl⟩ := hra.eq
  have hoff : a.off = 0 := nat_beq.1 hb
  have main : ∀ {m s last : Nat} {q : Pl} {sn : Nat} {seen : List Nat}, φ m = some q → p.off = 0 → w.heap[p.blk]? = some (.mapIter (some q.blk) sn ⟨seen⟩ last) → seen.getLast? = some s → entryAt m s last h = .ok v h' →
      Gives ty φ E h w v h' ((Instr.entry (.pointer (some ⟨p.blk, p.off + a.off, none⟩))).run P w) := by
    intro m s last q sn seen hq hp0 hw hl hr
    obtain ⟨rfl, es', c, en', k0, v0, hwm, rfl, hfind, rfl, q2, q3⟩ := entryAt_ok H hE hq hr
    have hback : (⟨seen⟩ : Array Nat).back? = some s := by
      rw [← hl]; simp [Array.back?_eq_getElem?, List.getLast?_eq_getElem?]
    rw [hp0, hoff]
    have key : (Instr.entry (.pointer (some ⟨p.blk, 0, none⟩))).run P w = .ok (.tuple #[en'.key, en'.val]) w := by
      simp only [Instr.entry, Sem.run_bind, getObj_run hw rfl, Result.andThen_ok, hback, getObj_run hwm rfl, bne_self_eq_false, Bool.false_eq_true, if_false, hfind, Sem.run_pure]
    rw [key]; exact .same H (.tuple (.cons q2 (.cons q3 .nil)))
  unfold entryF at hr
  split at hr
  · rename_i m since seen last hit
    have hrow := H.row a.block p hp (hE _)
    rw [iter_ok hit] at hrow
    generalize hw : w.heap[p.blk]? = ob at hrow
    cases hrow with
    | @iter _ q _ _ _ hp0 hq =>
      split at hr
      case h_2 => cases hr
      rename_i st hst
      exact main hq hp0 hw (by rw [← lastL_is]; exact hst) hr
  · rename_i m st last hit
    have hrow := H.row a.block p hp (hE _)
    rw [cur_ok hit] at hrow
    generalize hw : w.heap[p.blk]? = ob at hrow
    cases hrow with
    | cur hp0 hq hl => exact main hq hp0 hw hl hr
  · cases hr
end
end Go.Proofs.Ytkafejncffinmaa
