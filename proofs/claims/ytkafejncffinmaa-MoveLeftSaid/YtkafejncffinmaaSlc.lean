/-
  Slices: cut, made, built, measured, copied.
-/
import Derived.Test.YtkafejncffinmaaMem
set_option linter.unusedSimpArgs false
set_option linter.unusedVariables false
namespace Go.Proofs.Ytkafejncffinmaa
open Go

/-- what need not be there -/
inductive RelO (φ : Phi) (e : Env) : Option O → Option Value → Prop
  | none : RelO φ e none none
  | some {o : O} {x : Value} (h : RelV φ (o e) x) : RelO φ e (some o) (some x)

section
variable {P : Program} {ty : TTy} {φ : Phi} {E : Nat → Prop} {h h' : Hp} {w : World} {F : CallF} {e : Env} {v : Value}

theorem bound_ok {o : O} {x : Value} (hx : RelV φ (o e) x) {d y : Nat} {k : Nat → R} (hr : bound e (some o) d y k = .ok v h') :
    ∃ n, n ≤ y ∧ k n = .ok v h' ∧ ∀ Y, n ≤ Y → ∀ code w, (Instr.sliceBound x Y code).run P w = .ok n w := by
  unfold bound at hr
  simp only at hr
  split at hr
  case h_2 => cases hr
  rename_i n hn
  obtain ⟨hb, hr⟩ := bif_ok hr
  obtain ⟨k', rfl⟩ := natV_rel hx hn
  refine ⟨n, nat_ble.1 hb, hr, fun Y hY code w => ?_⟩
  have h2 : (0 : Int) ≤ (n : Int) ∧ (n : Int) ≤ (Y : Int) := by omega
  simp only [Instr.sliceBound, asIntOf, Sem.run_bind, Sem.run_pure, Result.andThen_ok, h2, and_self, if_true, Int.toNat_natCast]

theorem bound_none (d y : Nat) (k : Nat → R) : bound e none d y k = k d := rfl
/-- bounds: len and cap of the machine's; the model's cap may be more -/
theorem bounds_ok {lo hi mx : Option O} {lo' hi' mx' : Option Value} (hl : RelO φ e lo lo') (hh : RelO φ e hi hi') (hm : RelO φ e mx mx') {len cap cap' : Nat} (hc : cap ≤ cap') (hlen : len ≤ cap)
    {k : Nat → Nat → Nat → R} (hr : bounds e len cap lo hi mx k = .ok v h') (s : Bool) :
    ∃ l b m, k l b m = .ok v h' ∧ l ≤ b ∧ b ≤ m ∧ m ≤ cap ∧ (mx.isSome = false → m = cap) ∧ ∀ w, (Instr.sliceBounds s len cap' lo' hi' mx').run P w = .ok (l, b, if mx.isSome then m else cap') w := by
  unfold bounds at hr
  cases hm with
  | none =>
    simp only at hr
    cases hh with
    | none =>
      rw [bound_none] at hr
      cases hl with
      | none => exact ⟨0, len, cap, hr, Nat.zero_le _, hlen, Nat.le_refl _, fun _ => rfl, fun w => rfl⟩
      | some hl =>
        obtain ⟨l, h1, hk, hs⟩ := bound_ok (P := P) hl hr
        exact ⟨l, len, cap, hk, h1, hlen, Nat.le_refl _, fun _ => rfl, fun w => by
          simp only [Instr.sliceBounds, Sem.run_bind, Sem.run_pure, Result.andThen_ok, hs len h1]; rfl⟩
    | some hh =>
      obtain ⟨b, h2, hr, hs2⟩ := bound_ok (P := P) hh hr
      cases hl with
      | none => exact ⟨0, b, cap, hr, Nat.zero_le _, h2, Nat.le_refl _, fun _ => rfl, fun w => by
          simp only [Instr.sliceBounds, Sem.run_bind, Sem.run_pure, Result.andThen_ok, hs2 cap' (Nat.le_trans h2 hc)]; rfl⟩
      | some hl =>
        obtain ⟨l, h1, hk, hs⟩ := bound_ok (P := P) hl hr
        exact ⟨l, b, cap, hk, h1, h2, Nat.le_refl _, fun _ => rfl, fun w => by
          simp only [Instr.sliceBounds, Sem.run_bind, Sem.run_pure, Result.andThen_ok, hs2 cap' (Nat.le_trans h2 hc), hs b h1]; rfl⟩
  | some hm =>
    simp only at hr
    obtain ⟨m, h3, hr, hs3⟩ := bound_ok (P := P) hm hr
    cases hh with
    | none => cases hr
    | some hh =>
      simp only at hr
      obtain ⟨b, h2, hr, hs2⟩ := bound_ok (P := P) hh hr
      cases hl with
      | none => exact ⟨0, b, m, hr, Nat.zero_le _, h2, h3, fun h => (by cases h), fun w => by
          simp only [Instr.sliceBounds, Sem.run_bind, Sem.run_pure, Result.andThen_ok, hs3 cap' (Nat.le_trans h3 hc), hs2 m h2]; rfl⟩
      | some hl =>
        obtain ⟨l, h1, hk, hs⟩ := bound_ok (P := P) hl hr
        exact ⟨l, b, m, hk, h1, h2, h3, fun h => (by cases h), fun w => by
          simp only [Instr.sliceBounds, Sem.run_bind, Sem.run_pure, Result.andThen_ok, hs3 cap' (Nat.le_trans h3 hc), hs2 m h2, hs b h1]; rfl⟩

theorem RelS.le {a a' : Addr} {c c' : Nat} (h : RelS φ a c a' c') : c ≤ c' := by
  obtain ⟨_, _, p, _, _, h | h⟩ := h
  · rcases h.2.2 with h | h
    · exact Nat.le_of_eq h.symm
    · exact h.2.1
  · omega

theorem sliceOf_is (a : Option Addr) (size l b m : Nat) (h : Hp) :
    sliceOf a size l b m h = .ok (.slice (if m = l then a else a.map fun a => if l * size = 0 then a else ⟨a.block, a.off + l * size, none⟩) (b - l) (m - l)) h := by
  unfold sliceOf
  rw [forceN_is, forceN_is]
  by_cases hml : m = l
  · subst hml; rw [Nat.beq_refl, if_pos rfl]; rfl
  · have hb : Nat.beq m l = false := by
      cases hb : Nat.beq m l
      · rfl
      · exact absurd (nat_beq.1 hb) hml
    rw [hb, if_neg hml]
    cases a with
    | none => rfl
    | some a =>
      have e : Nat.mul l size = l * size := rfl
      rw [e]
      cases hm : l * size with
      | zero => rw [Option.map_some, if_pos rfl]; rfl
      | succ q => rw [Option.map_some, if_neg (Nat.succ_ne_zero q)]; simp only [forceN_is]; rfl

theorem cut_rel {a a' : Addr} {c c' : Nat} (hs : RelS φ a c a' c') {size l b m : Nat} (hlb : l ≤ b) (hbm : b ≤ m) (hmc : m ≤ c) {mx : Bool} (hm : mx = false → m = c)
    (hfit : mx = false → 0 < l → ∀ p, φ a.block = some p → p.es = size ∨ (p.room = p.sz ∧ p.es = 1)) :
    RelV φ (.slice (if m = l then some a else (some a).map fun a => if l * size = 0 then a else ⟨a.block, a.off + l * size, none⟩) (b - l) (m - l))
      (.slice (if (if mx then m else c') = l then some a' else (some a').map (·.add (l * size))) (b - l) ((if mx then m else c') - l)) := by
  obtain ⟨s1, s2, p, hp, hb, hor⟩ := hs
  obtain ⟨ab, ao, asp⟩ := a
  obtain ⟨ab', ao', asp'⟩ := a'
  simp only at s1 s2 hp hb hor
  subst s1; subst s2; subst hb
  simp only [Option.map_some, Addr.add_is]
  have hle : m ≤ (if mx then m else c') := by
    cases mx
    · have := hm rfl
      simp only [Bool.false_eq_true, if_false]
      rcases hor with h | h
      · rcases h.2.2 with h | h <;> omega
      · omega
    · simp
  by_cases hml : m = l
  · rw [if_pos hml]
    by_cases hml' : (if mx then m else c') = l
    · rw [if_pos hml']
      refine .slice (by omega) ⟨rfl, rfl, p, hp, rfl, .inr ⟨by omega, .inl (by omega)⟩⟩
    · rw [if_neg hml']
      cases mx with
      | true => exact absurd hml hml'
      | false =>
        simp only [Bool.false_eq_true, if_false] at hml' hle ⊢
        have hmc' := hm rfl
        refine .slice (by omega) ⟨rfl, rfl, p, hp, rfl, .inr ⟨by omega, .inr ?_⟩⟩
        simp only
        rcases Nat.eq_zero_or_pos l with h0 | h0
        · subst h0
          simp only [Nat.zero_mul, Nat.add_zero, Nat.sub_zero]
          rcases hor with h | h
          · omega
          · rcases h.2 with h | h
            · omega
            · exact h
        · rcases hor with ⟨_, hoff, h | ⟨h1, h2, h3⟩⟩ | h
          · omega
          · rcases hfit rfl h0 p hp with he | ⟨hr1, hr2⟩
            · have hcl : c = l := by omega
              have hmul : (c' - l) * p.es + l * p.es = c' * p.es := by rw [← Nat.add_mul]; congr 1; omega
              subst hcl
              rw [← he]
              omega
            · rw [hr2] at h1 h3; omega
          · omega
  · have hne : ¬ ((if mx = true then m else c') = l) := by omega
    rw [if_neg hml, if_neg hne]
    have hpos : 0 < c := by omega
    rcases hor with ⟨_, hoff, hcap⟩ | h
    case inr => omega
    have hA : ∀ X : Addr, X = (if l * size = 0 then (⟨ab, ao, none⟩ : Addr) else ⟨ab, ao + l * size, none⟩) → X = ⟨ab, ao + l * size, none⟩ := by
      intro X hX; rw [hX]; split
      · rename_i h; rw [h]; rfl
      · rfl
    rw [hA _ rfl]
    refine .slice (by omega) ⟨rfl, rfl, p, hp, rfl, .inl ⟨by omega, by simp only; omega, ?_⟩⟩
    cases mx with
    | true => exact .inl rfl
    | false =>
      simp only [Bool.false_eq_true, if_false]
      have hmc' := hm rfl
      subst hmc'
      rcases hcap with h | ⟨h1, h2, h3⟩
      · exact .inl (by rw [h])
      · rcases Nat.eq_zero_or_pos l with h0 | h0
        · subst h0; refine .inr ?_; simp only [Nat.zero_mul, Nat.add_zero, Nat.sub_zero]; exact ⟨h1, h2, h3⟩
        · rcases hfit rfl h0 p hp with he | ⟨hr1, hr2⟩
          · refine .inr ?_
            have e1 : (m - l) * p.es + l * p.es = m * p.es := by rw [← Nat.add_mul]; congr 1; omega
            have e2 : (c' - l) * p.es + l * p.es = c' * p.es := by rw [← Nat.add_mul]; congr 1; omega
            rw [← he]
            omega
          · rw [hr2] at h1 h3; exact .inl (by omega)

theorem fits_ok (H : RelW ty φ E h w) {el : Nat} {ei : TI} (hty : ty.get el = some ei) {a : Addr} (hf : fitsE el (some a) h = true) : ∀ p, φ a.block = some p → p.es = ei.size ∨ (p.room = p.sz ∧ p.es = 1) := by
  intro p hp
  unfold fitsE at hf
  simp only at hf
  split at hf
  · rename_i c s en hrow
    have hk := H.kind a.block p c s en hp (rowOf_ok hrow)
    rcases hk.2 with ⟨_, h1, h2, _⟩ | ⟨t, ti, h1, h2, h3⟩
    · exact .inr ⟨h1, h2⟩
    · subst h1
      have : t = el := nat_beq.1 hf
      subst this
      rw [hty] at h2; cases h2; exact .inl h3
  · cases hf

theorem oCut_ok (H : RelW ty φ E h w) {x : O} {x' : Value} {t el : TypeId} {ti ei : TI} (T : TyOk P t ti) (hk : ti.k = .slice el) (hty : ty.get el = some ei) (TE : TyOk P el ei)
    {lo hi mx : Option O} {lo' hi' mx' : Option Value} (hx : RelV φ (x e) x') (hl : RelO φ e lo lo') (hh : RelO φ e hi hi') (hm : RelO φ e mx mx')
    (hr : oCut el ei.size x lo hi mx F e h = .ok v h') : Gives ty φ E h w v h' ((Instr.sliceAt t x' lo' hi' mx').run P w) := by
  unfold oCut at hr
  split at hr
  case h_2 => cases hr
  rename_i a n c hxe
  rw [hxe] at hx
  obtain ⟨d, hd, hkd⟩ := T.desc
  rw [hk] at hkd
  cases hkd
  cases hx with
  | slice0 =>
    · obtain ⟨l, b, m, hk2, h1, h2, h3, h4, hs⟩ := bounds_ok (P := P) hl hh hm (Nat.le_refl 0) (Nat.le_refl 0) hr true
      have hcut : sliceOf none ei.size l b m h = .ok v h' := by
        unfold cutF at hk2
        split at hk2
        · exact hk2
        · split at hk2
          · exact hk2
          · exact (bif_ok hk2).2
      rw [sliceOf_is] at hcut
      cases hcut
      have key : (Instr.sliceAt t (.slice none 0 0) lo' hi' mx').run P w = .ok (.slice none (b - l) (m - l)) w := by
        have hmm : (if mx.isSome then m else 0) = m := by
          split
          · rfl
          · rename_i hf; exact (h4 (by simpa using hf)).symm
        rw [hmm] at hs
        simp only [Instr.sliceAt, Instr.slice, Sem.run_bind, hd, Result.andThen_ok, hs, TE.size, Sem.run_pure, Option.map_none, ite_self]
      rw [key]
      simp only [Option.map_none, ite_self]
      have e1 : m = 0 := by omega
      have e2 : b = 0 := by omega
      have e3 : l = 0 := by omega
      subst e1; subst e2; subst e3
      exact .same H .slice0
  | @slice a a' _ _ c' hn hsl =>
    obtain ⟨l, b, m, hk2, h1, h2, h3, h4, hs⟩ := bounds_ok (P := P) hl hh hm hsl.le hn hr true
    have hcut : sliceOf (some a) ei.size l b m h = .ok v h' ∧ (mx.isSome = false → 0 < l → ∀ p, φ a.block = some p → p.es = ei.size ∨ (p.room = p.sz ∧ p.es = 1)) := by
      unfold cutF at hk2
      split at hk2
      · rename_i hmx; exact ⟨hk2, fun hf => by rw [hmx] at hf; cases hf⟩
      · split at hk2
        · exact ⟨hk2, fun _ h0 => absurd h0 (Nat.lt_irrefl 0)⟩
        · obtain ⟨hf, hk2⟩ := bif_ok hk2
          exact ⟨hk2, fun _ _ => fits_ok H hty hf⟩
    obtain ⟨hcut, hfit⟩ := hcut
    rw [sliceOf_is] at hcut
    cases hcut
    have key : (Instr.sliceAt t (.slice (some a') n c') lo' hi' mx').run P w =
        .ok (.slice (if (if mx.isSome then m else c') = l then some a' else (some a').map (·.add (l * ei.size))) (b - l) ((if mx.isSome then m else c') - l)) w := by
      simp only [Instr.sliceAt, Instr.slice, Sem.run_bind, hd, Result.andThen_ok, hs, TE.size, Sem.run_pure]
    rw [key]
    exact .same H (cut_rel hsl h1 h2 h3 h4 hfit)
end
end Go.Proofs.Ytkafejncffinmaa
