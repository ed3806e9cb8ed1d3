/-
  A region's operations in any order that its edges allow: one operation more.
-/
import Derived.Test.YtkafejncffinmaaOpen
set_option linter.unusedSimpArgs false
set_option linter.unusedVariables false
namespace Go.Proofs.Ytkafejncffinmaa
open Go

section
variable {P : Program} {ty : TTy} {N : Nat} {all : List Oper} {ρ : Nat → Rho} {H : Nat → Hp} {V : Nat → Value} {T : Nat → Nat → Prop} {φ0 : Phi} {w0 : World} {B : Nat → Nat → Prop}

/-- with the new blocks of one operation -/
def join (φ ψ : Phi) (lo hi : Nat) : Phi := fun b => if lo ≤ b ∧ b < hi then ψ b else φ b
open Classical in
noncomputable def joinC (C : Nat → Blk) (h : Hp) (lo : Nat) (W : Prop) : Nat → Blk := fun b => if b < h.next ∧ (lo ≤ b ∨ W) then h.bl.get b else C b

theorem Inv.after (L : Laws ty all ρ H T B) {run : Nat → Bool} {ahs : List Ahead} (tr : Tr P ty all ahs all ρ H V run T) (txt : Txt P ty N φ0 ρ H V T all.length) {S : Nat → Prop} {φ : Phi} {C : Nat → Blk} {a : Act} {w : World} (I : Inv ty N all ρ H T φ0 w0 S φ C a w)
    {i : Nat} {o : Oper} (ho : all[i]? = some o) (hS : ¬ S i) (hpre : ∀ j, B j i → S j) (hcl : ∀ j k, S j → B k j → S k) (hN : ∀ d, o.dst = some d → d < N)
    {ψ : Phi} {v' : Value} {w' : World} (hv : RelV ψ (V i) v') (HW : RelW ty ψ (Early all.length T S (H i) i) (H (i + 1)) w') (eff : Eff (T i) (upto φ (H i).next) (H i) w ψ (H (i + 1)) w') :
    Inv ty N all ρ H T φ0 w0 (fun j => S j ∨ j = i) (join φ ψ (H i).next (H (i + 1)).next) (joinC C (H (i + 1)) (H i).next (∃ c, T i c)) (a.put o.dst v') w' := by
  have hi : i < all.length := by
    rcases Nat.lt_or_ge i all.length with h | h
    · exact h
    · rw [List.getElem?_eq_none h] at ho; cases ho
  have hnS : ∀ j, B i j → ¬ S j := fun j hb hj => hS (hcl j i hj hb)
  have fx : ∀ j, j ≠ i → (B i j ∨ B j i) → (j < i → S j) ∧ (i ≤ j → ¬ S j) := by
    intro j hj hb
    rcases hb with hb | hb
    · have := L.lt i j hb
      exact ⟨fun h => by omega, fun _ => hnS j hb⟩
    · have := L.lt j i hb
      exact ⟨fun _ => hpre j hb, fun h => by omega⟩
  have hnext := txt.next i hi
  have hn1 : i + 1 ≤ all.length := hi
  -- a writer: nothing has changed ahead of its time
  have hE : (∃ c, T i c) → ∀ b, ¬ Early all.length T S (H i) i b := by
    rintro ⟨c, hc⟩ b ⟨hb, hne⟩
    refine hne fun j hj hT => ?_
    by_cases hji : j = i
    · subst hji; exact ⟨fun h => absurd h (Nat.lt_irrefl _), fun _ => hS⟩
    · exact fx j hji (L.fixed i j o b (fun h => hji h.symm) ho hj hT (L.kinds i o c ho hc))
  have hnone : ∀ b, (H i).next ≤ b → b < (H (i + 1)).next → φ b = none := by
    intro b h1 h2
    cases hb : φ b with
    | none => rfl
    | some p =>
      exfalso
      rcases (I.dom b p hb).2 with h | ⟨j, hj, hjn, h3, h4⟩
      · have := txt.mono (Nat.zero_le i) (Nat.le_of_lt hi)
        omega
      · rcases Nat.lt_trichotomy j i with h | h | h
        · have := txt.mono (i := j + 1) (k := i) h (Nat.le_of_lt hi); omega
        · subst h; exact hS hj
        · have := txt.mono (i := i + 1) (k := j) h (Nat.le_of_lt hjn); omega
  have jnew : ∀ {b}, (H i).next ≤ b → b < (H (i + 1)).next → join φ ψ (H i).next (H (i + 1)).next b = ψ b := fun h1 h2 => if_pos ⟨h1, h2⟩
  have jold : ∀ {b}, ¬ ((H i).next ≤ b ∧ b < (H (i + 1)).next) → join φ ψ (H i).next (H (i + 1)).next b = φ b := fun h => if_neg h
  have jle : φ.Le (join φ ψ (H i).next (H (i + 1)).next) := by
    intro b p hb
    rw [jold fun h => by rw [hnone b h.1 h.2] at hb; cases hb]; exact hb
  have jψ : ψ.Le (join φ ψ (H i).next (H (i + 1)).next) := by
    intro b p hb
    have h2 := (HW.dom b p hb).1
    rcases Nat.lt_or_ge b (H i).next with h | h
    · rw [jold (by omega)]
      rcases eff.new b p hb with h3 | h3
      · exact (upto_some h3).2
      · omega
    · rw [jnew h h2]; exact hb
  have jcase : ∀ {b p}, join φ ψ (H i).next (H (i + 1)).next b = some p → ((H i).next ≤ b ∧ b < (H (i + 1)).next ∧ ψ b = some p) ∨ ((b < (H i).next ∨ (H (i + 1)).next ≤ b) ∧ φ b = some p) := by
    intro b p hb
    by_cases h : (H i).next ≤ b ∧ b < (H (i + 1)).next
    · rw [jnew h.1 h.2] at hb; exact .inl ⟨h.1, h.2, hb⟩
    · rw [jold h] at hb; exact .inr ⟨by omega, hb⟩
  have upψ : ∀ {b p}, φ b = some p → b < (H i).next → ψ b = some p := by
    intro b p hb h
    refine eff.le b p ?_
    unfold upto; rw [if_pos h]; exact hb
  have cnew : ∀ {b}, b < (H (i + 1)).next → ((H i).next ≤ b ∨ ∃ c, T i c) → joinC C (H (i + 1)) (H i).next (∃ c, T i c) b = (H (i + 1)).bl.get b := fun h1 h2 => if_pos ⟨h1, h2⟩
  have cold : ∀ {b}, ¬ (b < (H (i + 1)).next ∧ ((H i).next ≤ b ∨ ∃ c, T i c)) → joinC C (H (i + 1)) (H i).next (∃ c, T i c) b = C b := fun h => if_neg h
  -- of a writer: what was there is as the machine has it
  have lk : (∃ c, T i c) → ∀ b p, φ b = some p → b < (H i).next → C b = (H i).bl.get b := by
    intro hw b p hb h
    refine I.link i (Nat.le_of_lt hi) b p hb h fun j hj hT => ?_
    by_cases hh : (j < i → S j) ∧ (i ≤ j → ¬ S j)
    · exact hh
    · exact absurd ⟨h, fun hall => hh (hall j hj hT)⟩ (hE hw b)
  have live : ∀ {b}, b < (H i).next → (H (i + 1)).bl.get b ≠ .dead → (H i).bl.get b ≠ .dead := fun h hl => (eff.shape _ h).live hl
  have injA : ∀ {b c p q}, (H (i + 1)).next ≤ c → φ c = some q → C c ≠ .dead → b < (H (i + 1)).next → join φ ψ (H i).next (H (i + 1)).next b = some p → joinC C (H (i + 1)) (H i).next (∃ c, T i c) b ≠ .dead → (p.inp = false ∨ q.inp = false) → p.blk ≠ q.blk := by
    intro b c p q hc hq hlc hb hp hlb hio hpq
    rcases jcase hp with ⟨h1, h2, h3⟩ | ⟨h1, h3⟩
    · rw [cnew h2 (.inl h1)] at hlb
      obtain ⟨j, q', e1, e2, e3, ei, e4⟩ := eff.back b p h3 hlb (hpq ▸ (I.dom c q hq).1)
      obtain ⟨e5, e6⟩ := upto_some e1
      rcases e4 with rfl | e4
      · omega
      · have := I.inj j c q' q e6 hq (by rw [lk ⟨j, e4⟩ j q' e6 e5]; exact e2) hlc (by rw [ei]; exact hio) (e3.trans hpq)
        omega
    · have hb' : b < (H i).next := by omega
      have hl : C b ≠ .dead := by
        by_cases hw : ∃ c, T i c
        · rw [cnew hb (.inr hw)] at hlb
          rw [lk hw b p h3 hb']; exact live hb' hlb
        · rw [cold (by rintro ⟨_, h | h⟩; omega; exact hw h)] at hlb; exact hlb
      have := I.inj b c p q h3 hq hl hlc hio hpq
      omega
  refine { dom := ?_, inj := ?_, row := ?_, kind := ?_, inp := (fun b p hp hi => by rcases jcase hp with ⟨_, _, h3⟩ | ⟨_, h3⟩; exact HW.inp b p h3 hi; exact I.inp b p h3 hi), link := ?_, chg := ?_, full := ?_, slot := ?_, size := (by rw [put_size]; exact I.size), defs := (by rw [put_defs]; exact I.defs), le := I.le.trans jle, new := ?_, sz := Nat.le_trans I.sz eff.size, tape := eff.tape.trans I.tape, os := eff.os.trans I.os, output := eff.output.trans I.output, frame := ?_, back := ?_ }
  · -- dom
    intro b p hp
    rcases jcase hp with ⟨h1, h2, h3⟩ | ⟨h1, h3⟩
    · exact ⟨(HW.dom b p h3).2, .inr ⟨i, .inr rfl, hi, h1, h2⟩⟩
    · obtain ⟨q1, q2⟩ := I.dom b p h3
      exact ⟨Nat.lt_of_lt_of_le q1 eff.size, q2.imp id fun ⟨j, hj, r⟩ => ⟨j, .inl hj, r⟩⟩
  · -- inj
    intro b c p q hp hq hlb hlc hio hpq
    rcases Nat.lt_or_ge b (H (i + 1)).next with hb | hb
    · rcases Nat.lt_or_ge c (H (i + 1)).next with hc | hc
      · have toψ : ∀ {b p}, b < (H (i + 1)).next → join φ ψ (H i).next (H (i + 1)).next b = some p → ψ b = some p := by
          intro b p hb hp
          rcases jcase hp with ⟨_, _, h3⟩ | ⟨h1, h3⟩
          · exact h3
          · exact upψ h3 (by omega)
        have pb := toψ hb hp
        have pc := toψ hc hq
        by_cases hw : ∃ c, T i c
        · rw [cnew hb (.inr hw)] at hlb
          rw [cnew hc (.inr hw)] at hlc
          exact HW.inj b c p q pb pc (hE hw b) (hE hw c) hlb hlc hio hpq
        · rcases Nat.lt_or_ge b (H i).next with hb2 | hb2
          · rcases Nat.lt_or_ge c (H i).next with hc2 | hc2
            · rw [cold (by rintro ⟨_, h | h⟩; omega; exact hw h)] at hlb
              rw [cold (by rintro ⟨_, h | h⟩; omega; exact hw h)] at hlc
              rw [jold (by omega)] at hp hq
              exact I.inj b c p q hp hq hlb hlc hio hpq
            · exfalso
              rw [jold (by omega)] at hp
              rw [cnew hc (.inl hc2)] at hlc
              obtain ⟨j, q', e1, e2, e3, _, e4⟩ := eff.back c q pc hlc (hpq ▸ (I.dom b p hp).1)
              rcases e4 with rfl | e4
              · have := (upto_some e1).1; omega
              · exact hw ⟨j, e4⟩
          · rw [cnew hb (.inl hb2)] at hlb
            rcases Nat.lt_or_ge c (H i).next with hc2 | hc2
            · exfalso
              rw [jold (by omega)] at hq
              obtain ⟨j, q', e1, e2, e3, _, e4⟩ := eff.back b p pb hlb (hpq ▸ (I.dom c q hq).1)
              rcases e4 with rfl | e4
              · have := (upto_some e1).1; omega
              · exact hw ⟨j, e4⟩
            · rw [cnew hc (.inl hc2)] at hlc
              exact HW.inj b c p q pb pc (fun h => by have := h.1; omega) (fun h => by have := h.1; omega) hlb hlc hio hpq
      · rw [jold (by omega)] at hq
        rw [cold (by omega)] at hlc
        exact absurd hpq (injA hc hq hlc hb hp hlb hio)
    · rcases Nat.lt_or_ge c (H (i + 1)).next with hc | hc
      · rw [jold (by omega)] at hp
        rw [cold (by omega)] at hlb
        exact absurd hpq.symm (injA hb hp hlb hc hq hlc hio.symm)
      · rw [jold (by omega)] at hp hq
        rw [cold (by omega)] at hlb hlc
        exact I.inj b c p q hp hq hlb hlc hio hpq
  · -- row
    intro b p hp
    by_cases hb : b < (H (i + 1)).next ∧ ((H i).next ≤ b ∨ ∃ c, T i c)
    · rw [cnew hb.1 hb.2]
      have hψ : ψ b = some p := by
        rcases jcase hp with ⟨_, _, h3⟩ | ⟨h1, h3⟩
        · exact h3
        · exact upψ h3 (by omega)
      refine (HW.row b p hψ ?_).mono jψ
      rcases hb.2 with h | h
      · intro hE; have := hE.1; omega
      · exact hE h b
    · rw [cold hb]
      have hφ : φ b = some p := by
        rcases jcase hp with ⟨h1, h2, _⟩ | ⟨_, h3⟩
        · exact absurd ⟨h2, .inl h1⟩ hb
        · exact h3
      by_cases hd : C b = .dead
      · rw [hd]; exact .dead
      · have hr := (I.row b p hφ).mono jle
        rw [eff.frame p.blk (I.dom b p hφ).1 fun c q e1 en e2 e3 e4 => ?_]
        · exact hr
        · obtain ⟨e5, e6⟩ := upto_some e1
          have := I.inj c b q p e6 hφ (by rw [lk ⟨c, e2⟩ c q e6 e5]; exact e3) hd (.inl en) e4
          subst this
          exact hb ⟨by omega, .inr ⟨c, e2⟩⟩
  · -- kind
    intro k hk b p c s e hp hb he
    rcases jcase hp with ⟨h1, h2, h3⟩ | ⟨_, h3⟩
    · have hik : i + 1 ≤ k := by
        rcases Nat.lt_or_ge i k with h | h
        · exact h
        · have := txt.mono (i := k) (k := i) h (Nat.le_of_lt hi); omega
      have hs := txt.shapes (i := i + 1) (k := k) h2 hik hk
      rw [he] at hs
      obtain ⟨c', hc'⟩ := hs.cells
      exact HW.kind b p c' s e h3 hc'
    · exact I.kind k hk b p c s e h3 hb he
  · -- link
    intro k hk b p hp hb hyp
    rcases Nat.lt_or_ge i k with hik | hik
    · -- behind it
      rcases jcase hp with ⟨h1, h2, h3⟩ | ⟨h1, h3⟩
      · rw [cnew h2 (.inl h1)]
        refine (txt.same (i := i + 1) hik hk fun m hm1 hm2 => ?_).symm
        by_cases hm : S m
        · by_cases hc : (H (m + 1)).bl.get b = (H m).bl.get b
          · exact hc
          · have := txt.mono (i := i + 1) (k := m) hm1 (by omega)
            obtain ⟨q, hq⟩ := I.chg m hm (by omega) b (by omega) hc
            rw [hnone b h1 h2] at hq; cases hq
        · have := txt.mono (i := i + 1) (k := m) hm1 (by omega)
          refine txt.kept m (by omega) b (by omega) fun hT => ?_
          rcases (hyp m (by omega) hT).1 hm2 with h | h
          · exact hm h
          · omega
      · rcases h1 with h1 | h1
        · by_cases hw : ∃ c, T i c
          · rw [cnew (by omega) (.inr hw)]
            refine (txt.same (i := i + 1) hik hk fun m hm1 hm2 => ?_).symm
            have := txt.mono (i := i + 1) (k := m) hm1 (by omega)
            refine txt.kept m (by omega) b (by omega) fun hT => ?_
            obtain ⟨c, hc⟩ := hw
            have hfx := fx m (by omega) (L.fixed i m o b (by omega) ho (by omega) hT (L.kinds i o c ho hc))
            rcases (hyp m (by omega) hT).1 hm2 with h | h
            · exact hfx.2 (by omega) h
            · omega
          · rw [cold (by rintro ⟨_, h | h⟩; omega; exact hw h)]
            refine I.link k hk b p h3 hb fun j hj hT => ⟨fun h => ?_, fun h => ?_⟩
            · rcases (hyp j hj hT).1 h with h | h
              · exact h
              · subst h; exact absurd ⟨b, hT⟩ hw
            · exact fun hSj => (hyp j hj hT).2 h (.inl hSj)
        · rw [cold (by omega)]
          refine I.link k hk b p h3 hb fun j hj hT => ⟨fun h => ?_, fun h => ?_⟩
          · rcases (hyp j hj hT).1 h with h | h
            · exact h
            · subst h; have := L.tlt j b hj hT; omega
          · exact fun hSj => (hyp j hj hT).2 h (.inl hSj)
    · -- ahead of it
      have hkm := txt.mono (i := k) (k := i) hik (Nat.le_of_lt hi)
      have h3 : φ b = some p := by
        rcases jcase hp with ⟨h1, _, _⟩ | ⟨_, h3⟩
        · omega
        · exact h3
      have l1 : C b = (H k).bl.get b := I.link k hk b p h3 hb fun j hj hT => ⟨fun h => by
          rcases (hyp j hj hT).1 h with h2 | h2
          · exact h2
          · omega, fun h hSj => (hyp j hj hT).2 h (.inl hSj)⟩
      by_cases hw : ∃ c, T i c
      · rw [cnew (by omega) (.inr hw)]
        have hnT : ¬ T i b := fun hT => (hyp i hi hT).2 hik (.inr rfl)
        rw [eff.kept b (by omega) hnT, ← lk hw b p h3 (by omega)]; exact l1
      · rw [cold (by rintro ⟨_, h | h⟩; omega; exact hw h)]; exact l1
  · -- chg
    intro j hj hjn b hb hc
    rcases hj with hj | rfl
    · obtain ⟨p, hp⟩ := I.chg j hj hjn b hb hc
      exact ⟨p, jle b p hp⟩
    · cases hu : upto φ (H j).next b with
      | none => exact absurd (eff.only b hb hu) hc
      | some p => exact ⟨p, jle b p (upto_some hu).2⟩
  · -- full
    intro j hj hjn b h1 h2
    rcases hj with hj | rfl
    · obtain ⟨p, hp⟩ := I.full j hj hjn b h1 h2
      exact ⟨p, jle b p hp⟩
    · obtain ⟨p, hp⟩ := eff.all b h1 h2
      exact ⟨p, jψ b p hp⟩
  · -- slot
    intro k hk t u hyp hu
    rw [put_getD]
    by_cases hd : o.dst = some t
    · rw [if_pos ⟨hd, by rw [I.size]; exact hN t hd⟩]
      have hik : i < k := by
        rcases Nat.lt_or_ge i k with h | h
        · exact h
        · exact absurd (.inr rfl) ((hyp i o ho hd).2 h)
      have hu2 : ρ (i + 1) t = some u := by
        refine tr.backward (i := i + 1) hik hk (fun m om h1 h2 hom hdm => ?_) hu
        have hfx := fx m (by omega) (L.slots i m o om t (by omega) ho hom hd (.inl hdm))
        rcases (hyp m om hom hdm).1 h2 with h | h
        · exact hfx.2 (by omega) h
        · omega
      have := (tr.sf i o ho).slot t u hu2
      rw [if_pos hd] at this
      rw [this]; exact hv.mono jψ
    · rw [if_neg fun h => hd h.1]
      refine (I.slot k hk t u (fun j oj hoj hdj => ?_) hu).mono jle
      have hji : j ≠ i := fun h => by subst h; rw [ho] at hoj; cases hoj; exact hd hdj
      refine ⟨fun h => ?_, fun h hSj => (hyp j oj hoj hdj).2 h (.inl hSj)⟩
      rcases (hyp j oj hoj hdj).1 h with h2 | h2
      · exact h2
      · exact absurd h2 hji
  · -- new
    intro b p hp
    rcases jcase hp with ⟨h1, _, _⟩ | ⟨_, h3⟩
    · have := txt.mono (Nat.zero_le i) (Nat.le_of_lt hi)
      exact .inr (by omega)
    · exact I.new b p h3
  · -- frame
    intro k hk hc
    rw [eff.frame k (Nat.lt_of_lt_of_le hk I.sz) fun c q e1 en e2 e3 e4 => ?_]
    · exact I.frame k hk hc
    · obtain ⟨e5, e6⟩ := upto_some e1
      obtain ⟨c0, q0, f1, f2, f3, fi, f4⟩ := I.back c q e6 (by rw [lk ⟨c, e2⟩ c q e6 e5]; exact e3) (by rw [e4]; exact hk)
      have hlo : (H all.length).low ≤ c0 ∧ c0 ≤ (H all.length).high := by
        rcases f4 with rfl | f4
        · exact L.tout i _ hi e2
        · exact f4
      exact hc c0 q0 f1 (fi.trans en) hlo.1 hlo.2 f2 (f3.trans e4)
  · -- back
    intro b p hp hl hlt
    rcases jcase hp with ⟨h1, h2, h3⟩ | ⟨h1, h3⟩
    · rw [cnew h2 (.inl h1)] at hl
      obtain ⟨j, q, e1, e2, e3, ei, e4⟩ := eff.back b p h3 hl (Nat.lt_of_lt_of_le hlt I.sz)
      obtain ⟨e5, e6⟩ := upto_some e1
      rcases e4 with rfl | e4
      · omega
      · obtain ⟨c0, q0, f1, f2, f3, fi, f4⟩ := I.back j q e6 (by rw [lk ⟨j, e4⟩ j q e6 e5]; exact e2) (by rw [e3]; exact hlt)
        refine ⟨c0, q0, f1, f2, f3.trans e3, fi.trans ei, .inr ?_⟩
        rcases f4 with rfl | f4
        · exact L.tout i _ hi e4
        · exact f4
    · refine I.back b p h3 ?_ hlt
      by_cases hb : b < (H (i + 1)).next ∧ ((H i).next ≤ b ∨ ∃ c, T i c)
      · have hb' : b < (H i).next := by omega
        rw [cnew hb.1 hb.2] at hl
        have hw : ∃ c, T i c := hb.2.resolve_left (by omega)
        rw [lk hw b p h3 hb']; exact live hb' hl
      · rw [cold hb] at hl; exact hl
end
end Go.Proofs.Ytkafejncffinmaa
