/-
  'MendSafe' of layer 14 answers true, whatever memory it is called in, however many indexes, whatever need, version and answers it is handed and whatever the tape answers: no condition. What the canonical machine gives is shown for any of them (YthcfmklkbakkpaaMdx); that machine is sound for the model (YthcfmklkbakkpaaFns).
  Answers that came in: what is known of a slice of them, and the rows that the machine holds for it.
-/
import Derived.Test.YthcfmklkbakkpaaZO
import Derived.Test.YthcfmklkbakkpaaRows
import Derived.ProofKit
import Derived.OpenShut
import Derived.Carry
set_option linter.unusedVariables false
set_option linter.unusedSimpArgs false
namespace Go.Proofs.Ythcfmklkbakkpaa
noncomputable section
open Go Go.RowKit Go.WideShapes Go.ChangeShapes
set_option maxRecDepth 100000
theorem Pr {W : World} {a : Addr} {v : Value} (h : W.cell? a = some v) : a.spot = none ∧ ∃ cs tt fr, W.heap[a.block]? = some (.cells cs tt fr) ∧ cs[a.off]? = some v := by
  unfold World.cell? at h
  split at h
  · rename_i cs tt fr hb
    split at h
    · cases h
    · rename_i hs
      refine ⟨?_, cs, tt, fr, hb, h⟩
      cases hsp : a.spot with
      | none => rfl
      | some s => rw [hsp] at hs; exact (hs rfl).elim
  · cases h
theorem RQ {W : World} {a : Addr} {L : List Value} {cs : Array Value} {tt : TypeId} {fr : Nat × Nat} (hb : W.heap[a.block]? = some (.cells cs tt fr)) (hc : ∀ j, j < L.length → cs[a.off + j]? = some (L.getD j noRes)) (hf : ∀ j, j < L.length → W.frozen? ⟨a.block, a.off + j, none⟩ = false) : HJ W a L := by
  refine ⟨cs, tt, fr, hb, hc, fun i hi hh => ?_⟩
  have h6 := hf i hi
  obtain ⟨lo, hi'⟩ := fr
  simp only [World.frozen?, hb] at h6
  simp only at hh
  simp only [Bool.and_eq_false_iff, decide_eq_false_iff_not] at h6
  omega
theorem N2 {α : Type} {Q : Nat → α → Prop} : ∀ n, (∀ i, i < n → ∃ x, Q i x) → ∃ xs : List α, xs.length = n ∧ ∀ i x, xs[i]? = some x → Q i x
  | 0, _ => ⟨[], rfl, fun i x h => by cases h⟩
  | n + 1, h => by
    obtain ⟨xs, hl, hx⟩ := N2 n fun i hi => h i (by omega)
    obtain ⟨y, hy⟩ := h n (by omega)
    refine ⟨xs ++ [y], by rw [List.length_append, hl]; rfl, fun i x hi => ?_⟩
    rcases Nat.lt_or_ge i xs.length with h1 | h1
    · rw [List.getElem?_append_left h1] at hi; exact hx i x hi
    · rw [List.getElem?_append_right h1] at hi
      have h2 : i - xs.length < [y].length := (List.getElem?_eq_some_iff.1 hi).1
      have h2 : i - xs.length < 1 := h2
      have h3 : i - xs.length = 0 := by omega
      rw [h3] at hi
      cases hi
      rw [show i = n by omega]; exact hy
theorem D5 {s : Nat} : ∀ {Ls : List (List Value)}, (∀ l ∈ Ls, l.length = s) → Ls.flatten.length = Ls.length * s
  | [], _ => by simp
  | l :: Ls, h => by
    rw [List.flatten_cons, List.length_append, h l List.mem_cons_self, D5 fun x hx => h x (List.mem_cons_of_mem _ hx), List.length_cons, Nat.succ_mul, Nat.add_comm]
theorem K1 {s : Nat} : ∀ {Ls : List (List Value)} {i r : Nat} {l : List Value}, (∀ l ∈ Ls, l.length = s) → Ls[i]? = some l → r < s → Ls.flatten[i * s + r]? = l[r]?
  | [], i, _, _, _, h, _ => by cases h
  | x :: Ls, 0, r, l, h, hi, hr => by
    cases hi
    rw [List.flatten_cons, Nat.zero_mul, Nat.zero_add, List.getElem?_append_left (by rw [h x List.mem_cons_self]; exact hr)]
  | x :: Ls, i + 1, r, l, h, hi, hr => by
    have hx := h x List.mem_cons_self
    rw [List.flatten_cons, List.getElem?_append_right (by rw [hx, Nat.succ_mul]; omega), hx]
    have : (i + 1) * s + r - s = i * s + r := by rw [Nat.succ_mul]; omega
    rw [this]
    exact K1 (fun y hy => h y (List.mem_cons_of_mem _ hy)) hi hr
theorem G7 {s : Nat} : ∀ {Ls : List (List Value)} {i : Nat} {l : List Value} (R : List Value), (∀ l ∈ Ls, l.length = s) → Ls[i]? = some l → ((Ls.flatten ++ R).drop (i * s)).take s = l
  | [], i, _, _, _, h => by cases h
  | x :: Ls, 0, l, R, h, hi => by
    cases hi
    rw [Nat.zero_mul, List.drop_zero, List.flatten_cons, List.append_assoc]
    exact List.take_left' (h x List.mem_cons_self)
  | x :: Ls, i + 1, l, R, h, hi => by
    have hx := h x List.mem_cons_self
    have : (i + 1) * s = s + i * s := by rw [Nat.succ_mul, Nat.add_comm]
    rw [this, ← List.drop_drop, List.flatten_cons, List.append_assoc, List.drop_left' hx]
    exact G7 R (fun y hy => h y (List.mem_cons_of_mem _ hy)) hi
def EV (W : World) (Q : List Value → Prop) (s : Nat) (v : Value) (n : Nat) (Ls : List (List Value)) : Prop := (∀ l ∈ Ls, l.length = s ∧ Q l) ∧ n ≤ Ls.length ∧
  ((v = BA ∧ Ls = []) ∨ (∃ a, v = .slice (some a) 0 0 ∧ Ls = []) ∨ ∃ a, v = .slice (some a) n Ls.length ∧ 0 < Ls.length ∧ a.spot = none ∧ HJ W a Ls.flatten)
theorem KR {H : Type} {enc : TypeId × Value → H} {P : Program} {t e : TypeId} {s : Nat} (ht : P.underlying t = some (.slice e)) (hs : P.cellsOf e = s) (h0 : 0 < s) {W : World} {fuel : Nat} {v : Value} {x : DataW H × List MemPlace} {Q : List Value → Prop}
    (dec : ∀ (m : Nat) (l : List Value) (y : DataW H × List MemPlace), l.length = s → DataW.trod enc P W 0 (fun _ => true) true m e l = some y → (∀ b off, MemPlace.cell b off ∈ y.2 → W.frozen? ⟨b, off, none⟩ = false) → Q l)
    (hf : DataW.trod enc P W 0 (fun _ => true) true fuel t [v] = some x) (hfz : ∀ b off, MemPlace.cell b off ∈ x.2 → W.frozen? ⟨b, off, none⟩ = false) : ∃ n Ls, EV W Q s v n Ls := by
  rcases DataW.trod_slice ht hf with ⟨hcs, _⟩ | ⟨a, n, c, elems, rest, m, _, hcs, hx, _, hl, hm, hlen, hel, hsp, _⟩
  · have : v = BA := by simpa using hcs
    exact ⟨0, [], (fun l hl => by cases hl), Nat.le_refl _, .inl ⟨this, rfl⟩⟩
  · have : v = .slice (some a) n c := by simpa using hcs
    subst this
    obtain ⟨hrl, hr⟩ := hsp rfl
    subst hx
    rcases Nat.eq_zero_or_pos c with hc | hc
    · subst hc
      have : n = 0 := by omega
      subst this
      exact ⟨0, [], (fun l hl => by cases hl), Nat.le_refl _, .inr (.inl ⟨a, rfl, rfl⟩)⟩
    · have htot : (elems ++ rest).length = c := by rw [List.length_append]; omega
      have each : ∀ i, i < c → ∃ l : List Value, (l.length = s ∧ Q l) ∧ ∀ j, j < s → W.cell? ((a.add (i * s)).add j) = l[j]? := fun i hi => by
        have hi' : i < (elems ++ rest).length := by omega
        have hb : (W.cells? 0 (a.add (i * P.cellsOf e)) (P.cellsOf e)).bind (DataW.trod enc P W 0 (fun _ => true) true m e) = some ((elems ++ rest)[i]'hi') := by
          rcases Nat.lt_or_ge i n with h4 | h4
          · have := hel i h4
            rw [this, ← List.getElem?_eq_getElem hi', List.getElem?_append_left (by omega)]
          · have := hr (i - n) (by omega)
            rw [show n + (i - n) = i by omega] at this
            rw [this, ← List.getElem?_eq_getElem hi', List.getElem?_append_right (by omega), hlen]
        rw [hs, Option.bind_eq_some_iff] at hb
        obtain ⟨l, h4, h5⟩ := hb
        obtain ⟨_, h6, h7⟩ := World.cells?_some h4
        exact ⟨l, ⟨h6, dec m l _ h6 h5 fun b off hm => hfz b off (List.mem_append_right _ (List.mem_flatMap.2 ⟨_, List.getElem_mem hi', hm⟩))⟩, h7⟩
      obtain ⟨Ls, hLl, hLs⟩ := N2 c each
      have hall : ∀ l ∈ Ls, l.length = s ∧ Q l := fun l hl => by
        obtain ⟨i, hi, rfl⟩ := List.mem_iff_getElem.1 hl
        exact (hLs i _ (List.getElem?_eq_getElem hi)).1
      have hls : ∀ l ∈ Ls, l.length = s := fun l hl => (hall l hl).1
      have hz : 0 < Ls.length := by omega
      have c0 := (hLs 0 _ (List.getElem?_eq_getElem hz)).2 0 h0
      have hl0 : 0 < (Ls[0]'hz).length := by rw [hls _ (List.getElem_mem hz)]; exact h0
      rw [List.getElem?_eq_getElem hl0, Nat.zero_mul] at c0
      have c0 : W.cell? a = some ((Ls[0]'hz)[0]'hl0) := c0
      obtain ⟨hsp0, cs, tt, fr, hb, _⟩ := Pr c0
      obtain ⟨ab, ao, spot⟩ := a
      simp only at hsp0
      subst hsp0
      have hfl := D5 hls
      refine ⟨n, Ls, hall, by omega, .inr (.inr ⟨⟨ab, ao, none⟩, by rw [hLl], hz, rfl, RQ hb (fun j hj => ?_) fun j hj => hfz ab (ao + j) (List.mem_append_left _ ?_)⟩)⟩
      · rw [hfl] at hj
        have hi : j / s < Ls.length := Nat.div_lt_of_lt_mul (by rw [Nat.mul_comm]; exact hj)
        have hr : j % s < s := Nat.mod_lt _ h0
        have e : j / s * s + j % s = j := by rw [Nat.mul_comm]; exact Nat.div_add_mod j s
        have hx := List.getElem?_eq_getElem hi
        have q := (hLs _ _ hx).2 _ hr
        have g := K1 hls hx hr
        rw [e] at g
        have hll : j % s < (Ls[j / s]'hi).length := by rw [hls _ (List.getElem_mem hi)]; exact hr
        rw [List.getElem?_eq_getElem hll] at q g
        rw [Addr.add_is, Addr.add_is, Fm hb] at q
        rw [List.getD_eq_getElem?_getD, g]
        show cs[ao + j]? = some _
        have : ao + j / s * s + j % s = ao + j := by omega
        rw [← this]; exact q
      · simp only [MemPlace.row, List.mem_map, List.mem_range]
        exact ⟨j, by rw [hfl] at hj; rw [hs, hlen, hrl, show n + (c - n) = c by omega, ← hLl]; exact hj, rfl⟩
theorem Mq {α : Type} {f : α → List Value} : ∀ {Ls : List (List Value)}, (∀ l ∈ Ls, ∃ x, l = f x) → ∃ xs : List α, Ls = xs.map f
  | [], _ => ⟨[], rfl⟩
  | l :: Ls, h => by
    obtain ⟨x, rfl⟩ := h l List.mem_cons_self
    obtain ⟨xs, rfl⟩ := Mq fun l hl => h l (List.mem_cons_of_mem _ hl)
    exact ⟨x :: xs, rfl⟩
theorem OK {φ : Phi} {a : Addr} {n c i m : Nat} (hs : a.spot = none) (hn : n ≤ c) (hc : 0 < c) (hm : 0 < m) (hp : φ i = some (I2 a m)) : RelV φ (.slice (some ⟨i, 0, none⟩) n c) (.slice (some a) n c) := by
  refine .slice hn ⟨rfl, hs, _, hp, rfl, .inl ⟨hc, ?_, .inl rfl⟩⟩
  show a.off = (if m = 0 then 0 else a.off) + 0
  rw [if_neg (by omega), Nat.add_zero]
theorem EV.rel {W : World} {Q : List Value → Prop} {s n : Nat} {v : Value} {Ls : List (List Value)} (b : EV W Q s v n Ls) (h0 : 0 < s) (rf : ∀ l, Q l → ∀ φ, RelL φ l l) (i : Nat) : ∃ (u : Value) (q : Option Pl), OT W Ls.flatten q ∧ (∀ φ, RelL φ Ls.flatten Ls.flatten) ∧ (∀ φ : Phi, φ i = q → RelV φ u v) ∧
    ((u = BA ∧ Ls = []) ∨ (u = .chan (some 0) ∧ Ls = []) ∨ u = .slice (some ⟨i, 0, none⟩) n Ls.length) := by
  obtain ⟨h1, h2, h3⟩ := b
  have hrel : ∀ φ, RelL φ Ls.flatten Ls.flatten := fun φ => by
    clear h2 h3
    induction Ls with
    | nil => exact .nil
    | cons l Ls ih =>
      rw [List.flatten_cons]
      exact (rf l (h1 l List.mem_cons_self).2 φ).append (ih fun l hl => h1 l (List.mem_cons_of_mem _ hl))
  rcases h3 with ⟨rfl, rfl⟩ | ⟨a, rfl, rfl⟩ | ⟨a, rfl, h4, h5, h6⟩
  · exact ⟨BA, none, .inl rfl, hrel, fun _ _ => .slice0, .inl ⟨rfl, rfl⟩⟩
  · have : n = 0 := by simpa using h2
    subst this
    exact ⟨.chan (some 0), none, .inl rfl, hrel, fun _ _ => .slcE, .inr (.inl ⟨rfl, rfl⟩)⟩
  · have hfl := D5 fun l hl => (h1 l hl).1
    refine ⟨.slice (some ⟨i, 0, none⟩) n Ls.length, some (I2 a Ls.flatten.length), .inr ⟨a, rfl, h6⟩, hrel, fun φ hφ => OK h5 h2 h4 (by rw [hfl]; exact Nat.mul_pos h4 h0) hφ, .inr (.inr rfl)⟩
def QI (l : List Value) : Prop := ∃ x : IN, l = K9 x
def QB (l : List Value) : Prop := ∃ x : Nat, l = [bv x]
theorem Vs {l : List Value} (h : QI l) (φ : Phi) : RelL φ l l := by
  obtain ⟨x, rfl⟩ := h
  exact .cons (.int _ _) (.cons (.int _ _) (.cons (.int _ _) (.cons (.int _ _) .nil)))
theorem Vr {l : List Value} (h : QB l) (φ : Phi) : RelL φ l l := by
  obtain ⟨x, rfl⟩ := h
  exact .cons (.int _ _) .nil
theorem TT {W : World} {v : Value} {n : Nat} {Ls : List (List Value)} (b : EV W QI 4 v n Ls) : ∃ il : List IN, il.length = n ∧ ∀ (i : Nat) (u : Value), ((u = BA ∧ Ls = []) ∨ (u = .chan (some 0) ∧ Ls = []) ∨ u = .slice (some ⟨i, 0, none⟩) n Ls.length) → ∀ h : Hp, h.Row i 0 Ls.flatten → h.Inf u il := by
  obtain ⟨h1, h2, _⟩ := b
  obtain ⟨xs, rfl⟩ := Mq fun l hl => (h1 l hl).2
  rw [List.length_map] at h2
  refine ⟨xs.take n, by rw [List.length_take]; omega, fun i u hu h hr => ?_⟩
  have hls : ∀ l ∈ xs.map K9, l.length = 4 := fun l hl => (h1 l hl).1
  rcases hu with ⟨rfl, hx⟩ | ⟨rfl, hx⟩ | rfl
  · have : xs = [] := by simpa using hx
    subst this
    exact .inl ⟨.inl rfl, by simp⟩
  · have : xs = [] := by simpa using hx
    subst this
    exact .inl ⟨.inr ⟨0, rfl⟩, by simp⟩
  · have hl : (xs.take n).length = n := by rw [List.length_take]; omega
    refine .inr ⟨i, 0, _, 0, _, by rw [hl], hr, ?_, fun j hj => ?_⟩
    · rw [hl, D5 hls, List.length_map]; omega
    · rw [hl] at hj
      have hj2 : j < xs.length := by omega
      have hx : (xs.map K9)[j]? = some (K9 (xs[j]'hj2)) := by rw [List.getElem?_map, List.getElem?_eq_getElem hj2]; rfl
      have := G7 [] hls hx
      rw [List.append_nil] at this
      rw [Nat.zero_add, this, List.getD_eq_getElem?_getD, List.getElem?_take, if_pos hj, List.getElem?_eq_getElem hj2]; rfl
theorem Ld : ∀ xs : List Nat, (xs.map fun x => [bv x]).flatten = xs.map bv
  | [] => rfl
  | a :: xs => by rw [List.map_cons, List.flatten_cons, Ld xs]; rfl
theorem XR {W : World} {v : Value} {n : Nat} {Ls : List (List Value)} (b : EV W QB 1 v n Ls) : ∃ l : List Nat, l.length = n ∧ ∀ (i : Nat) (u : Value), ((u = BA ∧ Ls = []) ∨ (u = .chan (some 0) ∧ Ls = []) ∨ u = .slice (some ⟨i, 0, none⟩) n Ls.length) → ∀ h : Hp, h.Row i 0 Ls.flatten → h.By u l := by
  obtain ⟨h1, h2, _⟩ := b
  obtain ⟨xs, rfl⟩ := Mq (f := fun x => [bv x]) fun l hl => (h1 l hl).2
  rw [List.length_map] at h2
  refine ⟨xs.take n, by rw [List.length_take]; omega, fun i u hu h hr => ?_⟩
  rw [Ld] at hr
  rcases hu with ⟨rfl, hx⟩ | ⟨rfl, hx⟩ | rfl
  · have : xs = [] := by simpa using hx
    subst this
    exact .inr (.inl ⟨rfl, by simp⟩)
  · have : xs = [] := by simpa using hx
    subst this
    exact .inl ⟨⟨0, rfl⟩, by simp⟩
  · have hl : (xs.take n).length = n := by rw [List.length_take]; omega
    refine .inr (.inr ⟨i, 0, (xs.map fun x => [bv x]).length, 0, xs.map bv, ?_, hr, ?_, ?_⟩)
    · rw [List.length_map, List.length_map, hl]
    · rw [List.length_map, hl, List.length_map]; omega
    · rw [List.length_map, hl, List.drop_zero, List.map_take]
structure OD where
  o : OP
  vi : Value
  vb : Value
def OD.cells (x : OD) : List Value := opL x.o x.vi x.vb
def Pf (W : World) (x : OD) : Prop := OkE x.o.er ∧ (∃ n Ls, EV W QI 4 x.vi n Ls) ∧ ∃ n Ls, EV W QB 1 x.vb n Ls
theorem ZR {φ : Phi} {o : OP} {ui ub vi vb : Value} (h1 : RelV φ ui vi) (h2 : RelV φ ub vb) : RelL φ (opL o ui ub) (opL o vi vb) :=
  .cons (.int _ _) (.cons (.bool _) (.cons (.bool _) (.cons (.int _ _) (.cons (.int _ _) (.cons (.int _ _) (.cons (.int _ _) (.cons (.int _ _) (.cons (.int _ _) (.cons (.int _ _) (.cons h1 (.cons h2 (.cons (.int _ _) .nil))))))))))))
theorem OE {W : World} : ∀ (xs : List OD), (∀ x ∈ xs, Pf W x) → ∀ k : Nat, ∃ (us : List OD) (qs : List (Option Pl)) (Zs : List (List Value)), us.length = xs.length ∧ qs.length = 2 * xs.length ∧ Zs.length = 2 * xs.length ∧
    (∀ (i : Nat) (q : Option Pl) (L : List Value), qs[i]? = some q → Zs[i]? = some L → OT W L q ∧ ∀ φ, RelL φ L L) ∧ (∀ φ : Phi, (∀ (i : Nat) (q : Option Pl), qs[i]? = some q → φ (i + k) = q) → RelL φ (us.flatMap OD.cells) (xs.flatMap OD.cells)) ∧
    (∀ h : Hp, (∀ (i : Nat) (L : List Value), Zs[i]? = some L → h.Row (i + k) 0 L) → ∀ u ∈ us, OkE u.o.er ∧ ∃ il l, h.Inf u.vi il ∧ h.By u.vb l)
  | [], _, k => ⟨[], [], [], rfl, rfl, rfl, (fun i q L h => by cases h), (fun φ _ => .nil), fun h _ x hx => by cases hx⟩
  | x :: xs, hx, k => by
    obtain ⟨us, qs, Zs, l1, l2, l3, h1, h2, h3⟩ := OE xs (fun y hy => hx y (List.mem_cons_of_mem _ hy)) (k + 2)
    obtain ⟨ho, ⟨n, LI, bI⟩, ⟨n', LB, bB⟩⟩ := hx x List.mem_cons_self
    obtain ⟨ui, q0, i1, i2, i3, i4⟩ := bI.rel (by omega) (fun l h φ => Vs h φ) k
    obtain ⟨ub, q1, j1, j2, j3, j4⟩ := bB.rel (by omega) (fun l h φ => Vr h φ) (k + 1)
    obtain ⟨il, _, hI⟩ := TT bI
    obtain ⟨lb, _, hB⟩ := XR bB
    refine ⟨⟨x.o, ui, ub⟩ :: us, q0 :: q1 :: qs, LI.flatten :: LB.flatten :: Zs, by rw [List.length_cons, List.length_cons, l1], by simp only [List.length_cons]; omega, by simp only [List.length_cons]; omega, fun i q' L e1 e2 => ?_, fun φ hφ => ?_, fun h hr y hy => ?_⟩
    · match i, e1, e2 with
      | 0, e1, e2 => cases e1; cases e2; exact ⟨i1, i2⟩
      | 1, e1, e2 => cases e1; cases e2; exact ⟨j1, j2⟩
      | i + 2, e1, e2 => exact h1 i q' L e1 e2
    · rw [List.flatMap_cons, List.flatMap_cons]
      refine (ZR (i3 φ (by have := hφ 0 q0 rfl; rwa [Nat.zero_add] at this)) (j3 φ (by have := hφ 1 q1 rfl; rwa [Nat.add_comm] at this))).append (h2 φ fun i q' e => ?_)
      have := hφ (i + 2) q' e
      rwa [show i + 2 + k = i + (k + 2) by omega] at this
    · rcases List.mem_cons.1 hy with rfl | hy
      · exact ⟨ho, il, lb, hI k ui i4 h (by have := hr 0 _ rfl; rwa [Nat.zero_add] at this), hB (k + 1) ub j4 h (by have := hr 1 _ rfl; rwa [Nat.add_comm] at this)⟩
      · refine h3 h (fun i L e => ?_) y hy
        have := hr (i + 2) L e
        rwa [show i + 2 + k = i + (k + 2) by omega] at this
theorem OO (φ : Phi) : ∀ L : List Value, RelL φ (List.replicate L.length (Value.chan none)) L
  | [] => .nil
  | _ :: L => .cons .unk (OO φ L)
def Pc (W : World) (φ : Phi) (L : List Value) (q : Option Pl) : Prop := q = none ∨ ∃ a L', q = some (I2 a L.length) ∧ HJ W a L' ∧ RelL φ L L'
theorem OT.irel {W : World} {φ : Phi} {L : List Value} {q : Option Pl} (h : OT W L q) (r : RelL φ L L) : Pc W φ L q := by
  rcases h with h | ⟨a, ha, hr⟩
  · exact .inl h
  · exact .inr ⟨a, L, ha, hr, r⟩
theorem RR {W : World} {ty : TTy} {ps : List (Option Pl)} {Ls : List (List Value)} (h256 : Ls.length ≤ 256) (hlen : ps.length = Ls.length)
    (h : ∀ (i : Nat) (q : Option Pl) (L : List Value), ps[i]? = some q → Ls[i]? = some L → Pc W (JS ps) L q) : RelW ty (JS ps) nil (inH Ls) W :=
  ZF h256 fun i p e => by
    have e : (ps[i]?).getD none = some p := e
    cases hq : ps[i]? with
    | none => rw [hq] at e; cases e
    | some q =>
      rw [hq] at e
      have e : q = some p := e
      subst e
      have hi := (List.getElem?_eq_some_iff.1 hq).1
      have hL := List.getElem?_eq_getElem (l := Ls) (i := i) (by omega)
      rcases h i _ _ hq hL with h | ⟨a, L', ha, hr, hrl⟩
      · cases h
      · obtain rfl := Option.some.inj ha
        exact ⟨a, _, rfl, hL, hr.lt, RI hr hrl⟩
theorem Gj (xs : List OD) : xs.flatMap OD.cells = (xs.map OD.cells).flatten := by rw [List.flatMap_def]
theorem ZT {W : World} {v : Value} {n : Nat} {Ls : List (List Value)} (b : EV W (fun l => ∃ x : OD, l = x.cells ∧ Pf W x) 13 v n Ls) (i k cap : Nat) :
    ∃ (u : Value) (q : Option Pl) (L0 : List Value) (qs : List (Option Pl)) (Zs : List (List Value)), qs.length = 2 * min n cap ∧ Zs.length = 2 * min n cap ∧
    (∀ φ : Phi, φ i = q → (∀ (j : Nat) (q' : Option Pl), qs[j]? = some q' → φ (j + k) = q') → Pc W φ L0 q ∧ RelV φ u v) ∧ (∀ (j : Nat) (q' : Option Pl) (L : List Value), qs[j]? = some q' → Zs[j]? = some L → OT W L q' ∧ ∀ φ, RelL φ L L) ∧
    (∀ h : Hp, h.Wf → h.Row i 0 L0 → (∀ (j : Nat) (L : List Value), Zs[j]? = some L → h.Row (j + k) 0 L) → OpsIn h u n cap) := by
  obtain ⟨h1, h2, h3⟩ := b
  rcases h3 with ⟨rfl, rfl⟩ | ⟨a, rfl, rfl⟩ | ⟨a, rfl, h4, h5, h6⟩
  · have : n = 0 := by simpa using h2
    subst this
    exact ⟨BA, none, [], [], [], by simp, by simp, fun φ _ _ => ⟨.inl rfl, .slice0⟩, (fun j q' L h => by cases h), fun h _ _ _ => ⟨fun g => rfl, fun i hi => absurd hi (Nat.not_lt_zero _)⟩⟩
  · have : n = 0 := by simpa using h2
    subst this
    exact ⟨.chan (some 0), none, [], [], [], by simp, by simp, fun φ _ _ => ⟨.inl rfl, .slcE⟩, (fun j q' L h => by cases h), fun h _ _ _ => ⟨fun g => rfl, fun i hi => absurd hi (Nat.not_lt_zero _)⟩⟩
  · obtain ⟨xs, hxs⟩ : ∃ xs : List OD, Ls = xs.map OD.cells ∧ ∀ x ∈ xs, Pf W x := by
      clear h2 h4 h5 h6
      induction Ls with
      | nil => exact ⟨[], rfl, fun x hx => by cases hx⟩
      | cons l Ls ih =>
        obtain ⟨_, x, rfl, hx⟩ := h1 l List.mem_cons_self
        obtain ⟨xs, rfl, hxs⟩ := ih fun l hl => h1 l (List.mem_cons_of_mem _ hl)
        exact ⟨x :: xs, rfl, fun y hy => by
          rcases List.mem_cons.1 hy with rfl | hy
          · exact hx
          · exact hxs y hy⟩
    obtain ⟨rfl, hok⟩ := hxs
    rw [List.length_map] at h2 h4
    have hml : (xs.take (min n cap)).length = min n cap := by rw [List.length_take]; omega
    obtain ⟨us, qs, Zs, l1, l2, l3, r1, r2, r3⟩ := OE (xs.take (min n cap)) (fun x hx => hok x (List.mem_of_mem_take hx)) k
    have hsplit : (xs.map OD.cells).flatten = (xs.take (min n cap)).flatMap OD.cells ++ (xs.drop (min n cap)).flatMap OD.cells := by
      rw [← Gj, ← List.flatMap_append, List.take_append_drop]
    have hcl : ∀ (ys : List OD), ∀ l ∈ ys.map OD.cells, l.length = 13 := fun ys l hl => by
      obtain ⟨x, _, rfl⟩ := List.mem_map.1 hl; rfl
    have ul : (us.flatMap OD.cells).length = (xs.take (min n cap)).length * 13 := by rw [Gj, D5 (hcl us), List.length_map, l1]
    have vl : ((xs.take (min n cap)).flatMap OD.cells).length = (xs.take (min n cap)).length * 13 := by rw [Gj, D5 (hcl _), List.length_map]
    have hlen0 : (us.flatMap OD.cells ++ List.replicate ((xs.drop (min n cap)).flatMap OD.cells).length (Value.chan none)).length = (xs.map OD.cells).flatten.length := by
      rw [hsplit, List.length_append, List.length_append, List.length_replicate, ul, vl]
    have hpos : 0 < (xs.map OD.cells).flatten.length := by rw [D5 (hcl xs), List.length_map]; omega
    refine ⟨.slice (some ⟨i, 0, none⟩) n (xs.map OD.cells).length, some (I2 a (xs.map OD.cells).flatten.length), us.flatMap OD.cells ++ List.replicate ((xs.drop (min n cap)).flatMap OD.cells).length (Value.chan none), qs, Zs, by rw [l2, hml], by rw [l3, hml], fun φ hφ hq => ⟨.inr ⟨a, (xs.map OD.cells).flatten, by rw [hlen0], h6, ?_⟩, OK h5 (by rw [List.length_map]; exact h2) (by rw [List.length_map]; exact h4) hpos hφ⟩, r1, fun h Wh hrow hrows => ⟨fun g => B3, fun j hj hj80 => ?_⟩⟩
    · rw [hsplit]
      exact (r2 φ hq).append (OO φ _)
    · have hju : j < us.length := by rw [l1, hml]; omega
      have hx : us[j]? = some (us[j]'hju) := List.getElem?_eq_getElem hju
      obtain ⟨ho, il, lb, hI, hB⟩ := r3 h hrows _ (List.getElem_mem hju)
      refine ⟨⟨i, j * 13, none⟩, (us[j]'hju).o, (us[j]'hju).vi, (us[j]'hju).vb, il, lb, fun g xg => ⟨?_, ?_⟩, hI, hB, ho⟩
      · have := Bx (h := g) (n := n) (c := (xs.map OD.cells).length) (es := 13) (b := i) (off := 0) (k := .i64) hj
        rwa [Nat.zero_add] at this
      · have hm : (us.map OD.cells)[j]? = some (us[j]'hju).cells := by rw [List.getElem?_map, hx]; rfl
        have hd := G7 (List.replicate ((xs.drop (min n cap)).flatMap OD.cells).length (Value.chan none)) (hcl us) hm
        rw [← Gj] at hd
        rw [(hrow.ext Wh xg).loadN (by rw [List.length_append, ul]; omega), hd]; rfl
end
end Go.Proofs.Ythcfmklkbakkpaa
namespace Go.Proofs.Ythcfmklkbakkpaa.mendSafe
noncomputable section
open Go Go.ChangeShapes Go.WideShapes Go.ChangeAt Go.RowKit
set_option linter.unusedVariables false
theorem own : ownKnob Try.prog.godebug = none := by kernel_rfl
theorem Hh : laidOutB Try.prog = true := by kernel_rfl
theorem Xl : Try.prog.cellsOf 5 = 1 := by kernel_rfl
theorem Sb : Try.prog.cellsOf 40 = 13 := by kernel_rfl
theorem Sc : Try.prog.cellsOf 73 = 4 := by kernel_rfl
theorem Vq {n : Int} (h : (Lit.int .i64 n).wf = true) : in64 n := by
  simp [Lit.wf, IntKind.min, IntKind.max, IntKind.signed, IntKind.bits] at h
  exact ⟨by omega, by omega⟩
theorem slc {H : Type} {enc : TypeId × Value → H} {P : Program} {W : World} {base t e : Nat} {v : Value} {x : DataW H} {p : List MemPlace} (ht : P.underlying t = some (.slice e)) (h : Value.okWide P W .any base t v) (tx : DataW.Trod enc P W 0 (fun _ => true) true t v x p) :
    ∃ fuel, DataW.trod enc P W 0 (fun _ => true) true fuel t [v] = some (x, p) := by
  have h' : Cell.okWide P W .any base t v := by
    unfold Value.okWide at h
    rw [ht] at h
    exact h
  obtain ⟨fuel, hf⟩ := tx
  refine ⟨fuel, ?_⟩
  rcases NQ ht h' with rfl | ⟨a, n, c, rfl, _⟩ <;> exact hf
section
variable {H : Type} {enc : TypeId × Value → H} {w : World}
set_option maxRecDepth 100000 in
theorem iv (m : Nat) (l : List Value) (y : DataW H × List MemPlace) (hl : l.length = 4) (h : DataW.trod enc Try.prog w 0 (fun _ => true) true m 73 l = some y) (_ : ∀ b off, MemPlace.cell b off ∈ y.2 → w.frozen? ⟨b, off, none⟩ = false) : QI l := by
  match l, hl with
  | [c0, c1, c2, c3], _ =>
    obtain ⟨ys, k, _, _, _, hys, hfs⟩ := DataW.trod_struct Try.underlying73 h
    have hys : ys.length = 4 := hys
    have g0 := hfs 0 _ rfl
    have g1 := hfs 1 _ rfl
    have g2 := hfs 2 _ rfl
    have g3 := hfs 3 _ rfl
    have g0 : DataW.trod enc Try.prog w 0 (fun _ => true) true k 3 [c0] = some (ys[0]'(by omega)) := g0.trans (List.getElem?_eq_getElem _)
    have g1 : DataW.trod enc Try.prog w 0 (fun _ => true) true k 3 [c1] = some (ys[1]'(by omega)) := g1.trans (List.getElem?_eq_getElem _)
    have g2 : DataW.trod enc Try.prog w 0 (fun _ => true) true k 3 [c2] = some (ys[2]'(by omega)) := g2.trans (List.getElem?_eq_getElem _)
    have g3 : DataW.trod enc Try.prog w 0 (fun _ => true) true k 71 [c3] = some (ys[3]'(by omega)) := g3.trans (List.getElem?_eq_getElem _)
    obtain ⟨a0, e0, _⟩ := DataW.trod_int Try.underlying3 g0
    obtain ⟨a1, e1, _⟩ := DataW.trod_int Try.underlying3 g1
    obtain ⟨a2, e2, _⟩ := DataW.trod_int Try.underlying3 g2
    obtain ⟨a3, e3, _⟩ := DataW.trod_int Try.underlying71 g3
    cases e0; cases e1; cases e2; cases e3
    exact ⟨⟨a0, a1, a2, a3⟩, rfl⟩
theorem ir (m : Nat) (l : List Value) (y : DataW H × List MemPlace) (hl : l.length = 1) (h : DataW.trod enc Try.prog w 0 (fun _ => true) true m 5 l = some y) (_ : ∀ b off, MemPlace.cell b off ∈ y.2 → w.frozen? ⟨b, off, none⟩ = false) : QB l := by
  obtain ⟨a0, e0, _, hw⟩ := DataW.trod_int Try.underlying5 h
  have := bounds_u8 hw
  subst e0
  exact ⟨a0.toNat, by
    show [Value.int .u8 a0] = [Value.int .u8 ((a0.toNat : Nat) : Int)]
    rw [Int.toNat_of_nonneg this.1]⟩
set_option maxRecDepth 100000 in
theorem iu (m : Nat) (c0 c1 c2 : Value) (y : DataW H × List MemPlace) (h : DataW.trod enc Try.prog w 0 (fun _ => true) true m 34 [c0, c1, c2] = some y) : ∃ x : Int × Int × Int, [c0, c1, c2] = errL x ∧ OkE x := by
  obtain ⟨ys, k, _, _, _, hys, hfs⟩ := DataW.trod_struct Try.underlying34 h
  have hys : ys.length = 3 := hys
  have g0 := hfs 0 _ rfl
  have g1 := hfs 1 _ rfl
  have g2 := hfs 2 _ rfl
  have g0 : DataW.trod enc Try.prog w 0 (fun _ => true) true k 3 [c0] = some (ys[0]'(by omega)) := g0.trans (List.getElem?_eq_getElem _)
  have g1 : DataW.trod enc Try.prog w 0 (fun _ => true) true k 32 [c1] = some (ys[1]'(by omega)) := g1.trans (List.getElem?_eq_getElem _)
  have g2 : DataW.trod enc Try.prog w 0 (fun _ => true) true k 3 [c2] = some (ys[2]'(by omega)) := g2.trans (List.getElem?_eq_getElem _)
  obtain ⟨a0, e0, _, w0⟩ := DataW.trod_int Try.underlying3 g0
  obtain ⟨a1, e1, _, w1⟩ := DataW.trod_int Try.underlying32 g1
  obtain ⟨a2, e2, _, w2⟩ := DataW.trod_int Try.underlying3 g2
  cases e0; cases e1; cases e2
  have := bounds_u8 w1
  exact ⟨(a0, a1, a2), rfl, ⟨Vq w0, ⟨this.1, by show a1 ≤ 255; have := this.2; omega⟩, Vq w2⟩⟩
set_option maxRecDepth 100000 in
theorem iy (m : Nat) (c0 c1 c2 c3 c4 c5 c6 : Value) (y : DataW H × List MemPlace) (h : DataW.trod enc Try.prog w 0 (fun _ => true) true m 38 [c0, c1, c2, c3, c4, c5, c6] = some y) (hfz : ∀ b off, MemPlace.cell b off ∈ y.2 → w.frozen? ⟨b, off, none⟩ = false) : ∃ t : TE, [c0, c1, c2, c3, c4, c5, c6] = It t c4 c5 ∧ (∃ n Ls, EV w QI 4 c4 n Ls) ∧ ∃ n Ls, EV w QB 1 c5 n Ls := by
  obtain ⟨ys, k, _, rfl, _, hys, hfs⟩ := DataW.trod_struct Try.underlying38 h
  have hys : ys.length = 7 := hys
  have g0 := hfs 0 _ rfl
  have g1 := hfs 1 _ rfl
  have g2 := hfs 2 _ rfl
  have g3 := hfs 3 _ rfl
  have g4 := hfs 4 _ rfl
  have g5 := hfs 5 _ rfl
  have g6 := hfs 6 _ rfl
  have g0 : DataW.trod enc Try.prog w 0 (fun _ => true) true k 3 [c0] = some (ys[0]'(by omega)) := g0.trans (List.getElem?_eq_getElem _)
  have g1 : DataW.trod enc Try.prog w 0 (fun _ => true) true k 3 [c1] = some (ys[1]'(by omega)) := g1.trans (List.getElem?_eq_getElem _)
  have g2 : DataW.trod enc Try.prog w 0 (fun _ => true) true k 32 [c2] = some (ys[2]'(by omega)) := g2.trans (List.getElem?_eq_getElem _)
  have g3 : DataW.trod enc Try.prog w 0 (fun _ => true) true k 28 [c3] = some (ys[3]'(by omega)) := g3.trans (List.getElem?_eq_getElem _)
  have g4 : DataW.trod enc Try.prog w 0 (fun _ => true) true k 35 [c4] = some (ys[4]'(by omega)) := g4.trans (List.getElem?_eq_getElem _)
  have g5 : DataW.trod enc Try.prog w 0 (fun _ => true) true k 36 [c5] = some (ys[5]'(by omega)) := g5.trans (List.getElem?_eq_getElem _)
  have g6 : DataW.trod enc Try.prog w 0 (fun _ => true) true k 3 [c6] = some (ys[6]'(by omega)) := g6.trans (List.getElem?_eq_getElem _)
  obtain ⟨a0, e0, _⟩ := DataW.trod_int Try.underlying3 g0
  obtain ⟨a1, e1, _⟩ := DataW.trod_int Try.underlying3 g1
  obtain ⟨a2, e2, _⟩ := DataW.trod_int Try.underlying32 g2
  obtain ⟨a3, e3, _⟩ := DataW.trod_int Try.underlying28 g3
  obtain ⟨a6, e6, _⟩ := DataW.trod_int Try.underlying3 g6
  have hI := KR Try.underlying35 Sc (by omega) (Q := QI) iv g4 (fun b off hm => hfz b off (List.mem_flatMap.2 ⟨_, List.getElem_mem (by omega), hm⟩))
  have hB := KR Try.underlying36 Xl (by omega) (Q := QB) ir g5 (fun b off hm => hfz b off (List.mem_flatMap.2 ⟨_, List.getElem_mem (by omega), hm⟩))
  cases e0; cases e1; cases e2; cases e3; cases e6
  exact ⟨⟨a0, a1, a2, a3, a6⟩, rfl, hI, hB⟩
theorem HB {n : Nat} {l : List Value} (h : l.length = n + 1) : ∃ a l', l = a :: l' ∧ l'.length = n := by
  cases l with
  | nil => cases h
  | cons a l' => exact ⟨a, l', rfl, Nat.succ.inj h⟩
theorem eg {l : List Value} (h : l.length = 13) : ∃ c0 c1 c2 c3 c4 c5 c6 c7 c8 c9 c10 c11 c12, l = [c0, c1, c2, c3, c4, c5, c6, c7, c8, c9, c10, c11, c12] := by
  obtain ⟨c0, l0, rfl, h0⟩ := HB h
  obtain ⟨c1, l1, rfl, h1⟩ := HB h0
  obtain ⟨c2, l2, rfl, h2⟩ := HB h1
  obtain ⟨c3, l3, rfl, h3⟩ := HB h2
  obtain ⟨c4, l4, rfl, h4⟩ := HB h3
  obtain ⟨c5, l5, rfl, h5⟩ := HB h4
  obtain ⟨c6, l6, rfl, h6⟩ := HB h5
  obtain ⟨c7, l7, rfl, h7⟩ := HB h6
  obtain ⟨c8, l8, rfl, h8⟩ := HB h7
  obtain ⟨c9, l9, rfl, h9⟩ := HB h8
  obtain ⟨c10, l10, rfl, h10⟩ := HB h9
  obtain ⟨c11, l11, rfl, h11⟩ := HB h10
  obtain ⟨c12, l12, rfl, h12⟩ := HB h11
  obtain rfl := List.eq_nil_of_length_eq_zero h12
  exact ⟨c0, c1, c2, c3, c4, c5, c6, c7, c8, c9, c10, c11, c12, rfl⟩
set_option maxRecDepth 100000 in
theorem iw (m : Nat) (l : List Value) (y : DataW H × List MemPlace) (hl : l.length = 13) (h : DataW.trod enc Try.prog w 0 (fun _ => true) true m 40 l = some y) (hfz : ∀ b off, MemPlace.cell b off ∈ y.2 → w.frozen? ⟨b, off, none⟩ = false) : ∃ x : OD, l = x.cells ∧ Pf w x := by
  obtain ⟨c0, c1, c2, c3, c4, c5, c6, c7, c8, c9, c10, c11, c12, rfl⟩ := eg hl
  obtain ⟨ys, k, _, rfl, _, hys, hfs⟩ := DataW.trod_struct Try.underlying40 h
  have hys : ys.length = 5 := hys
  have g0 := hfs 0 _ rfl
  have g1 := hfs 1 _ rfl
  have g2 := hfs 2 _ rfl
  have g3 := hfs 3 _ rfl
  have g4 := hfs 4 _ rfl
  have g0 : DataW.trod enc Try.prog w 0 (fun _ => true) true k 3 [c0] = some (ys[0]'(by omega)) := g0.trans (List.getElem?_eq_getElem _)
  have g1 : DataW.trod enc Try.prog w 0 (fun _ => true) true k 4 [c1] = some (ys[1]'(by omega)) := g1.trans (List.getElem?_eq_getElem _)
  have g2 : DataW.trod enc Try.prog w 0 (fun _ => true) true k 4 [c2] = some (ys[2]'(by omega)) := g2.trans (List.getElem?_eq_getElem _)
  have g3 : DataW.trod enc Try.prog w 0 (fun _ => true) true k 34 [c3, c4, c5] = some (ys[3]'(by omega)) := g3.trans (List.getElem?_eq_getElem _)
  have g4 : DataW.trod enc Try.prog w 0 (fun _ => true) true k 38 [c6, c7, c8, c9, c10, c11, c12] = some (ys[4]'(by omega)) := g4.trans (List.getElem?_eq_getElem _)
  obtain ⟨a0, e0, _⟩ := DataW.trod_int Try.underlying3 g0
  obtain ⟨a1, e1, _⟩ := DataW.trod_bool Try.underlying4 g1
  obtain ⟨a2, e2, _⟩ := DataW.trod_bool Try.underlying4 g2
  obtain ⟨x, e3, ox⟩ := iu k c3 c4 c5 _ g3
  obtain ⟨t, e4, hI, hB⟩ := iy k c6 c7 c8 c9 c10 c11 c12 _ g4 (fun b off hm => hfz b off (List.mem_flatMap.2 ⟨_, List.getElem_mem (by omega), hm⟩))
  cases e0; cases e1; cases e2; cases e3
  obtain ⟨t0, t1, t2, t3, t6⟩ := t
  simp only [It] at e4
  cases e4
  exact ⟨⟨⟨a0, a1, a2, x, ⟨t0, t1, t2, t3, t6⟩⟩, c10, c11⟩, rfl, ox, hI, hB⟩
set_option maxRecDepth 100000 in
theorem NU {base : Nat} {v : Value} (h : Value.okWide Try.prog w .any base 5 v) : ∃ n : Nat, v = .int .u8 (n : Int) ∧ n < 256 := by
  unfold Value.okWide at h
  rw [Try.underlying5] at h
  have h : Cell.okWide Try.prog w .any base 5 v := h
  unfold Cell.okWide at h
  rw [Try.underlying5] at h
  have h : Cell.ok Try.prog w .any base 5 v := by cases v <;> exact h
  unfold Cell.ok at h
  rw [Try.underlying5] at h
  split at h <;> first | (exact h.elim; done) | skip
  all_goals (rename_i n e1 _; cases e1)
  obtain ⟨ek, _, _⟩ := h
  rename_i hl hr _ _
  subst hl
  have h1 : (0 : Int) ≤ _ := hr.1
  have h2 : _ ≤ (255 : Int) := hr.2
  obtain ⟨m, rfl⟩ := Int.eq_ofNat_of_zero_le h1
  exact ⟨m, rfl, by omega⟩
end
set_option maxRecDepth 100000 in
theorem pY {H : Type} {enc : TypeId × Value → H} (x y z o : Value) (w : World) {base : Nat} {d : DataW H} {p : List MemPlace} (hx : Value.okWide Try.prog w .any base 5 x) (hy : Value.okWide Try.prog w .any base 5 y) (hz : Value.okWide Try.prog w .any base 5 z) (ho : Value.okWide Try.prog w .any base 22 o)
    (to_ : DataW.Trod enc Try.prog w 0 (fun _ => true) true 22 o d p) (fo : ∀ b off, MemPlace.cell b off ∈ p → w.frozen? ⟨b, off, none⟩ = false) :
    Calls Try.prog 3 #[x, y, z, o] w fun e w' => e = .returned (.bool true) ∧ Below w.heap.size w w' := by
  obtain ⟨a, rfl, ha⟩ := NU hx
  obtain ⟨b, rfl, hb⟩ := NU hy
  obtain ⟨c, rfl, hc⟩ := NU hz
  obtain ⟨fuel, hf⟩ := slc Try.underlying22 ho to_
  obtain ⟨n, Ls, R⟩ := KR Try.underlying22 Sb (by omega) (Q := fun l => ∃ x : OD, l = x.cells ∧ Pf w x) iw hf fo
  obtain ⟨u, q, L0, qs, Zs, l1, l2, r1, r2, r3⟩ := ZT R 0 1 80
  have h256 : (L0 :: Zs).length ≤ 256 := by simp only [List.length_cons]; omega
  have W0 : (inH (L0 :: Zs)).Wf := QN h256
  have O := r3 _ W0 (Nv h256 (i := 0) rfl) (fun j L e => Nv h256 (i := j + 1) e)
  obtain ⟨h', hr, hx'⟩ := Ud (n := 57) W0 ha hb hc O
  obtain ⟨g1, g2⟩ := r1 (JS (q :: qs)) rfl (fun j q' e => by
    show ((q :: qs)[j + 1]?).getD none = q'
    have e : (q :: qs)[j + 1]? = some q' := e
    rw [e]; rfl)
  refine Ub Pv hr hx' rfl (.cons (.int _ _) (.cons (.int _ _) (.cons (.int _ _) (.cons g2 .nil)))) (RR (ps := q :: qs) h256 (by simp only [List.length_cons]; omega) fun i q' L e1 e2 => ?_)
  match i, e1, e2 with
  | 0, e1, e2 => cases e1; cases e2; exact g1
  | i + 1, e1, e2 =>
    obtain ⟨s1, s2⟩ := r2 i q' L e1 e2
    exact s1.irel (s2 _)
set_option maxRecDepth 100000 in
theorem ZI (os : Os) (started : os.Started) (H : Type) (enc : TypeId × Value → H) :
    ReturnsInHanded {} Try.checked os 3 .any (Rows.mendSafeSpec.pre6 enc Try.prog Try.f3 Rows.mendSafeRow.domain false) (Rows.mendSafeSpec.post enc Try.prog Try.f3 false true false false) := by
  refine returnsInHanded_of_change (C := Try.checked) own started (by kernel_rfl) Try.func3
    (ChangeSpec.witness6 (enc := enc) (C := Try.checked) false ⟨#[], #[.int .u8 0, .int .u8 0, .int .u8 0, .slice none 0 0], []⟩ 8 (by kernel_rfl) (by kernel_rfl) (by kernel_rfl) (by kernel_rfl)) ?_
  intro W base args ds gs before hval0 hW hcnd _
  have hval : ∀ (j : Nat) t v, Try.f3.params[j]? = some t → args[j]? = some v → Value.okWide Try.prog W .any base t v := hval0
  have hW' := hW
  obtain ⟨p, q, hA0, hV, rfl, hfz, hnd⟩ := hW
  have hA : DataW.TrodAll enc Try.prog W 0 (fun _ => true) true Try.f3.params.toList args.toList ds p := hA0
  rw [Try.params3] at hA hval
  obtain ⟨v0, vs0, d0, ds0, p0, q0, hargs, rfl, rfl, h0, r0⟩ := trodAll_cons hA
  obtain ⟨v1, vs1, d1, ds1, p1, q1, rfl, rfl, rfl, h1, r1⟩ := trodAll_cons r0
  obtain ⟨v2, vs2, d2, ds2, p2, q2, rfl, rfl, rfl, h2, r2⟩ := trodAll_cons r1
  obtain ⟨v3, vs3, d3, ds3, p3, q3, rfl, rfl, rfl, h3, r3⟩ := trodAll_cons r2
  obtain ⟨rfl, rfl, rfl⟩ := trodAll_nil r3
  obtain rfl : args = #[v0, v1, v2, v3] := by cases args; simp_all
  obtain ⟨rfl, rfl⟩ := trodVars_none hV
  clear hA0 hval0
  simp only [List.append_nil] at hW' hfz
  have hlt : ∀ x ∈ p0 ++ (p1 ++ (p2 ++ p3)), x.block < W.heap.size := fun x hx => hW'.lt x hx
  have i0 : ∀ x ∈ p0, x ∈ p0 ++ (p1 ++ (p2 ++ p3)) := fun x hx => List.mem_append_left _ hx
  have i1 : ∀ x ∈ p1, x ∈ p0 ++ (p1 ++ (p2 ++ p3)) := fun x hx => List.mem_append_right _ (List.mem_append_left _ hx)
  have i2 : ∀ x ∈ p2, x ∈ p0 ++ (p1 ++ (p2 ++ p3)) := fun x hx => List.mem_append_right _ (List.mem_append_right _ (List.mem_append_left _ hx))
  have i3 : ∀ x ∈ p3, x ∈ p0 ++ (p1 ++ (p2 ++ p3)) := fun x hx => List.mem_append_right _ (List.mem_append_right _ (List.mem_append_right _ hx))
  refine (pY v0 v1 v2 v3 W (hval 0 5 v0 rfl rfl) (hval 1 5 v1 rfl rfl) (hval 2 5 v2 rfl rfl) (hval 3 22 v3 rfl rfl) h3 (fun b off hm => hfz b off (i3 _ hm))).mono fun e W' ⟨he, hb⟩ => ?_
  subst he
  refine ⟨_, rfl, I7 (pa := p0 ++ (p1 ++ (p2 ++ p3))) (pv := []) hW' (fun _ _ _ => (trodAll_cons_mk (shut_bool Try.underlying4 _) trodAll_mk0)) (fun sp hsp => ?_) (fun _ _ => rfl) (by simp) hb (ok_one (by kernel_rfl) rfl (okWide_bool_mk Try.underlying4 _))⟩
  have s0 := WideElems.Trod_stays Hh (by kernel_rfl) (of_decide_eq_true (by kernel_rfl)) h0 (fun x hx => hb.same (hlt x (i0 x hx))) (fun x hx => hsp x (i0 x hx))
  have s1 := WideElems.Trod_stays Hh (by kernel_rfl) (of_decide_eq_true (by kernel_rfl)) h1 (fun x hx => hb.same (hlt x (i1 x hx))) (fun x hx => hsp x (i1 x hx))
  have s2 := WideElems.Trod_stays Hh (by kernel_rfl) (of_decide_eq_true (by kernel_rfl)) h2 (fun x hx => hb.same (hlt x (i2 x hx))) (fun x hx => hsp x (i2 x hx))
  have s3 := WideElems.Trod_stays Hh (by kernel_rfl) (of_decide_eq_true (by kernel_rfl)) h3 (fun x hx => hb.same (hlt x (i3 x hx))) (fun x hx => hsp x (i3 x hx))
  have := trodAll_cons_mk s0 (trodAll_cons_mk s1 (trodAll_cons_mk s2 (trodAll_cons_mk s3 (trodAll_mk0 (enc := enc) (P := Try.prog) (w := W') (base := 0) (spare := sp) (held := true)))))
  rw [List.append_nil] at this
  exact this
theorem over : Rows.mendSafeRow.holds Try.pinned (OpenSpec.ofChange Rows.mendSafeSpec) :=
  OpenClaim.holds_of_wide 3 Try.f3 rfl rfl rfl rfl rfl rfl rfl ⟨rfl, rfl, rfl, rfl, rfl⟩ rfl rfl rfl rfl rfl (by kernel_rfl) Try.func3 (by kernel_rfl)
    (of_decide_eq_true (by kernel_rfl)) (by unfold Func.isWrapper; first | (rw [if_pos (by decide +kernel)]; kernel_rfl) | (rw [if_neg (by decide +kernel)]; exact ⟨rfl, rfl⟩))
    (fun os started H enc _ => ZI os started H enc)
theorem proved : Rows.MendSafeSaid :=
  over
#print axioms proved
end
end Go.Proofs.Ythcfmklkbakkpaa.mendSafe
