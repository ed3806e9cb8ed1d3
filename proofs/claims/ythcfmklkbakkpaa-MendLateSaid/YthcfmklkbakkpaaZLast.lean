/-
  'MendLate' of layer 14 answers true, whatever memory it is called in, however many indexes, whatever need, version, answers and late answer it is handed and whatever the tape answers: no condition. What the canonical machine gives is shown for any of them (YthcfmklkbakkpaaMdz); that the program's code gives the same is the machine's soundness.
  MendLate on the machine: true, whatever answers it is handed.
  MendLate: what is not asked changes nothing.
  Answers that came in: what is known of a slice of them, and the rows that the machine holds for it.
-/
import Derived.Test.YthcfmklkbakkpaaZR
import Derived.Test.YthcfmklkbakkpaaRows
import Derived.ProofKit
import Derived.OpenShut
import Derived.Carry
import Derived.SizedLaws
set_option linter.unusedVariables false
set_option linter.unusedSimpArgs false
namespace Go.Proofs.Ythcfmklkbakkpaa
noncomputable section
open Go Go.RowKit Go.WideShapes Go.ChangeShapes
set_option maxRecDepth 100000
theorem PV {W : World} {a : Addr} {v : Value} (h : W.cell? a = some v) : a.spot = none ∧ ∃ cs tt fr, W.heap[a.block]? = some (.cells cs tt fr) ∧ cs[a.off]? = some v := by
  unfold World.cell? at h
  split at h
  · rename_i cs tt fr hb
    split at h
    · cases h
    · rename_i hs
      refine ⟨?_, cs, tt, fr, hb, h⟩
      cases hsp : a.spot with
      | none => rfl
      | some s => rw [hsp] at hs; exact (hs rfl).elim
  · cases h
theorem Q5 {W : World} {a : Addr} {L : List Value} {cs : Array Value} {tt : TypeId} {fr : Nat × Nat} (hb : W.heap[a.block]? = some (.cells cs tt fr)) (hc : ∀ j, j < L.length → cs[a.off + j]? = some (L.getD j noRes)) (hf : ∀ j, j < L.length → W.frozen? ⟨a.block, a.off + j, none⟩ = false) : HI W a L := by
  refine ⟨cs, tt, fr, hb, hc, fun i hi hh => ?_⟩
  have h6 := hf i hi
  obtain ⟨lo, hi'⟩ := fr
  simp only [World.frozen?, hb] at h6
  simp only at hh
  simp only [Bool.and_eq_false_iff, decide_eq_false_iff_not] at h6
  omega
theorem Nm {α : Type} {Q : Nat → α → Prop} : ∀ n, (∀ i, i < n → ∃ x, Q i x) → ∃ xs : List α, xs.length = n ∧ ∀ i x, xs[i]? = some x → Q i x
  | 0, _ => ⟨[], rfl, fun i x h => by cases h⟩
  | n + 1, h => by
    obtain ⟨xs, hl, hx⟩ := Nm n fun i hi => h i (by omega)
    obtain ⟨y, hy⟩ := h n (by omega)
    refine ⟨xs ++ [y], by rw [List.length_append, hl]; rfl, fun i x hi => ?_⟩
    rcases Nat.lt_or_ge i xs.length with h1 | h1
    · rw [List.getElem?_append_left h1] at hi; exact hx i x hi
    · rw [List.getElem?_append_right h1] at hi
      have h2 : i - xs.length < [y].length := (List.getElem?_eq_some_iff.1 hi).1
      have h2 : i - xs.length < 1 := h2
      have h3 : i - xs.length = 0 := by omega
      rw [h3] at hi
      cases hi
      rw [show i = n by omega]; exact hy
theorem D6 {s : Nat} : ∀ {Ls : List (List Value)}, (∀ l ∈ Ls, l.length = s) → Ls.flatten.length = Ls.length * s
  | [], _ => by simp
  | l :: Ls, h => by
    rw [List.flatten_cons, List.length_append, h l List.mem_cons_self, D6 fun x hx => h x (List.mem_cons_of_mem _ hx), List.length_cons, Nat.succ_mul, Nat.add_comm]
theorem Kn {s : Nat} : ∀ {Ls : List (List Value)} {i r : Nat} {l : List Value}, (∀ l ∈ Ls, l.length = s) → Ls[i]? = some l → r < s → Ls.flatten[i * s + r]? = l[r]?
  | [], i, _, _, _, h, _ => by cases h
  | x :: Ls, 0, r, l, h, hi, hr => by
    cases hi
    rw [List.flatten_cons, Nat.zero_mul, Nat.zero_add, List.getElem?_append_left (by rw [h x List.mem_cons_self]; exact hr)]
  | x :: Ls, i + 1, r, l, h, hi, hr => by
    have hx := h x List.mem_cons_self
    rw [List.flatten_cons, List.getElem?_append_right (by rw [hx, Nat.succ_mul]; omega), hx]
    have : (i + 1) * s + r - s = i * s + r := by rw [Nat.succ_mul]; omega
    rw [this]
    exact Kn (fun y hy => h y (List.mem_cons_of_mem _ hy)) hi hr
theorem G7 {s : Nat} : ∀ {Ls : List (List Value)} {i : Nat} {l : List Value} (R : List Value), (∀ l ∈ Ls, l.length = s) → Ls[i]? = some l → ((Ls.flatten ++ R).drop (i * s)).take s = l
  | [], i, _, _, _, h => by cases h
  | x :: Ls, 0, l, R, h, hi => by
    cases hi
    rw [Nat.zero_mul, List.drop_zero, List.flatten_cons, List.append_assoc]
    exact List.take_left' (h x List.mem_cons_self)
  | x :: Ls, i + 1, l, R, h, hi => by
    have hx := h x List.mem_cons_self
    have : (i + 1) * s = s + i * s := by rw [Nat.succ_mul, Nat.add_comm]
    rw [this, ← List.drop_drop, List.flatten_cons, List.append_assoc, List.drop_left' hx]
    exact G7 R (fun y hy => h y (List.mem_cons_of_mem _ hy)) hi
def DX (W : World) (Q : List Value → Prop) (s : Nat) (v : Value) (n : Nat) (Ls : List (List Value)) : Prop := (∀ l ∈ Ls, l.length = s ∧ Q l) ∧ n ≤ Ls.length ∧
  ((v = A6 ∧ Ls = []) ∨ (∃ a, v = .slice (some a) 0 0 ∧ Ls = []) ∨ ∃ a, v = .slice (some a) n Ls.length ∧ 0 < Ls.length ∧ a.spot = none ∧ HI W a Ls.flatten)
theorem Gl {H : Type} {enc : TypeId × Value → H} {P : Program} {t e : TypeId} {s : Nat} (ht : P.underlying t = some (.slice e)) (hs : P.cellsOf e = s) (h0 : 0 < s) {W : World} {fuel : Nat} {v : Value} {x : DataW H × List MemPlace} {Q : List Value → Prop}
    (dec : ∀ (m : Nat) (l : List Value) (y : DataW H × List MemPlace), l.length = s → DataW.trod enc P W 0 (fun _ => true) true m e l = some y → (∀ b off, MemPlace.cell b off ∈ y.2 → W.frozen? ⟨b, off, none⟩ = false) → Q l)
    (hf : DataW.trod enc P W 0 (fun _ => true) true fuel t [v] = some x) (hfz : ∀ b off, MemPlace.cell b off ∈ x.2 → W.frozen? ⟨b, off, none⟩ = false) : ∃ n Ls, DX W Q s v n Ls := by
  rcases DataW.trod_slice ht hf with ⟨hcs, _⟩ | ⟨a, n, c, elems, rest, m, _, hcs, hx, _, hl, hm, hlen, hel, hsp, _⟩
  · have : v = A6 := by simpa using hcs
    exact ⟨0, [], (fun l hl => by cases hl), Nat.le_refl _, .inl ⟨this, rfl⟩⟩
  · have : v = .slice (some a) n c := by simpa using hcs
    subst this
    obtain ⟨hrl, hr⟩ := hsp rfl
    subst hx
    rcases Nat.eq_zero_or_pos c with hc | hc
    · subst hc
      have : n = 0 := by omega
      subst this
      exact ⟨0, [], (fun l hl => by cases hl), Nat.le_refl _, .inr (.inl ⟨a, rfl, rfl⟩)⟩
    · have htot : (elems ++ rest).length = c := by rw [List.length_append]; omega
      have each : ∀ i, i < c → ∃ l : List Value, (l.length = s ∧ Q l) ∧ ∀ j, j < s → W.cell? ((a.add (i * s)).add j) = l[j]? := fun i hi => by
        have hi' : i < (elems ++ rest).length := by omega
        have hb : (W.cells? 0 (a.add (i * P.cellsOf e)) (P.cellsOf e)).bind (DataW.trod enc P W 0 (fun _ => true) true m e) = some ((elems ++ rest)[i]'hi') := by
          rcases Nat.lt_or_ge i n with h4 | h4
          · have := hel i h4
            rw [this, ← List.getElem?_eq_getElem hi', List.getElem?_append_left (by omega)]
          · have := hr (i - n) (by omega)
            rw [show n + (i - n) = i by omega] at this
            rw [this, ← List.getElem?_eq_getElem hi', List.getElem?_append_right (by omega), hlen]
        rw [hs, Option.bind_eq_some_iff] at hb
        obtain ⟨l, h4, h5⟩ := hb
        obtain ⟨_, h6, h7⟩ := World.cells?_some h4
        exact ⟨l, ⟨h6, dec m l _ h6 h5 fun b off hm => hfz b off (List.mem_append_right _ (List.mem_flatMap.2 ⟨_, List.getElem_mem hi', hm⟩))⟩, h7⟩
      obtain ⟨Ls, hLl, hLs⟩ := Nm c each
      have hall : ∀ l ∈ Ls, l.length = s ∧ Q l := fun l hl => by
        obtain ⟨i, hi, rfl⟩ := List.mem_iff_getElem.1 hl
        exact (hLs i _ (List.getElem?_eq_getElem hi)).1
      have hls : ∀ l ∈ Ls, l.length = s := fun l hl => (hall l hl).1
      have hz : 0 < Ls.length := by omega
      have c0 := (hLs 0 _ (List.getElem?_eq_getElem hz)).2 0 h0
      have hl0 : 0 < (Ls[0]'hz).length := by rw [hls _ (List.getElem_mem hz)]; exact h0
      rw [List.getElem?_eq_getElem hl0, Nat.zero_mul] at c0
      have c0 : W.cell? a = some ((Ls[0]'hz)[0]'hl0) := c0
      obtain ⟨hsp0, cs, tt, fr, hb, _⟩ := PV c0
      obtain ⟨ab, ao, spot⟩ := a
      simp only at hsp0
      subst hsp0
      have hfl := D6 hls
      refine ⟨n, Ls, hall, by omega, .inr (.inr ⟨⟨ab, ao, none⟩, by rw [hLl], hz, rfl, Q5 hb (fun j hj => ?_) fun j hj => hfz ab (ao + j) (List.mem_append_left _ ?_)⟩)⟩
      · rw [hfl] at hj
        have hi : j / s < Ls.length := Nat.div_lt_of_lt_mul (by rw [Nat.mul_comm]; exact hj)
        have hr : j % s < s := Nat.mod_lt _ h0
        have e : j / s * s + j % s = j := by rw [Nat.mul_comm]; exact Nat.div_add_mod j s
        have hx := List.getElem?_eq_getElem hi
        have q := (hLs _ _ hx).2 _ hr
        have g := Kn hls hx hr
        rw [e] at g
        have hll : j % s < (Ls[j / s]'hi).length := by rw [hls _ (List.getElem_mem hi)]; exact hr
        rw [List.getElem?_eq_getElem hll] at q g
        rw [Addr.add_is, Addr.add_is, Fi hb] at q
        rw [List.getD_eq_getElem?_getD, g]
        show cs[ao + j]? = some _
        have : ao + j / s * s + j % s = ao + j := by omega
        rw [← this]; exact q
      · simp only [MemPlace.row, List.mem_map, List.mem_range]
        exact ⟨j, by rw [hfl] at hj; rw [hs, hlen, hrl, show n + (c - n) = c by omega, ← hLl]; exact hj, rfl⟩
theorem MY {α : Type} {f : α → List Value} : ∀ {Ls : List (List Value)}, (∀ l ∈ Ls, ∃ x, l = f x) → ∃ xs : List α, Ls = xs.map f
  | [], _ => ⟨[], rfl⟩
  | l :: Ls, h => by
    obtain ⟨x, rfl⟩ := h l List.mem_cons_self
    obtain ⟨xs, rfl⟩ := MY fun l hl => h l (List.mem_cons_of_mem _ hl)
    exact ⟨x :: xs, rfl⟩
theorem N2 {φ : Phi} {a : Addr} {n c i m : Nat} (hs : a.spot = none) (hn : n ≤ c) (hc : 0 < c) (hm : 0 < m) (hp : φ i = some (Iu a m)) : RelV φ (.slice (some ⟨i, 0, none⟩) n c) (.slice (some a) n c) := by
  refine .slice hn ⟨rfl, hs, _, hp, rfl, .inl ⟨hc, ?_, .inl rfl⟩⟩
  show a.off = (if m = 0 then 0 else a.off) + 0
  rw [if_neg (by omega), Nat.add_zero]
theorem DX.rel {W : World} {Q : List Value → Prop} {s n : Nat} {v : Value} {Ls : List (List Value)} (b : DX W Q s v n Ls) (h0 : 0 < s) (rf : ∀ l, Q l → ∀ φ, RelL φ l l) (i : Nat) : ∃ (u : Value) (q : Option Pl), N9 W Ls.flatten q ∧ (∀ φ, RelL φ Ls.flatten Ls.flatten) ∧ (∀ φ : Phi, φ i = q → RelV φ u v) ∧
    ((u = A6 ∧ Ls = []) ∨ (u = .chan (some 0) ∧ Ls = []) ∨ u = .slice (some ⟨i, 0, none⟩) n Ls.length) := by
  obtain ⟨h1, h2, h3⟩ := b
  have hrel : ∀ φ, RelL φ Ls.flatten Ls.flatten := fun φ => by
    clear h2 h3
    induction Ls with
    | nil => exact .nil
    | cons l Ls ih =>
      rw [List.flatten_cons]
      exact (rf l (h1 l List.mem_cons_self).2 φ).append (ih fun l hl => h1 l (List.mem_cons_of_mem _ hl))
  rcases h3 with ⟨rfl, rfl⟩ | ⟨a, rfl, rfl⟩ | ⟨a, rfl, h4, h5, h6⟩
  · exact ⟨A6, none, .inl rfl, hrel, fun _ _ => .slice0, .inl ⟨rfl, rfl⟩⟩
  · have : n = 0 := by simpa using h2
    subst this
    exact ⟨.chan (some 0), none, .inl rfl, hrel, fun _ _ => .slcE, .inr (.inl ⟨rfl, rfl⟩)⟩
  · have hfl := D6 fun l hl => (h1 l hl).1
    refine ⟨.slice (some ⟨i, 0, none⟩) n Ls.length, some (Iu a Ls.flatten.length), .inr ⟨a, rfl, h6⟩, hrel, fun φ hφ => N2 h5 h2 h4 (by rw [hfl]; exact Nat.mul_pos h4 h0) hφ, .inr (.inr rfl)⟩
def QI (l : List Value) : Prop := ∃ x : IN, l = Kv x
def QB (l : List Value) : Prop := ∃ x : Nat, l = [bv x]
theorem PL {l : List Value} (h : QI l) (φ : Phi) : RelL φ l l := by
  obtain ⟨x, rfl⟩ := h
  exact .cons (.int _ _) (.cons (.int _ _) (.cons (.int _ _) (.cons (.int _ _) .nil)))
theorem PK {l : List Value} (h : QB l) (φ : Phi) : RelL φ l l := by
  obtain ⟨x, rfl⟩ := h
  exact .cons (.int _ _) .nil
theorem Nf {W : World} {v : Value} {n : Nat} {Ls : List (List Value)} (b : DX W QI 4 v n Ls) : ∃ il : List IN, il.length = n ∧ ∀ (i : Nat) (u : Value), ((u = A6 ∧ Ls = []) ∨ (u = .chan (some 0) ∧ Ls = []) ∨ u = .slice (some ⟨i, 0, none⟩) n Ls.length) → ∀ h : Hp, h.Row i 0 Ls.flatten → h.Inf u il := by
  obtain ⟨h1, h2, _⟩ := b
  obtain ⟨xs, rfl⟩ := MY fun l hl => (h1 l hl).2
  rw [List.length_map] at h2
  refine ⟨xs.take n, by rw [List.length_take]; omega, fun i u hu h hr => ?_⟩
  have hls : ∀ l ∈ xs.map Kv, l.length = 4 := fun l hl => (h1 l hl).1
  rcases hu with ⟨rfl, hx⟩ | ⟨rfl, hx⟩ | rfl
  · have : xs = [] := by simpa using hx
    subst this
    exact .inl ⟨.inl rfl, by simp⟩
  · have : xs = [] := by simpa using hx
    subst this
    exact .inl ⟨.inr ⟨0, rfl⟩, by simp⟩
  · have hl : (xs.take n).length = n := by rw [List.length_take]; omega
    refine .inr ⟨i, 0, _, 0, _, by rw [hl], hr, ?_, fun j hj => ?_⟩
    · rw [hl, D6 hls, List.length_map]; omega
    · rw [hl] at hj
      have hj2 : j < xs.length := by omega
      have hx : (xs.map Kv)[j]? = some (Kv (xs[j]'hj2)) := by rw [List.getElem?_map, List.getElem?_eq_getElem hj2]; rfl
      have := G7 [] hls hx
      rw [List.append_nil] at this
      rw [Nat.zero_add, this, List.getD_eq_getElem?_getD, List.getElem?_take, if_pos hj, List.getElem?_eq_getElem hj2]; rfl
theorem LN : ∀ xs : List Nat, (xs.map fun x => [bv x]).flatten = xs.map bv
  | [] => rfl
  | a :: xs => by rw [List.map_cons, List.flatten_cons, LN xs]; rfl
theorem PY {W : World} {v : Value} {n : Nat} {Ls : List (List Value)} (b : DX W QB 1 v n Ls) : ∃ l : List Nat, l.length = n ∧ ∀ (i : Nat) (u : Value), ((u = A6 ∧ Ls = []) ∨ (u = .chan (some 0) ∧ Ls = []) ∨ u = .slice (some ⟨i, 0, none⟩) n Ls.length) → ∀ h : Hp, h.Row i 0 Ls.flatten → h.By u l := by
  obtain ⟨h1, h2, _⟩ := b
  obtain ⟨xs, rfl⟩ := MY (f := fun x => [bv x]) fun l hl => (h1 l hl).2
  rw [List.length_map] at h2
  refine ⟨xs.take n, by rw [List.length_take]; omega, fun i u hu h hr => ?_⟩
  rw [LN] at hr
  rcases hu with ⟨rfl, hx⟩ | ⟨rfl, hx⟩ | rfl
  · have : xs = [] := by simpa using hx
    subst this
    exact .inr (.inl ⟨rfl, by simp⟩)
  · have : xs = [] := by simpa using hx
    subst this
    exact .inl ⟨⟨0, rfl⟩, by simp⟩
  · have hl : (xs.take n).length = n := by rw [List.length_take]; omega
    refine .inr (.inr ⟨i, 0, (xs.map fun x => [bv x]).length, 0, xs.map bv, ?_, hr, ?_, ?_⟩)
    · rw [List.length_map, List.length_map, hl]
    · rw [List.length_map, hl, List.length_map]; omega
    · rw [List.length_map, hl, List.drop_zero, List.map_take]
structure OD where
  o : OP
  vi : Value
  vb : Value
def OD.cells (x : OD) : List Value := opL x.o x.vi x.vb
def PJ (W : World) (x : OD) : Prop := OkE x.o.er ∧ (∃ n Ls, DX W QI 4 x.vi n Ls) ∧ ∃ n Ls, DX W QB 1 x.vb n Ls
theorem YQ {φ : Phi} {o : OP} {ui ub vi vb : Value} (h1 : RelV φ ui vi) (h2 : RelV φ ub vb) : RelL φ (opL o ui ub) (opL o vi vb) :=
  .cons (.int _ _) (.cons (.bool _) (.cons (.bool _) (.cons (.int _ _) (.cons (.int _ _) (.cons (.int _ _) (.cons (.int _ _) (.cons (.int _ _) (.cons (.int _ _) (.cons (.int _ _) (.cons h1 (.cons h2 (.cons (.int _ _) .nil))))))))))))
theorem Ny {W : World} : ∀ (xs : List OD), (∀ x ∈ xs, PJ W x) → ∀ k : Nat, ∃ (us : List OD) (qs : List (Option Pl)) (Zs : List (List Value)), us.length = xs.length ∧ qs.length = 2 * xs.length ∧ Zs.length = 2 * xs.length ∧
    (∀ (i : Nat) (q : Option Pl) (L : List Value), qs[i]? = some q → Zs[i]? = some L → N9 W L q ∧ ∀ φ, RelL φ L L) ∧ (∀ φ : Phi, (∀ (i : Nat) (q : Option Pl), qs[i]? = some q → φ (i + k) = q) → RelL φ (us.flatMap OD.cells) (xs.flatMap OD.cells)) ∧
    (∀ h : Hp, (∀ (i : Nat) (L : List Value), Zs[i]? = some L → h.Row (i + k) 0 L) → ∀ u ∈ us, OkE u.o.er ∧ ∃ il l, h.Inf u.vi il ∧ h.By u.vb l)
  | [], _, k => ⟨[], [], [], rfl, rfl, rfl, (fun i q L h => by cases h), (fun φ _ => .nil), fun h _ x hx => by cases hx⟩
  | x :: xs, hx, k => by
    obtain ⟨us, qs, Zs, l1, l2, l3, h1, h2, h3⟩ := Ny xs (fun y hy => hx y (List.mem_cons_of_mem _ hy)) (k + 2)
    obtain ⟨ho, ⟨n, LI, bI⟩, ⟨n', LB, bB⟩⟩ := hx x List.mem_cons_self
    obtain ⟨ui, q0, i1, i2, i3, i4⟩ := bI.rel (by omega) (fun l h φ => PL h φ) k
    obtain ⟨ub, q1, j1, j2, j3, j4⟩ := bB.rel (by omega) (fun l h φ => PK h φ) (k + 1)
    obtain ⟨il, _, hI⟩ := Nf bI
    obtain ⟨lb, _, hB⟩ := PY bB
    refine ⟨⟨x.o, ui, ub⟩ :: us, q0 :: q1 :: qs, LI.flatten :: LB.flatten :: Zs, by rw [List.length_cons, List.length_cons, l1], by simp only [List.length_cons]; omega, by simp only [List.length_cons]; omega, fun i q' L e1 e2 => ?_, fun φ hφ => ?_, fun h hr y hy => ?_⟩
    · match i, e1, e2 with
      | 0, e1, e2 => cases e1; cases e2; exact ⟨i1, i2⟩
      | 1, e1, e2 => cases e1; cases e2; exact ⟨j1, j2⟩
      | i + 2, e1, e2 => exact h1 i q' L e1 e2
    · rw [List.flatMap_cons, List.flatMap_cons]
      refine (YQ (i3 φ (by have := hφ 0 q0 rfl; rwa [Nat.zero_add] at this)) (j3 φ (by have := hφ 1 q1 rfl; rwa [Nat.add_comm] at this))).append (h2 φ fun i q' e => ?_)
      have := hφ (i + 2) q' e
      rwa [show i + 2 + k = i + (k + 2) by omega] at this
    · rcases List.mem_cons.1 hy with rfl | hy
      · exact ⟨ho, il, lb, hI k ui i4 h (by have := hr 0 _ rfl; rwa [Nat.zero_add] at this), hB (k + 1) ub j4 h (by have := hr 1 _ rfl; rwa [Nat.add_comm] at this)⟩
      · refine h3 h (fun i L e => ?_) y hy
        have := hr (i + 2) L e
        rwa [show i + 2 + k = i + (k + 2) by omega] at this
theorem N6 (φ : Phi) : ∀ L : List Value, RelL φ (List.replicate L.length (Value.chan none)) L
  | [] => .nil
  | _ :: L => .cons .unk (N6 φ L)
def PG (W : World) (φ : Phi) (L : List Value) (q : Option Pl) : Prop := q = none ∨ ∃ a L', q = some (Iu a L.length) ∧ HI W a L' ∧ RelL φ L L'
theorem N9.irel {W : World} {φ : Phi} {L : List Value} {q : Option Pl} (h : N9 W L q) (r : RelL φ L L) : PG W φ L q := by
  rcases h with h | ⟨a, ha, hr⟩
  · exact .inl h
  · exact .inr ⟨a, L, ha, hr, r⟩
theorem Q6 {W : World} {ty : TTy} {ps : List (Option Pl)} {Ls : List (List Value)} (h256 : Ls.length ≤ 256) (hlen : ps.length = Ls.length)
    (h : ∀ (i : Nat) (q : Option Pl) (L : List Value), ps[i]? = some q → Ls[i]? = some L → PG W (HO ps) L q) : RelW ty (HO ps) nil (inH Ls) W :=
  YA h256 fun i p e => by
    have e : (ps[i]?).getD none = some p := e
    cases hq : ps[i]? with
    | none => rw [hq] at e; cases e
    | some q =>
      rw [hq] at e
      have e : q = some p := e
      subst e
      have hi := (List.getElem?_eq_some_iff.1 hq).1
      have hL := List.getElem?_eq_getElem (l := Ls) (i := i) (by omega)
      rcases h i _ _ hq hL with h | ⟨a, L', ha, hr, hrl⟩
      · cases h
      · obtain rfl := Option.some.inj ha
        exact ⟨a, _, rfl, hL, hr.lt, Qy hr hrl⟩
theorem Gh (xs : List OD) : xs.flatMap OD.cells = (xs.map OD.cells).flatten := by rw [List.flatMap_def]
theorem YS {W : World} {v : Value} {n : Nat} {Ls : List (List Value)} (b : DX W (fun l => ∃ x : OD, l = x.cells ∧ PJ W x) 13 v n Ls) (i k cap : Nat) :
    ∃ (u : Value) (q : Option Pl) (L0 : List Value) (qs : List (Option Pl)) (Zs : List (List Value)), qs.length = 2 * min n cap ∧ Zs.length = 2 * min n cap ∧
    (∀ φ : Phi, φ i = q → (∀ (j : Nat) (q' : Option Pl), qs[j]? = some q' → φ (j + k) = q') → PG W φ L0 q ∧ RelV φ u v) ∧ (∀ (j : Nat) (q' : Option Pl) (L : List Value), qs[j]? = some q' → Zs[j]? = some L → N9 W L q' ∧ ∀ φ, RelL φ L L) ∧
    (∀ h : Hp, h.Wf → h.Row i 0 L0 → (∀ (j : Nat) (L : List Value), Zs[j]? = some L → h.Row (j + k) 0 L) → OpsIn h u n cap) := by
  obtain ⟨h1, h2, h3⟩ := b
  rcases h3 with ⟨rfl, rfl⟩ | ⟨a, rfl, rfl⟩ | ⟨a, rfl, h4, h5, h6⟩
  · have : n = 0 := by simpa using h2
    subst this
    exact ⟨A6, none, [], [], [], by simp, by simp, fun φ _ _ => ⟨.inl rfl, .slice0⟩, (fun j q' L h => by cases h), fun h _ _ _ => ⟨fun g => rfl, fun i hi => absurd hi (Nat.not_lt_zero _)⟩⟩
  · have : n = 0 := by simpa using h2
    subst this
    exact ⟨.chan (some 0), none, [], [], [], by simp, by simp, fun φ _ _ => ⟨.inl rfl, .slcE⟩, (fun j q' L h => by cases h), fun h _ _ _ => ⟨fun g => rfl, fun i hi => absurd hi (Nat.not_lt_zero _)⟩⟩
  · obtain ⟨xs, hxs⟩ : ∃ xs : List OD, Ls = xs.map OD.cells ∧ ∀ x ∈ xs, PJ W x := by
      clear h2 h4 h5 h6
      induction Ls with
      | nil => exact ⟨[], rfl, fun x hx => by cases hx⟩
      | cons l Ls ih =>
        obtain ⟨_, x, rfl, hx⟩ := h1 l List.mem_cons_self
        obtain ⟨xs, rfl, hxs⟩ := ih fun l hl => h1 l (List.mem_cons_of_mem _ hl)
        exact ⟨x :: xs, rfl, fun y hy => by
          rcases List.mem_cons.1 hy with rfl | hy
          · exact hx
          · exact hxs y hy⟩
    obtain ⟨rfl, hok⟩ := hxs
    rw [List.length_map] at h2 h4
    have hml : (xs.take (min n cap)).length = min n cap := by rw [List.length_take]; omega
    obtain ⟨us, qs, Zs, l1, l2, l3, r1, r2, r3⟩ := Ny (xs.take (min n cap)) (fun x hx => hok x (List.mem_of_mem_take hx)) k
    have hsplit : (xs.map OD.cells).flatten = (xs.take (min n cap)).flatMap OD.cells ++ (xs.drop (min n cap)).flatMap OD.cells := by
      rw [← Gh, ← List.flatMap_append, List.take_append_drop]
    have hcl : ∀ (ys : List OD), ∀ l ∈ ys.map OD.cells, l.length = 13 := fun ys l hl => by
      obtain ⟨x, _, rfl⟩ := List.mem_map.1 hl; rfl
    have ul : (us.flatMap OD.cells).length = (xs.take (min n cap)).length * 13 := by rw [Gh, D6 (hcl us), List.length_map, l1]
    have vl : ((xs.take (min n cap)).flatMap OD.cells).length = (xs.take (min n cap)).length * 13 := by rw [Gh, D6 (hcl _), List.length_map]
    have hlen0 : (us.flatMap OD.cells ++ List.replicate ((xs.drop (min n cap)).flatMap OD.cells).length (Value.chan none)).length = (xs.map OD.cells).flatten.length := by
      rw [hsplit, List.length_append, List.length_append, List.length_replicate, ul, vl]
    have hpos : 0 < (xs.map OD.cells).flatten.length := by rw [D6 (hcl xs), List.length_map]; omega
    refine ⟨.slice (some ⟨i, 0, none⟩) n (xs.map OD.cells).length, some (Iu a (xs.map OD.cells).flatten.length), us.flatMap OD.cells ++ List.replicate ((xs.drop (min n cap)).flatMap OD.cells).length (Value.chan none), qs, Zs, by rw [l2, hml], by rw [l3, hml], fun φ hφ hq => ⟨.inr ⟨a, (xs.map OD.cells).flatten, by rw [hlen0], h6, ?_⟩, N2 h5 (by rw [List.length_map]; exact h2) (by rw [List.length_map]; exact h4) hpos hφ⟩, r1, fun h Wh hrow hrows => ⟨fun g => B1, fun j hj hj80 => ?_⟩⟩
    · rw [hsplit]
      exact (r2 φ hq).append (N6 φ _)
    · have hju : j < us.length := by rw [l1, hml]; omega
      have hx : us[j]? = some (us[j]'hju) := List.getElem?_eq_getElem hju
      obtain ⟨ho, il, lb, hI, hB⟩ := r3 h hrows _ (List.getElem_mem hju)
      refine ⟨⟨i, j * 13, none⟩, (us[j]'hju).o, (us[j]'hju).vi, (us[j]'hju).vb, il, lb, fun g xg => ⟨?_, ?_⟩, hI, hB, ho⟩
      · have := B6 (h := g) (n := n) (c := (xs.map OD.cells).length) (es := 13) (b := i) (off := 0) (k := .i64) hj
        rwa [Nat.zero_add] at this
      · have hm : (us.map OD.cells)[j]? = some (us[j]'hju).cells := by rw [List.getElem?_map, hx]; rfl
        have hd := G7 (List.replicate ((xs.drop (min n cap)).flatMap OD.cells).length (Value.chan none)) (hcl us) hm
        rw [← Gh] at hd
        rw [(hrow.ext Wh xg).loadN (by rw [List.length_append, ul]; omega), hd]; rfl
end
end Go.Proofs.Ythcfmklkbakkpaa
set_option linter.unusedVariables false
set_option linter.unusedSimpArgs false
namespace Go.Proofs.Ythcfmklkbakkpaa
noncomputable section
open Go Go.RowKit Go.ChangeShapes
set_option maxRecDepth 100000
def ltW : C := (AE (AC 101) (AS iLt .i64 (AB 100) (AB 99))
(AO (AB 101)
(As (Ab 3 (AE (AC 102) (A2 3 (AB 98) (AB 100))
(AE (AC 103) (AL 3 (AB 102))
(AE (AC 20) (Au 3 Dh)
(cDo (AM 3 (AB 20) (AB 103))
(cG (AB 18) false (AC 106) (AL 3 (AB 20))
(cG (AB 18) false (AC 107) (AL 3 (AB 10))
(cG (AB 18) false (AC 108) (Eo ⟨true, [.i .i64, .i .u8, .i .i64]⟩ false (AB 106) (AB 107))
(AE (AC 109) (AW (AB 18) (kV (.bool true)) (AB 108))
(AE (AC 18) (AF (AB 109))
AQ))))))))))
(AE (AC 110) (A9 .i64 (At .i64) (AB 100) (kV (.int .i64 1)))
(AE (AC 100) (AF (AB 110))
AQ)))
(A3 2)))
theorem RN {l : List (Int × Int × Int)} {w d : Int × Int × Int} {i : Nat} (hi : i < l.length) : decide (w ∈ l.take (i + 1)) = (decide (w ∈ l.take i) || decide (l.getD i d = w)) := by
  have e : l.getD i d = l[i] := by rw [List.getD_eq_getElem?_getD, List.getElem?_eq_getElem hi]; rfl
  rw [e, ← List.take_append_getElem hi]
  simp only [List.mem_append, List.mem_singleton, Bool.decide_or]
  congr 1
  exact decide_eq_decide.2 eq_comm
theorem PD {m : MD} (hr : RightP m) : (Bp m).length ≤ 255 := by
  have nb := hr.n1
  unfold Bp
  split
  · have := FB m m.marks.length; omega
  · simp
theorem S3 {F : CallF} {h : Hp} (W : h.Wf) {k b10 : Nat} {m : MD} {v : Value} {w : Int × Int × Int} (hr : RightP m) (ow : OkE w) (R10 : h.Row b10 0 (errL w)) (E : h.Errs k v (Bp m)) {e : Env} (s10 : AB 10 e = pt b10) (s18 : AB 18 e = .bool false) (s98 : AB 98 e = v) (s99 : AB 99 e = .int .i64 ((Bp m).length : Int)) (s100 : AB 100 e = .int .i64 ((0 : Nat) : Int)) :
    ∃ e' h', Ay ltW F e h = .exit 2 e' h' ∧ h.Ext h' ∧ AB 18 e' = .bool (decide (w ∈ Bp m)) ∧ (∀ i, i ∈ [3, 10, 11, 13, 14, 16] → AB i e' = AB i e) := by
  have hlen := PD hr
  refine B8 (I := fun i e' h' => h.Ext h' ∧ i ≤ (Bp m).length ∧ AB 18 e' = .bool (decide (w ∈ (Bp m).take i)) ∧ AB 98 e' = v ∧ AB 99 e' = .int .i64 ((Bp m).length : Int) ∧ AB 100 e' = .int .i64 (i : Int) ∧ AB 3 e' = AB 3 e ∧ AB 10 e' = pt b10 ∧ AB 11 e' = AB 11 e ∧ AB 13 e' = AB 13 e ∧ AB 14 e' = AB 14 e ∧ AB 16 e' = AB 16 e)
    (Q := fun x => ∃ e' h', x = .exit 2 e' h' ∧ h.Ext h' ∧ AB 18 e' = .bool (decide (w ∈ Bp m)) ∧ (∀ i, i ∈ [3, 10, 11, 13, 14, 16] → AB i e' = AB i e)) (Bp m).length (by omega) (fun i e' h' ⟨x, hi, t18, t98, t99, Hb, t3, t10, t11, t13, t14, t16⟩ => ?_) ⟨.refl W, Nat.zero_le _, by rw [s18]; simp, s98, s99, s100, rfl, s10, rfl, rfl, rfl, rfl⟩
  by_cases hlt : i < (Bp m).length
  · left
    have c1 := GC hlt
    obtain ⟨b, a1, a2⟩ := (E.ext W x).at hlt
    have hmem : (Bp m).getD i (0, 0, 0) ∈ Bp m := by
      rw [List.getD_eq_getElem?_getD, List.getElem?_eq_getElem hlt]
      exact List.getElem_mem hlt
    have ok : OkE ((Bp m).getD i (0, 0, 0)) := by
      obtain ⟨_, j, hj, _, e⟩ := Jg hmem
      rw [e]; exact KL hr hj
    have td := RN (w := w) (d := (0, 0, 0)) hlt
    generalize (Bp m).getD i (0, 0, 0) = y at a2 ok td
    obtain ⟨h1, al, Z, x1, n1⟩ := Bq x.wf (n := 3) FD rfl
    have big := x.wf.big
    obtain ⟨h2, st, Z2, x2, n2, o2⟩ := Aw x1 Z (Nat.le_refl _) big (CF y) (n := 3) (off := 0) rfl (Nat.le_refl _) rfl
    rw [A5 (by rfl)] at Z2
    have Z2 : h2.Row h'.next 0 (errL y) := Z2
    obtain ⟨z0, z1, z2, z3⟩ := Bm Z2
    have y2 := x.trans x2
    obtain ⟨_, _, _, w3⟩ := Bm (R10.ext W y2)
    have eq := NS (h := h2) (neg := false) ok ow
    have ad := CY (h := h2) (i := i) (by omega)
    have hrun : ∃ e2, ltW F e' h' = .norm e2 h2 ∧ AB 18 e2 = .bool (decide (w ∈ (Bp m).take (i + 1))) ∧ AB 98 e2 = v ∧ AB 99 e2 = .int .i64 ((Bp m).length : Int) ∧ AB 100 e2 = .int .i64 ((i + 1 : Nat) : Int) ∧ AB 3 e2 = AB 3 e' ∧ AB 10 e2 = pt b10 ∧ AB 11 e2 = AB 11 e' ∧ AB 13 e2 = AB 13 e' ∧ AB 14 e2 = AB 14 e' ∧ AB 16 e2 = AB 16 e' := by
      unfold ltW
      rw [td]
      generalize decide (w ∈ (Bp m).take i) = d at t18 ⊢
      generalize decide (y = w) = q at eq ⊢
      cases d
      · simp only [sT, Nat.reduceLT, Nat.reduceEqDiff, if_true, if_false, reduceIte, gD, AZ, AY, Hb, t99, c1, BG, t98, a1, Aa, AU, a2, al, Ad, st, t18, t10, z3, w3, KB, eq, Bl, ad]
        exact ⟨_, rfl, by simp only [AG, Nat.reduceLT, Nat.reduceEqDiff, if_true, if_false, reduceIte]; cases q <;> rfl, by simp only [AG, Nat.reduceLT, Nat.reduceEqDiff, if_true, if_false, reduceIte]; exact t98, by simp only [AG, Nat.reduceLT, Nat.reduceEqDiff, if_true, if_false, reduceIte]; exact t99, by simp [AG], by simp [AG], by simp only [AG, Nat.reduceLT, Nat.reduceEqDiff, if_true, if_false, reduceIte]; exact t10, by simp [AG], by simp [AG], by simp [AG], by simp [AG]⟩
      · simp only [sT, Nat.reduceLT, Nat.reduceEqDiff, if_true, if_false, reduceIte, gD, AZ, AY, Hb, t99, c1, BG, t98, a1, Aa, AU, a2, al, Ad, st, t18, t10, z3, w3, Bl, ad]
        exact ⟨_, rfl, by simp only [AG, Nat.reduceLT, Nat.reduceEqDiff, if_true, if_false, reduceIte]; cases q <;> rfl, by simp only [AG, Nat.reduceLT, Nat.reduceEqDiff, if_true, if_false, reduceIte]; exact t98, by simp only [AG, Nat.reduceLT, Nat.reduceEqDiff, if_true, if_false, reduceIte]; exact t99, by simp [AG], by simp [AG], by simp only [AG, Nat.reduceLT, Nat.reduceEqDiff, if_true, if_false, reduceIte]; exact t10, by simp [AG], by simp [AG], by simp [AG], by simp [AG]⟩
    obtain ⟨e2, q, q18, q98, q99, q100, q3, q10, q11, q13, q14, q16⟩ := hrun
    exact ⟨hlt, e2, h2, q, y2, hlt, q18, q98, q99, q100, q3.trans t3, q10, q11.trans t11, q13.trans t13, q14.trans t14, q16.trans t16⟩
  · right
    have c1 := EP (a := i) (b := (Bp m).length) (by omega)
    rw [List.take_of_length_le (by omega)] at t18
    have hrun : ∃ e2, ltW F e' h' = .exit 2 e2 h' ∧ AB 18 e2 = AB 18 e' ∧ AB 3 e2 = AB 3 e' ∧ AB 10 e2 = AB 10 e' ∧ AB 11 e2 = AB 11 e' ∧ AB 13 e2 = AB 13 e' ∧ AB 14 e2 = AB 14 e' ∧ AB 16 e2 = AB 16 e' := by
      unfold ltW
      simp only [sT, Nat.reduceLT, Nat.reduceEqDiff, if_true, if_false, reduceIte, AZ, AY, Hb, t99, c1]
      exact ⟨_, rfl, by simp [AG], by simp [AG], by simp [AG], by simp [AG], by simp [AG], by simp [AG], by simp [AG]⟩
    obtain ⟨e2, q, q18, q3, q10, q11, q13, q14, q16⟩ := hrun
    rw [q]
    refine ⟨rfl, e2, h', rfl, x, q18.trans t18, fun i hi => ?_⟩
    simp only [List.mem_cons, List.not_mem_nil, or_false] at hi
    rcases hi with rfl | rfl | rfl | rfl | rfl | rfl
    · exact q3.trans t3
    · exact q10.trans (t10.trans s10.symm)
    · exact q11.trans t11
    · exact q13.trans t13
    · exact q14.trans t14
    · exact q16.trans t16
theorem OT {m : MD} {i : Nat} (hp : m.ph = 1) (hi : i < m.marks.length) (hb : Cq m i = true) : BU m i ∈ Bp m := by
  unfold Bp
  rw [if_pos hp]
  unfold DR
  exact List.mem_filterMap.2 ⟨i, List.mem_range.2 hi, by rw [if_pos hb]⟩
def DU (e e2 : Env) : Prop := AB 3 e2 = AB 3 e ∧ AB 10 e2 = AB 10 e ∧ AB 11 e2 = AB 11 e ∧ AB 13 e2 = AB 13 e ∧ AB 14 e2 = AB 14 e ∧ AB 16 e2 = AB 16 e
theorem DU.trans {e e2 e3 : Env} (a : DU e e2) (b : DU e2 e3) : DU e e3 := ⟨b.1.trans a.1, b.2.1.trans a.2.1, b.2.2.1.trans a.2.2.1, b.2.2.2.1.trans a.2.2.2.1, b.2.2.2.2.1.trans a.2.2.2.2.1, b.2.2.2.2.2.trans a.2.2.2.2.2⟩
structure LtI (h h' : Hp) (b10 b11 b14 N : Nat) (w : Int × Int × Int) (t : TE) (ui ub : Value) (m : MD) (um uw us : Value) : Prop where
  x : h.Ext h'
  R10 : h'.Row b10 0 (errL w)
  R11 : h'.Row b11 0 (tellL t ui ub)
  R14 : h'.Row b14 0 (mendL m um uw us)
  M : h'.Md (fun b => b ≠ b14) m um uw us
  hr : RightP m
  hN : m.marks.length = N
theorem LtI.ext {h h' g : Hp} {b10 b11 b14 N : Nat} {w : Int × Int × Int} {t : TE} {ui ub : Value} {m : MD} {um uw us : Value} (I : LtI h h' b10 b11 b14 N w t ui ub m um uw us) (x : h'.Ext g) : LtI h g b10 b11 b14 N w t ui ub m um uw us :=
  ⟨I.x.trans x, I.R10.ext I.x.wf x, I.R11.ext I.x.wf x, I.R14.ext I.x.wf x, I.M.ext I.x.wf x, I.hr, I.hN⟩
def ltA : C := (AE (AC 112) (AL 7 (AB 14))
(AE (AC 113) (AL 3 (AB 10))
(AE (AC 114) (AL 7 (AB 11))
(AE (AC 115) (AV 10 [(AB 112), (AB 113), (AB 114)])
(AE (AC 116) (Ah 0 (AB 115))
(AE (AC 117) (Ah 1 (AB 115))
(AE (AC 21) (Au 7 DB)
(cDo (AM 7 (AB 21) (AB 116))
(AE (AC 22) (AF (AB 117))
(AE (AC 119) (AS iNe .i64 (AB 22) (kV (.int .i64 0)))
(cG (AB 119) false (AC 121) (AF (AB 18))
(cG (AB 119) false (AC 122) (BF (AB 121))
(cG (AB 119) false (AC 123) (AF (AB 122))
(cG (AB 123) true (AC 124) (AL 7 (AB 21))
(cG (AB 123) true (AC 125) (AL 7 (AB 14))
(cG (AB 123) true (AC 126) (AV 11 [(AB 124), (AB 125)])
(cG (AB 123) true (AC 127) (BF (AB 126))
(cG (AB 119) false (AC 128) (AW (AB 123) (AB 127) (kV (.bool false)))
(AE (AC 129) (AW (AB 119) (kV (.bool true)) (AB 128))
(AO (AB 129)
(AE (AC 12) (AF (kV (.bool false)))
Ak)
AQ))))))))))))))))))))
theorem YE {n : Nat} {h g : Hp} (W : h.Wf) {b10 b11 b14 N r : Nat} {w : Int × Int × Int} {t : TE} {ui ub : Value} {m : MD} {um uw us : Value} {il : List IN} {l : List Nat} (I : LtI h g b10 b11 b14 N w t ui ub m um uw us) (ow : OkE w) (hw : w.1 = (r : Int)) (hrN : r < N) (J : h.Inf ui il) (hil : il.length < 5000000000000) (V : h.By ub l) {e : Env} (s10 : AB 10 e = pt b10) (s11 : AB 11 e = pt b11) (s14 : AB 14 e = pt b14) (s18 : AB 18 e = .bool (decide (w ∈ Bp m))) :
    ∃ e' g', ltA (call AK (n + 6)) e g = .norm e' g' ∧ g.Ext g' ∧ DU e e' := by
  have W' := I.x.wf
  obtain ⟨_, _, _, _, _, _, _, l7⟩ := An I.R14
  obtain ⟨_, _, _, w3⟩ := Bm I.R10
  obtain ⟨_, _, _, t7⟩ := GJ I.R11
  obtain ⟨h1, m', um', uw', us', c, k1, x1, M1, hr1, hT⟩ := Lo (n := n) (t := t) W' I.M I.hr ow (V.ext W I.x) (J.ext W I.x) hil
  have z1 := x1.next
  have big := W'.big
  obtain ⟨h2, al, R2, x2, n2⟩ := Bq x1.wf (n := 7) D0 rfl
  obtain ⟨h3, st, Z3, x3, n3, o3⟩ := Aw x2 R2 (Nat.le_refl _) (by omega) (mendV m' um' uw' us') (n := 7) (off := 0) rfl (Nat.le_refl _) M1.all
  rw [A5 (by rfl)] at Z3
  have Z3 : h3.Row h1.next 0 (mendL m' um' uw' us') := Z3
  have y3 := x1.trans x3
  have hc : c = 0 := by
    rcases hT with ⟨hn, _, _⟩ | ⟨i, _, _, hc, _⟩
    · exact absurd ⟨by omega, by rw [I.hN]; omega⟩ hn
    · exact hc
  have hm : ¬ w ∈ Bp m → m' = m := fun hn => by
    rcases hT with ⟨_, hm, _⟩ | ⟨i, hi, _, _, ⟨_, hm⟩ | ⟨⟨hp, hb, he⟩, _⟩⟩
    · exact hm
    · exact hm
    · exact absurd (by rw [he]; exact OT hp hi hb) hn
  have f0 : iNe c 0 = false := Dv (by omega)
  obtain ⟨_, _, _, _, _, _, _, q7⟩ := An Z3
  obtain ⟨_, _, _, _, _, _, _, l7b⟩ := An (I.R14.ext W' y3)
  by_cases hin : w ∈ Bp m
  · rw [decide_eq_true hin] at s18
    have hrun : ∃ e', ltA (call AK (n + 6)) e g = .norm e' h3 ∧ DU e e' := by
      unfold ltA DU
      simp only [sT, Nat.reduceLT, Nat.reduceEqDiff, if_true, if_false, reduceIte, gD, Aa, s14, s10, s11, s18, AU, l7, w3, t7, Ap, Ae, Al, k1, B9, CJ, CL, al, Ad, st, AZ, AY, f0, BP, BO, Bool.not_true]
      exact ⟨_, rfl, by simp [AG], by simp only [AG, Nat.reduceLT, Nat.reduceEqDiff, if_true, if_false, reduceIte]; exact s10, by simp only [AG, Nat.reduceLT, Nat.reduceEqDiff, if_true, if_false, reduceIte]; exact s11, by simp [AG], by simp only [AG, Nat.reduceLT, Nat.reduceEqDiff, if_true, if_false, reduceIte]; exact s14, by simp [AG]⟩
    obtain ⟨e', q, qk⟩ := hrun
    exact ⟨e', h3, q, y3, qk⟩
  · rw [decide_eq_false hin] at s18
    have hm := hm hin
    subst hm
    obtain ⟨h4, k4, x4⟩ := Ld (n := n + 3) y3.wf (M1.ext x1.wf x3) (I.M.ext W' y3) I.hr
    have hrun : ∃ e', ltA (call AK (n + 6)) e g = .norm e' h4 ∧ DU e e' := by
      unfold ltA DU
      simp only [sT, Nat.reduceLT, Nat.reduceEqDiff, if_true, if_false, reduceIte, gD, Aa, s14, s10, s11, s18, AU, l7, w3, t7, Ap, Ae, Al, k1, B9, CJ, CL, al, Ad, st, AZ, AY, f0, BP, BO, Bool.not_true, Bool.not_false, q7, l7b, k4]
      exact ⟨_, rfl, by simp [AG], by simp only [AG, Nat.reduceLT, Nat.reduceEqDiff, if_true, if_false, reduceIte]; exact s10, by simp only [AG, Nat.reduceLT, Nat.reduceEqDiff, if_true, if_false, reduceIte]; exact s11, by simp [AG], by simp only [AG, Nat.reduceLT, Nat.reduceEqDiff, if_true, if_false, reduceIte]; exact s14, by simp [AG]⟩
    obtain ⟨e', q, qk⟩ := hrun
    exact ⟨e', h4, q, y3.trans x4, qk⟩
end
end Go.Proofs.Ythcfmklkbakkpaa
set_option linter.unusedVariables false
set_option linter.unusedSimpArgs false
namespace Go.Proofs.Ythcfmklkbakkpaa
noncomputable section
open Go Go.RowKit Go.ChangeShapes
set_option maxRecDepth 100000
def ltQ : C := (AO (AB 79)
(AE (AC 81) (AL 7 (AB 14))
(AE (AC 82) (AD 0 (AB 17))
(AE (AC 83) (AH (AB 82))
(AE (AC 84) (AV 9 [(AB 81), (AB 83)])
(AE (AC 85) (Ah 0 (AB 84))
(AE (AC 86) (Ah 1 (AB 84))
(cDo (AM 7 (AB 14) (AB 85))
(AE (AC 15) (AF (AB 86))
AQ))))))))
(BH (CR (AB 14) (Bi (AB 14) []
(AE (AC 88) (AL 7 (AB 14))
(AE (AC 89) (AL 7 (AB 14))
(AE (AC 90) (AL 13 (AB 17))
(AE (AC 91) (Aj .weak (AV 8 [(AB 89), (AB 90)]))
(AE (AC 92) (AD 6 (AB 17))
(CR (AB 92) (Bi (AB 92) []
(AE (AC 93) (AL 7 (AB 92))
(AE (AC 94) (Aj .free (AV 10 [(AB 88), (AB 91), (AB 93)]))
(AE (AC 95) (Ah 0 (AB 94))
(AE (AC 96) (Ah 1 (AB 94))
(cDo (Aj .free (AM 7 (AB 14) (AB 95)))
(AE (AC 15) (AF (AB 96))
AQ)))))))))))))))))
def ltR : C := (AE (AC 18) (AF (kV (.bool false)))
(AE (AC 97) (AL 7 (AB 14))
(AE (AC 98) (AV 7 [(AB 97)])
(AE (AC 99) (Am (AB 98))
(AE (AC 100) (AF (kV (.int .i64 0)))
(As (Ab 2 (Ay (AE (AC 101) (AS iLt .i64 (AB 100) (AB 99))
(AO (AB 101)
(As (Ab 3 (AE (AC 102) (A2 3 (AB 98) (AB 100))
(AE (AC 103) (AL 3 (AB 102))
(AE (AC 20) (Au 3 Dh)
(cDo (AM 3 (AB 20) (AB 103))
(cG (AB 18) false (AC 106) (AL 3 (AB 20))
(cG (AB 18) false (AC 107) (AL 3 (AB 10))
(cG (AB 18) false (AC 108) (Eo ⟨true, [.i .i64, .i .u8, .i .i64]⟩ false (AB 106) (AB 107))
(AE (AC 109) (AW (AB 18) (kV (.bool true)) (AB 108))
(AE (AC 18) (AF (AB 109))
AQ))))))))))
(AE (AC 110) (A9 .i64 (At .i64) (AB 100) (kV (.int .i64 1)))
(AE (AC 100) (AF (AB 110))
AQ)))
(A3 2)))))
(AE (AC 112) (AL 7 (AB 14))
(AE (AC 113) (AL 3 (AB 10))
(AE (AC 114) (AL 7 (AB 11))
(AE (AC 115) (AV 10 [(AB 112), (AB 113), (AB 114)])
(AE (AC 116) (Ah 0 (AB 115))
(AE (AC 117) (Ah 1 (AB 115))
(AE (AC 21) (Au 7 DB)
(cDo (AM 7 (AB 21) (AB 116))
(AE (AC 22) (AF (AB 117))
(AE (AC 119) (AS iNe .i64 (AB 22) (kV (.int .i64 0)))
(cG (AB 119) false (AC 121) (AF (AB 18))
(cG (AB 119) false (AC 122) (BF (AB 121))
(cG (AB 119) false (AC 123) (AF (AB 122))
(cG (AB 123) true (AC 124) (AL 7 (AB 21))
(cG (AB 123) true (AC 125) (AL 7 (AB 14))
(cG (AB 123) true (AC 126) (AV 11 [(AB 124), (AB 125)])
(cG (AB 123) true (AC 127) (BF (AB 126))
(cG (AB 119) false (AC 128) (AW (AB 123) (AB 127) (kV (.bool false)))
(AE (AC 129) (AW (AB 119) (kV (.bool true)) (AB 128))
(AO (AB 129)
(AE (AC 12) (AF (kV (.bool false)))
Ak)
AQ))))))))))))))))))))))))))
def cw : C := (AE (AC 18) (AF (kV (.bool false)))
(AE (AC 97) (AL 7 (AB 14))
(AE (AC 98) (AV 7 [(AB 97)])
(AE (AC 99) (Am (AB 98))
(AE (AC 100) (AF (kV (.int .i64 0)))
(As (Ab 2 (Ay ltW))
ltA))))))
theorem YG : ltR = cw := rfl
def ltT : C := (AE (AC 78) (AD 2 (AB 17))
(AE (AC 79) (AH (AB 78))
(As (AO (AB 79)
(AE (AC 81) (AL 7 (AB 14))
(AE (AC 82) (AD 0 (AB 17))
(AE (AC 83) (AH (AB 82))
(AE (AC 84) (AV 9 [(AB 81), (AB 83)])
(AE (AC 85) (Ah 0 (AB 84))
(AE (AC 86) (Ah 1 (AB 84))
(cDo (AM 7 (AB 14) (AB 85))
(AE (AC 15) (AF (AB 86))
AQ))))))))
(BH (CR (AB 14) (Bi (AB 14) []
(AE (AC 88) (AL 7 (AB 14))
(AE (AC 89) (AL 7 (AB 14))
(AE (AC 90) (AL 13 (AB 17))
(AE (AC 91) (Aj .weak (AV 8 [(AB 89), (AB 90)]))
(AE (AC 92) (AD 6 (AB 17))
(CR (AB 92) (Bi (AB 92) []
(AE (AC 93) (AL 7 (AB 92))
(AE (AC 94) (Aj .free (AV 10 [(AB 88), (AB 91), (AB 93)]))
(AE (AC 95) (Ah 0 (AB 94))
(AE (AC 96) (Ah 1 (AB 94))
(cDo (Aj .free (AM 7 (AB 14) (AB 95)))
(AE (AC 15) (AF (AB 96))
AQ)))))))))))))))))
(AE (AC 18) (AF (kV (.bool false)))
(AE (AC 97) (AL 7 (AB 14))
(AE (AC 98) (AV 7 [(AB 97)])
(AE (AC 99) (Am (AB 98))
(AE (AC 100) (AF (kV (.int .i64 0)))
(As (Ab 2 (Ay (AE (AC 101) (AS iLt .i64 (AB 100) (AB 99))
(AO (AB 101)
(As (Ab 3 (AE (AC 102) (A2 3 (AB 98) (AB 100))
(AE (AC 103) (AL 3 (AB 102))
(AE (AC 20) (Au 3 Dh)
(cDo (AM 3 (AB 20) (AB 103))
(cG (AB 18) false (AC 106) (AL 3 (AB 20))
(cG (AB 18) false (AC 107) (AL 3 (AB 10))
(cG (AB 18) false (AC 108) (Eo ⟨true, [.i .i64, .i .u8, .i .i64]⟩ false (AB 106) (AB 107))
(AE (AC 109) (AW (AB 18) (kV (.bool true)) (AB 108))
(AE (AC 18) (AF (AB 109))
AQ))))))))))
(AE (AC 110) (A9 .i64 (At .i64) (AB 100) (kV (.int .i64 1)))
(AE (AC 100) (AF (AB 110))
AQ)))
(A3 2)))))
(AE (AC 112) (AL 7 (AB 14))
(AE (AC 113) (AL 3 (AB 10))
(AE (AC 114) (AL 7 (AB 11))
(AE (AC 115) (AV 10 [(AB 112), (AB 113), (AB 114)])
(AE (AC 116) (Ah 0 (AB 115))
(AE (AC 117) (Ah 1 (AB 115))
(AE (AC 21) (Au 7 DB)
(cDo (AM 7 (AB 21) (AB 116))
(AE (AC 22) (AF (AB 117))
(AE (AC 119) (AS iNe .i64 (AB 22) (kV (.int .i64 0)))
(cG (AB 119) false (AC 121) (AF (AB 18))
(cG (AB 119) false (AC 122) (BF (AB 121))
(cG (AB 119) false (AC 123) (AF (AB 122))
(cG (AB 123) true (AC 124) (AL 7 (AB 21))
(cG (AB 123) true (AC 125) (AL 7 (AB 14))
(cG (AB 123) true (AC 126) (AV 11 [(AB 124), (AB 125)])
(cG (AB 123) true (AC 127) (BF (AB 126))
(cG (AB 119) false (AC 128) (AW (AB 123) (AB 127) (kV (.bool false)))
(AE (AC 129) (AW (AB 119) (kV (.bool true)) (AB 128))
(AO (AB 129)
(AE (AC 12) (AF (kV (.bool false)))
Ak)
AQ)))))))))))))))))))))))))))))
def cx : C := (AE (AC 78) (AD 2 (AB 17))
(AE (AC 79) (AH (AB 78))
(As ltQ
ltR)))
theorem YH : ltT = cx := rfl
def ltL : C := (AE (AC 49) (Am (AB 3))
(AE (AC 50) (AS iLt .i64 (AB 16) (AB 49))
(cG (AB 50) true (AC 52) (AF (AB 16))
(cG (AB 50) true (AC 53) (AS iLt .i64 (AB 52) (kV (.int .i64 50)))
(AE (AC 54) (AW (AB 50) (AB 53) (kV (.bool false)))
(AO (AB 54)
(As (Ab 1 (AE (AC 59) (A2 13 (AB 3) (AB 16))
(AE (AC 60) (AL 13 (AB 59))
(AE (AC 17) (Au 13 ND)
(cDo (AM 13 (AB 17) (AB 60))
(AE (AC 61) (AD 0 (AB 17))
(AE (AC 62) (AH (AB 61))
(AE (AC 64) (AV 6 [(AB 62), (AB 13)])
(AE (AC 65) (AD 0 (AB 17))
(cDo (AM 1 (AB 65) (AB 64))
(AE (AC 66) (AD 6 (AB 17))
(AE (AC 67) (AD 4 (AB 66))
(AE (AC 68) (AH (AB 67))
(AE (AC 69) (Am (AB 68))
(AE (AC 70) (AS iGt .i64 (AB 69) (kV (.int .i64 60)))
(cG (AB 70) false (AC 72) (AD 6 (AB 17))
(cG (AB 70) false (AC 73) (AD 5 (AB 72))
(cG (AB 70) false (AC 74) (AH (AB 73))
(cG (AB 70) false (AC 75) (Am (AB 74))
(cG (AB 70) false (AC 76) (AS iGt .i64 (AB 75) (kV (.int .i64 100)))
(AE (AC 77) (AW (AB 70) (kV (.bool true)) (AB 76))
(AO (AB 77)
(A3 1)
(AE (AC 78) (AD 2 (AB 17))
(AE (AC 79) (AH (AB 78))
(As (AO (AB 79)
(AE (AC 81) (AL 7 (AB 14))
(AE (AC 82) (AD 0 (AB 17))
(AE (AC 83) (AH (AB 82))
(AE (AC 84) (AV 9 [(AB 81), (AB 83)])
(AE (AC 85) (Ah 0 (AB 84))
(AE (AC 86) (Ah 1 (AB 84))
(cDo (AM 7 (AB 14) (AB 85))
(AE (AC 15) (AF (AB 86))
AQ))))))))
(BH (CR (AB 14) (Bi (AB 14) []
(AE (AC 88) (AL 7 (AB 14))
(AE (AC 89) (AL 7 (AB 14))
(AE (AC 90) (AL 13 (AB 17))
(AE (AC 91) (Aj .weak (AV 8 [(AB 89), (AB 90)]))
(AE (AC 92) (AD 6 (AB 17))
(CR (AB 92) (Bi (AB 92) []
(AE (AC 93) (AL 7 (AB 92))
(AE (AC 94) (Aj .free (AV 10 [(AB 88), (AB 91), (AB 93)]))
(AE (AC 95) (Ah 0 (AB 94))
(AE (AC 96) (Ah 1 (AB 94))
(cDo (Aj .free (AM 7 (AB 14) (AB 95)))
(AE (AC 15) (AF (AB 96))
AQ)))))))))))))))))
(AE (AC 18) (AF (kV (.bool false)))
(AE (AC 97) (AL 7 (AB 14))
(AE (AC 98) (AV 7 [(AB 97)])
(AE (AC 99) (Am (AB 98))
(AE (AC 100) (AF (kV (.int .i64 0)))
(As (Ab 2 (Ay (AE (AC 101) (AS iLt .i64 (AB 100) (AB 99))
(AO (AB 101)
(As (Ab 3 (AE (AC 102) (A2 3 (AB 98) (AB 100))
(AE (AC 103) (AL 3 (AB 102))
(AE (AC 20) (Au 3 Dh)
(cDo (AM 3 (AB 20) (AB 103))
(cG (AB 18) false (AC 106) (AL 3 (AB 20))
(cG (AB 18) false (AC 107) (AL 3 (AB 10))
(cG (AB 18) false (AC 108) (Eo ⟨true, [.i .i64, .i .u8, .i .i64]⟩ false (AB 106) (AB 107))
(AE (AC 109) (AW (AB 18) (kV (.bool true)) (AB 108))
(AE (AC 18) (AF (AB 109))
AQ))))))))))
(AE (AC 110) (A9 .i64 (At .i64) (AB 100) (kV (.int .i64 1)))
(AE (AC 100) (AF (AB 110))
AQ)))
(A3 2)))))
(AE (AC 112) (AL 7 (AB 14))
(AE (AC 113) (AL 3 (AB 10))
(AE (AC 114) (AL 7 (AB 11))
(AE (AC 115) (AV 10 [(AB 112), (AB 113), (AB 114)])
(AE (AC 116) (Ah 0 (AB 115))
(AE (AC 117) (Ah 1 (AB 115))
(AE (AC 21) (Au 7 DB)
(cDo (AM 7 (AB 21) (AB 116))
(AE (AC 22) (AF (AB 117))
(AE (AC 119) (AS iNe .i64 (AB 22) (kV (.int .i64 0)))
(cG (AB 119) false (AC 121) (AF (AB 18))
(cG (AB 119) false (AC 122) (BF (AB 121))
(cG (AB 119) false (AC 123) (AF (AB 122))
(cG (AB 123) true (AC 124) (AL 7 (AB 21))
(cG (AB 123) true (AC 125) (AL 7 (AB 14))
(cG (AB 123) true (AC 126) (AV 11 [(AB 124), (AB 125)])
(cG (AB 123) true (AC 127) (BF (AB 126))
(cG (AB 119) false (AC 128) (AW (AB 123) (AB 127) (kV (.bool false)))
(AE (AC 129) (AW (AB 119) (kV (.bool true)) (AB 128))
(AO (AB 129)
(AE (AC 12) (AF (kV (.bool false)))
Ak)
AQ)))))))))))))))))))))))))))))))))))))))))))))))))))
(AE (AC 56) (A9 .i64 (At .i64) (AB 16) (kV (.int .i64 1)))
(AE (AC 16) (AF (AB 56))
AQ)))
(A3 0)))))))
def QD : C := (AE (AC 49) (Am (AB 3))
(AE (AC 50) (AS iLt .i64 (AB 16) (AB 49))
(cG (AB 50) true (AC 52) (AF (AB 16))
(cG (AB 50) true (AC 53) (AS iLt .i64 (AB 52) (kV (.int .i64 50)))
(AE (AC 54) (AW (AB 50) (AB 53) (kV (.bool false)))
(AO (AB 54)
(As (Ab 1 (AE (AC 59) (A2 13 (AB 3) (AB 16))
(AE (AC 60) (AL 13 (AB 59))
(AE (AC 17) (Au 13 ND)
(cDo (AM 13 (AB 17) (AB 60))
(AE (AC 61) (AD 0 (AB 17))
(AE (AC 62) (AH (AB 61))
(AE (AC 64) (AV 6 [(AB 62), (AB 13)])
(AE (AC 65) (AD 0 (AB 17))
(cDo (AM 1 (AB 65) (AB 64))
(AE (AC 66) (AD 6 (AB 17))
(AE (AC 67) (AD 4 (AB 66))
(AE (AC 68) (AH (AB 67))
(AE (AC 69) (Am (AB 68))
(AE (AC 70) (AS iGt .i64 (AB 69) (kV (.int .i64 60)))
(cG (AB 70) false (AC 72) (AD 6 (AB 17))
(cG (AB 70) false (AC 73) (AD 5 (AB 72))
(cG (AB 70) false (AC 74) (AH (AB 73))
(cG (AB 70) false (AC 75) (Am (AB 74))
(cG (AB 70) false (AC 76) (AS iGt .i64 (AB 75) (kV (.int .i64 100)))
(AE (AC 77) (AW (AB 70) (kV (.bool true)) (AB 76))
(AO (AB 77)
(A3 1)
ltT))))))))))))))))))))))
(AE (AC 56) (A9 .i64 (At .i64) (AB 16) (kV (.int .i64 1)))
(AE (AC 16) (AF (AB 56))
AQ)))
(A3 0)))))))
theorem J3 : ltL = QD := rfl
theorem S1 {n : Nat} {h h' : Hp} (W : h.Wf) {b10 b11 b14 b17 N r : Nat} {w : Int × Int × Int} {t : TE} {ui ub : Value} {m : MD} {um uw us ui' ub' : Value} {o : OP} {il : List IN} {l : List Nat} (I : LtI h h' b10 b11 b14 N w t ui ub m um uw us) (h14 : h.next ≤ b14) (h1014 : b10 < b14) (h1114 : b11 < b14) (R17 : h'.Row b17 0 (opL o ui' ub')) (h17 : b14 < b17) (hor : o.idx = (r : Int)) (hrN : r < N) (J : h.Inf ui' il) (hil : il.length < 5000000000000) (V : h.By ub' l) (ho : OkE o.er) {e : Env} (s14 : AB 14 e = pt b14) (s17 : AB 17 e = pt b17) (s79 : AB 79 e = .bool o.lost) :
    ∃ e' g m' um' uw' us', ltQ (call AK (n + 6)) e h' = .norm e' g ∧ LtI h g b10 b11 b14 N w t ui ub m' um' uw' us' ∧ DU e e' := by
  have W' := I.x.wf
  have big := W.big
  have hx := I.x.next
  obtain ⟨_, _, _, _, _, _, _, l7⟩ := An I.R14
  obtain ⟨q0, q1, q2, q3, q9, q10, q11, q6, q13⟩ := DN R17
  have b14lt := I.R14.lt W'
  have b17lt := R17.lt W'
  cases hL : o.lost
  · rw [hL] at s79
    have xm := I.x.marked
    have hmk : h'.marked.mark = h'.next := rfl
    have hnx : h'.marked.next = h'.next := rfl
    have R10m : h'.marked.Row b10 0 (errL w) := I.R10.same rfl
    have R11m : h'.marked.Row b11 0 (tellL t ui ub) := I.R11.same rfl
    have R14m : h'.marked.Row b14 0 (mendL m um uw us) := I.R14.same rfl
    have R17m : h'.marked.Row b17 0 (opL o ui' ub') := R17.same rfl
    have Mm : h'.marked.Md (fun b => b ≠ b14) m um uw us := I.M.same rfl
    generalize hg0 : h'.marked = g0 at xm hmk hnx R10m R11m R14m R17m Mm
    obtain ⟨_, _, _, _, _, _, _, m7⟩ := An R14m
    obtain ⟨p0, p1, p2, p3, p9, p10, p11, p6, p13⟩ := DN R17m
    obtain ⟨h1, k1, x1⟩ := OI (n := n) (ui := ui') (ub := ub') (o := o) xm.quiet.wf (Mm.same rfl) I.hr
    obtain ⟨g1, c1, xg1, mk1, gb1, gn1⟩ := Dq .weak k1 x1 (by rw [hmk, hnx]; exact Nat.le_refl _)
    have z1 : g0.next ≤ h1.next := x1.next
    have y1 := xm.trans xg1
    have ow := OJ I.hr ho
    generalize hw : C0 m o = we at c1 ow
    have R14a := R14m.ext xm.wf xg1
    have R17a := R17m.ext xm.wf xg1
    obtain ⟨v0, v1, v2, v3, v9, v10, v11, v6, v13⟩ := DN R17a
    obtain ⟨h2, m', um', uw', us', c, k2, x2, M2, hr2, hT⟩ := Lo (n := n) (t := o.t) y1.quiet.wf ((Mm.ext xm.wf xg1).same rfl) I.hr ow (V.ext W y1.quiet) (J.ext W y1.quiet) hil
    obtain ⟨g2, c2, xg2, mk2, gb2, gn2⟩ := Dq .free k2 x2 (by omega)
    have y2 := y1.trans xg2
    have M2' : g2.Md (fun b => b ≠ b14) m' um' uw' us' := (M2.same gb2).mono fun b hb => by
      rcases hb with ⟨hb, _⟩ | hb
      · exact hb
      · have hb : g1.next ≤ b := hb
        omega
    obtain ⟨g3, st, Z, y3, n3, mk3, o3⟩ := Df y2 (R14a.ext y1.wf xg2) h14 (by omega) (mendV m' um' uw' us') (n := 7) (off := 0) rfl (Nat.le_refl _) M2'.all
    rw [A5 (by rfl)] at Z
    have Z : g3.Row b14 0 (mendL m' um' uw' us') := Z
    have old14 : b14 < g0.mark := by omega
    have old17 : b17 < g1.mark := by omega
    have run : ∃ e', ltQ (call AK (n + 6)) e h' = .norm e' g3 ∧ DU e e' := by
      unfold ltQ DU
      simp only [sT, Nat.reduceLT, Nat.reduceEqDiff, if_true, if_false, reduceIte, s79, Bc, hg0, Fh, s14, Dp old14, Eg, Aa, s17, AU, m7, p13, c1, Ae, Al, AJ, AN, Nat.zero_add, Dp old17, v6, c2, B9, CJ, CL, st]
      exact ⟨_, rfl, by simp [AG], by simp [AG], by simp [AG], by simp [AG], by simp only [AG, Nat.reduceLT, Nat.reduceEqDiff, if_true, if_false, reduceIte]; exact s14, by simp [AG]⟩
    obtain ⟨e', a1, a2⟩ := run
    exact ⟨e', g3, m', um', uw', us', a1, ⟨y3, o3 _ _ _ (by omega) ((R10m.ext xm.wf xg1).ext y1.wf xg2), o3 _ _ _ (by omega) ((R11m.ext xm.wf xg1).ext y1.wf xg2), Z, M2'.keep fun b el L hb r => o3 _ _ _ hb r, hr2, (P9 hT).trans I.hN⟩, a2⟩
  · rw [hL] at s79
    have hi : r < m.marks.length := by rw [I.hN]; exact hrN
    obtain ⟨h6, um', uw', us', k6, x6, M6⟩ := QC (n := n + 1) W' I.M I.hr hi
    have z6 := x6.next
    have M6' : h6.Md (fun b => b ≠ b14) (Dw m r) um' uw' us' := M6.mono fun b hb => by
      rcases hb with ⟨hb, _⟩ | hb
      · exact hb
      · omega
    obtain ⟨h7, st7, Z7, x7, n7, o7⟩ := Aw (I.x.trans x6) (I.R14.ext W' x6) h14 (by omega) (mendV (Dw m r) um' uw' us') (n := 7) (off := 0) rfl (Nat.le_refl _) M6'.all
    rw [A5 (by rfl)] at Z7
    have Z7 : h7.Row b14 0 (mendL (Dw m r) um' uw' us') := Z7
    have q0 : load1 ⟨b17, 0, none⟩ h' = .ok (.int .i64 (r : Int)) h' := hor ▸ q0
    have run : ∃ e', ltQ (call AK (n + 6)) e h' = .norm e' h7 ∧ DU e e' := by
      unfold ltQ DU
      simp only [sT, Nat.reduceLT, Nat.reduceEqDiff, if_true, if_false, reduceIte, s79, Aa, s14, s17, AU, l7, AJ, AN, Nat.zero_add, AP, AX, q0, Ap, Ae, Al, k6, B9, CJ, CL, Ad, st7]
      exact ⟨_, rfl, by simp [AG], by simp [AG], by simp [AG], by simp [AG], by simp only [AG, Nat.reduceLT, Nat.reduceEqDiff, if_true, if_false, reduceIte]; exact s14, by simp [AG]⟩
    obtain ⟨e', a1, a2⟩ := run
    exact ⟨e', h7, Dw m r, um', uw', us', a1, ⟨x7, o7 _ _ _ (by omega) (I.R10.ext W' x6), o7 _ _ _ (by omega) (I.R11.ext W' x6), Z7, M6'.keep fun b el L hb r => o7 _ _ _ hb r, K7 I.hr hi, (P7 m r).trans I.hN⟩, a2⟩
theorem S2 {n : Nat} {h g : Hp} (W : h.Wf) {b10 b11 b14 N r : Nat} {w : Int × Int × Int} {t : TE} {ui ub : Value} {m : MD} {um uw us : Value} {il : List IN} {l : List Nat} (I : LtI h g b10 b11 b14 N w t ui ub m um uw us) (ow : OkE w) (hw : w.1 = (r : Int)) (hrN : r < N) (J : h.Inf ui il) (hil : il.length < 5000000000000) (V : h.By ub l) {e : Env} (s10 : AB 10 e = pt b10) (s11 : AB 11 e = pt b11) (s14 : AB 14 e = pt b14) :
    ∃ e' g', ltR (call AK (n + 6)) e g = .norm e' g' ∧ g.Ext g' ∧ DU e e' := by
  obtain ⟨_, _, _, _, _, _, _, l7⟩ := An I.R14
  obtain ⟨h1, v, k1, x1, E1⟩ := Lq (n := n + 1) I.x.wf I.M I.hr
  have I1 := I.ext x1
  have ln := E1.len (g := h1)
  have pre : ∃ e1, ltR (call AK (n + 6)) e g = Fa (Cb 2 (Ay ltW (call AK (n + 6)) e1 h1)) ltA (call AK (n + 6)) ∧ AB 18 e1 = .bool false ∧ AB 98 e1 = v ∧ AB 99 e1 = .int .i64 ((Bp m).length : Int) ∧ AB 100 e1 = .int .i64 ((0 : Nat) : Int) ∧ DU e e1 := by
    rw [YG]
    unfold cw DU
    simp only [Br, Ck, Bh, Be, BQ, Bs, Cm, BM, Bz, AG, Nat.reduceLT, Nat.reduceEqDiff, if_true, if_false, reduceIte, Aa, s14, AU, l7, Ap, Ae, Al, k1, Ai, ln]
    exact ⟨_, rfl, by simp [AG], by simp [AG], by simp [AG], by simp only [AG, Nat.reduceLT, Nat.reduceEqDiff, if_true, if_false, reduceIte]; rfl, by simp [AG], by simp [AG], by simp [AG], by simp [AG], by simp only [AG, Nat.reduceLT, Nat.reduceEqDiff, if_true, if_false, reduceIte]; exact s14, by simp [AG]⟩
  obtain ⟨e1, p, t18, t98, t99, Hb, tk⟩ := pre
  obtain ⟨e2, h2, q, x2, u18, uk⟩ := S3 (F := call AK (n + 6)) I1.x.wf I1.hr ow I1.R10 E1 (tk.2.1.trans s10) t18 t98 t99 Hb
  have u3 := uk 3 (by simp)
  have u10 := uk 10 (by simp)
  have u11 := uk 11 (by simp)
  have u13 := uk 13 (by simp)
  have u14 := uk 14 (by simp)
  have u16 := uk 16 (by simp)
  have k2 : DU e e2 := tk.trans ⟨u3, u10, u11, u13, u14, u16⟩
  obtain ⟨e3, g', a1, a2, a3⟩ := YE (n := n) W (I1.ext x2) ow hw hrN J hil V (k2.2.1.trans s10) (k2.2.2.1.trans s11) (k2.2.2.2.2.1.trans s14) u18
  refine ⟨e3, g', ?_, (x1.trans x2).trans a2, k2.trans a3⟩
  rw [p, q]
  simp only [BJ, BB, a1]
theorem OR {n : Nat} {h h' : Hp} (W : h.Wf) {b10 b11 b14 N nops i r : Nat} {u : Value} {w : Int × Int × Int} {t : TE} {ui ub : Value} {m : MD} {um uw us : Value} {xil : List IN} {xl : List Nat} (O : OpsIn h u nops 80) (I : LtI h h' b10 b11 b14 N w t ui ub m um uw us) (h14 : h.next ≤ b14) (h1014 : b10 < b14) (h1114 : b11 < b14) (hN0 : 1 ≤ N) (hN1 : N ≤ 255) (ow : OkE w) (hw : w.1 = (r : Int)) (hrN : r < N) (XJ : h.Inf ui xil) (xhil : xil.length < 5000000000000) (XV : h.By ub xl) (hi : i < nops) (hi50 : i < 50) {e : Env} (s3 : AB 3 e = u) (s10 : AB 10 e = pt b10) (s11 : AB 11 e = pt b11) (s13 : AB 13 e = .int .i64 (N : Int)) (s14 : AB 14 e = pt b14) (s16 : AB 16 e = .int .i64 (i : Int)) :
    ∃ e' g m' um' uw' us', ltL (call AK (n + 6)) e h' = .norm e' g ∧ LtI h g b10 b11 b14 N w t ui ub m' um' uw' us' ∧ AB 3 e' = u ∧ AB 10 e' = pt b10 ∧ AB 11 e' = pt b11 ∧ AB 13 e' = .int .i64 (N : Int) ∧ AB 14 e' = pt b14 ∧ AB 16 e' = .int .i64 ((i + 1 : Nat) : Int) := by
  have W' := I.x.wf
  have big := W.big
  have hx := I.x.next
  have lnu := O.len h'
  have c1 := GC hi
  have c2 : iLt (i : Int) 50 = true := Ku (by omega)
  obtain ⟨a, o, ui', ub', il, l, hat, J, V, ho⟩ := O.at_ i hi (by omega)
  obtain ⟨a1, a2⟩ := hat h' I.x
  have hui := J.one
  have hub := V.one
  obtain ⟨h1, al, Z1, x1, n1⟩ := Bq W' (n := 13) PF rfl
  obtain ⟨h2, st2, Z2, x2, n2, o2⟩ := Aw x1 Z1 (Nat.le_refl _) (by omega) (opV o ui' ub') (n := 13) (off := 0) rfl (Nat.le_refl _) (YP hui hub)
  rw [A5 (by rfl)] at Z2
  have Z2 : h2.Row h'.next 0 (opL o ui' ub') := Z2
  obtain ⟨q0, _⟩ := DN Z2
  obtain ⟨r2, k1, r0, r1⟩ := LR (n := n + 5) (h := h2) (x := o.idx) (m := (N : Int)) (by omega) (by omega)
  obtain ⟨rn, rfl⟩ := Int.eq_ofNat_of_zero_le r0
  have z2 := x2.next
  obtain ⟨h3, st3, Z3, x3, n3, o3⟩ := Aw x2 Z2 (Nat.le_refl _) (by omega) (.int .i64 (rn : Int)) (n := 1) (off := 0) rfl (by show 0 + 1 ≤ 13; omega) rfl
  have Z3 : h3.Row h'.next 0 (opL { o with idx := (rn : Int) } ui' ub') := Z3
  have I3 := I.ext x3
  have z3 := x3.next
  have b14lt := I.R14.lt W'
  obtain ⟨p0, p1, p2, p3, p9, p10, p11, p6, p13⟩ := DN Z3
  have li := J.len (g := h3)
  have lb := V.len (g := h3)
  have inc : ∀ (e1 : Env) (g : Hp), AB 16 e1 = .int .i64 (i : Int) → ∃ e2, (AE (AC 56) (A9 .i64 (At .i64) (AB 16) (kV (.int .i64 1))) (AE (AC 16) (AF (AB 56)) AQ)) (call AK (n + 6)) e1 g = .norm e2 g ∧ AB 3 e2 = AB 3 e1 ∧ AB 10 e2 = AB 10 e1 ∧ AB 11 e2 = AB 11 e1 ∧ AB 13 e2 = AB 13 e1 ∧ AB 14 e2 = AB 14 e1 ∧ AB 16 e2 = .int .i64 ((i + 1 : Nat) : Int) := fun e1 g h16 => by
    have ad := CY (h := g) (i := i) (by omega)
    simp only [sT, Nat.reduceLT, Nat.reduceEqDiff, if_true, if_false, reduceIte, Bl, h16, ad]
    exact ⟨_, rfl, by simp [AG], by simp [AG], by simp [AG], by simp [AG], by simp [AG], by simp [AG]⟩
  by_cases hbig : 60 < il.length ∨ 100 < l.length
  · have run : ∃ e1, ltL (call AK (n + 6)) e h' = (AE (AC 56) (A9 .i64 (At .i64) (AB 16) (kV (.int .i64 1))) (AE (AC 16) (AF (AB 56)) AQ)) (call AK (n + 6)) e1 h3 ∧ AB 3 e1 = u ∧ AB 10 e1 = pt b10 ∧ AB 11 e1 = pt b11 ∧ AB 13 e1 = .int .i64 (N : Int) ∧ AB 14 e1 = pt b14 ∧ AB 16 e1 = .int .i64 (i : Int) := by
      rw [J3]
      unfold QD
      by_cases h60 : 60 < il.length
      · have f1 : iGt (il.length : Int) 60 = true := Ga (by omega)
        simp only [Br, Ck, Bh, Be, BQ, GM, Bs, Cm, B3, BJ, BB, BM, Bz, AG, Nat.reduceLT, Nat.reduceEqDiff, if_true, if_false, reduceIte, gD, Ai, s3, lnu, AZ, AY, s16, c1, c2, BG, a1, Aa, AU, a2, al, Ad, st2, AJ, AN, Nat.zero_add, Nat.reduceAdd, AP, AX, q0, s13, Ap, Ae, Al, k1, st3, p10, li, f1]
        exact ⟨_, rfl, by simp only [AG, Nat.reduceLT, Nat.reduceEqDiff, if_true, if_false, reduceIte]; exact s3, by simp only [AG, Nat.reduceLT, Nat.reduceEqDiff, if_true, if_false, reduceIte]; exact s10, by simp only [AG, Nat.reduceLT, Nat.reduceEqDiff, if_true, if_false, reduceIte]; exact s11, by simp only [AG, Nat.reduceLT, Nat.reduceEqDiff, if_true, if_false, reduceIte]; exact s13, by simp only [AG, Nat.reduceLT, Nat.reduceEqDiff, if_true, if_false, reduceIte]; exact s14, by simp only [AG, Nat.reduceLT, Nat.reduceEqDiff, if_true, if_false, reduceIte]; exact s16⟩
      · have f1 : iGt (il.length : Int) 60 = false := DD (by omega)
        have f2 : iGt (l.length : Int) 100 = true := Ga (by omega)
        simp only [Br, Ck, Bh, Be, BQ, GM, Bs, Cm, B3, BJ, BB, BM, Bz, AG, Nat.reduceLT, Nat.reduceEqDiff, if_true, if_false, reduceIte, gD, Ai, s3, lnu, AZ, AY, s16, c1, c2, BG, a1, Aa, AU, a2, al, Ad, st2, AJ, AN, Nat.zero_add, Nat.reduceAdd, AP, AX, q0, s13, Ap, Ae, Al, k1, st3, p10, li, f1, p11, lb, f2]
        exact ⟨_, rfl, by simp only [AG, Nat.reduceLT, Nat.reduceEqDiff, if_true, if_false, reduceIte]; exact s3, by simp only [AG, Nat.reduceLT, Nat.reduceEqDiff, if_true, if_false, reduceIte]; exact s10, by simp only [AG, Nat.reduceLT, Nat.reduceEqDiff, if_true, if_false, reduceIte]; exact s11, by simp only [AG, Nat.reduceLT, Nat.reduceEqDiff, if_true, if_false, reduceIte]; exact s13, by simp only [AG, Nat.reduceLT, Nat.reduceEqDiff, if_true, if_false, reduceIte]; exact s14, by simp only [AG, Nat.reduceLT, Nat.reduceEqDiff, if_true, if_false, reduceIte]; exact s16⟩
    obtain ⟨e1, p, t3, t10, t11, t13, t14, t16⟩ := run
    obtain ⟨e2, v0, v3, v10, v11, v13, v14, v16⟩ := inc e1 h3 t16
    exact ⟨e2, h3, m, um, uw, us, by rw [p, v0], I3, v3.trans t3, v10.trans t10, v11.trans t11, v13.trans t13, v14.trans t14, v16⟩
  · have f1 : iGt (il.length : Int) 60 = false := DD (by omega)
    have f2 : iGt (l.length : Int) 100 = false := DD (by omega)
    have pre : ∃ e1, ltL (call AK (n + 6)) e h' = Fa (Cb 1 (Fa (ltQ (call AK (n + 6)) e1 h3) ltR (call AK (n + 6)))) (AE (AC 56) (A9 .i64 (At .i64) (AB 16) (kV (.int .i64 1))) (AE (AC 16) (AF (AB 56)) AQ)) (call AK (n + 6)) ∧ AB 3 e1 = u ∧ AB 10 e1 = pt b10 ∧ AB 11 e1 = pt b11 ∧ AB 13 e1 = .int .i64 (N : Int) ∧ AB 14 e1 = pt b14 ∧ AB 16 e1 = .int .i64 (i : Int) ∧ AB 17 e1 = pt h'.next ∧ AB 79 e1 = .bool o.lost := by
      rw [J3]
      unfold QD
      rw [YH]
      unfold cx
      simp only [Br, Ck, Bh, Be, BQ, Bs, Cm, B3, Ba, BM, Bz, AG, Nat.reduceLT, Nat.reduceEqDiff, if_true, if_false, reduceIte, gD, Ai, s3, lnu, AZ, AY, s16, c1, c2, BG, a1, Aa, AU, a2, al, Ad, st2, AJ, AN, Nat.zero_add, Nat.reduceAdd, AP, AX, q0, s13, Ap, Ae, Al, k1, st3, p10, li, f1, p11, lb, f2, p2]
      exact ⟨_, rfl, by simp only [AG, Nat.reduceLT, Nat.reduceEqDiff, if_true, if_false, reduceIte]; exact s3, by simp only [AG, Nat.reduceLT, Nat.reduceEqDiff, if_true, if_false, reduceIte]; exact s10, by simp only [AG, Nat.reduceLT, Nat.reduceEqDiff, if_true, if_false, reduceIte]; exact s11, by simp only [AG, Nat.reduceLT, Nat.reduceEqDiff, if_true, if_false, reduceIte]; exact s13, by simp only [AG, Nat.reduceLT, Nat.reduceEqDiff, if_true, if_false, reduceIte]; exact s14, by simp only [AG, Nat.reduceLT, Nat.reduceEqDiff, if_true, if_false, reduceIte]; exact s16, by simp [AG], by simp [AG]⟩
    obtain ⟨e1, p, t3, t10, t11, t13, t14, t16, t17, t79⟩ := pre
    obtain ⟨e2, g2, m', um', uw', us', w0, I4, wk⟩ := S1 (n := n) (o := { o with idx := (rn : Int) }) (r := rn) W I3 h14 h1014 h1114 Z3 (by omega) rfl (by omega) J (by omega) V ho t14 t17 t79
    obtain ⟨e3, g3, y0, y1, yk⟩ := S2 (n := n) W I4 ow hw hrN XJ xhil XV (wk.2.1.trans t10) (wk.2.2.1.trans t11) (wk.2.2.2.2.1.trans t14)
    have kk := wk.trans yk
    obtain ⟨e4, v0, v3, v10, v11, v13, v14, v16⟩ := inc e3 g3 (kk.2.2.2.2.2.trans t16)
    refine ⟨e4, g3, m', um', uw', us', ?_, I4.ext y1, v3.trans (kk.1.trans t3), v10.trans (kk.2.1.trans t10), v11.trans (kk.2.2.1.trans t11), v13.trans (kk.2.2.2.1.trans t13), v14.trans (kk.2.2.2.2.1.trans t14), v16⟩
    rw [p, w0]
    simp only [BB, y0, EJ, v0]
theorem OQ {n : Nat} {h h' : Hp} (W : h.Wf) {b10 b11 b14 N nops r : Nat} {u : Value} {w : Int × Int × Int} {t : TE} {ui ub : Value} {m : MD} {um uw us : Value} {xil : List IN} {xl : List Nat} (O : OpsIn h u nops 80) (I : LtI h h' b10 b11 b14 N w t ui ub m um uw us) (h14 : h.next ≤ b14) (h1014 : b10 < b14) (h1114 : b11 < b14) (hN0 : 1 ≤ N) (hN1 : N ≤ 255) (ow : OkE w) (hw : w.1 = (r : Int)) (hrN : r < N) (XJ : h.Inf ui xil) (xhil : xil.length < 5000000000000) (XV : h.By ub xl) {e : Env} (s3 : AB 3 e = u) (s10 : AB 10 e = pt b10) (s11 : AB 11 e = pt b11) (s13 : AB 13 e = .int .i64 (N : Int)) (s14 : AB 14 e = pt b14) (s16 : AB 16 e = .int .i64 ((0 : Nat) : Int)) :
    ∃ e' g, Ay ltL (call AK (n + 6)) e h' = .exit 0 e' g ∧ h.Ext g := by
  refine B8 (I := fun i e' g => i ≤ 50 ∧ AB 3 e' = u ∧ AB 10 e' = pt b10 ∧ AB 11 e' = pt b11 ∧ AB 13 e' = .int .i64 (N : Int) ∧ AB 14 e' = pt b14 ∧ AB 16 e' = .int .i64 (i : Int) ∧ ∃ m um uw us, LtI h g b10 b11 b14 N w t ui ub m um uw us)
    (Q := fun x => ∃ e' g, x = .exit 0 e' g ∧ h.Ext g) 50 (by omega) (fun i e' g ⟨hi, t3, t10, t11, t13, t14, t16, m, um, uw, us, J⟩ => ?_) ⟨by omega, s3, s10, s11, s13, s14, s16, m, um, uw, us, I⟩
  have lnu := O.len g
  by_cases h1 : i < nops
  · by_cases h2 : i < 50
    · left
      obtain ⟨e2, g2, m', um', uw', us', q, J2, q3, q10, q11, q13, q14, q16⟩ := OR (n := n) W O J h14 h1014 h1114 hN0 hN1 ow hw hrN XJ xhil XV h1 h2 t3 t10 t11 t13 t14 t16
      exact ⟨h2, e2, g2, q, h2, q3, q10, q11, q13, q14, q16, m', um', uw', us', J2⟩
    · right
      have c1 := GC h1
      have c2 : iLt (i : Int) 50 = false := Ek (by omega)
      have run : ∃ e2, ltL (call AK (n + 6)) e' g = .exit 0 e2 g := by
        rw [J3]
        unfold QD
        simp only [sT, Nat.reduceLT, Nat.reduceEqDiff, if_true, if_false, reduceIte, gD, Ai, t3, lnu, AZ, AY, t16, c1, c2]
        exact ⟨_, rfl⟩
      obtain ⟨e2, q⟩ := run
      rw [q]
      exact ⟨rfl, e2, g, rfl, J.x⟩
  · right
    have c1 := EP (a := i) (b := nops) (by omega)
    have run : ∃ e2, ltL (call AK (n + 6)) e' g = .exit 0 e2 g := by
      rw [J3]
      unfold QD
      simp only [sT, Nat.reduceLT, Nat.reduceEqDiff, if_true, if_false, reduceIte, gD, Ai, t3, lnu, AZ, AY, t16, c1]
      exact ⟨_, rfl⟩
    obtain ⟨e2, q⟩ := run
    rw [q]
    exact ⟨rfl, e2, g, rfl, J.x⟩
def ltP : C := (As (Ab 0 (Ay (AE (AC 49) (Am (AB 3))
(AE (AC 50) (AS iLt .i64 (AB 16) (AB 49))
(cG (AB 50) true (AC 52) (AF (AB 16))
(cG (AB 50) true (AC 53) (AS iLt .i64 (AB 52) (kV (.int .i64 50)))
(AE (AC 54) (AW (AB 50) (AB 53) (kV (.bool false)))
(AO (AB 54)
(As (Ab 1 (AE (AC 59) (A2 13 (AB 3) (AB 16))
(AE (AC 60) (AL 13 (AB 59))
(AE (AC 17) (Au 13 ND)
(cDo (AM 13 (AB 17) (AB 60))
(AE (AC 61) (AD 0 (AB 17))
(AE (AC 62) (AH (AB 61))
(AE (AC 64) (AV 6 [(AB 62), (AB 13)])
(AE (AC 65) (AD 0 (AB 17))
(cDo (AM 1 (AB 65) (AB 64))
(AE (AC 66) (AD 6 (AB 17))
(AE (AC 67) (AD 4 (AB 66))
(AE (AC 68) (AH (AB 67))
(AE (AC 69) (Am (AB 68))
(AE (AC 70) (AS iGt .i64 (AB 69) (kV (.int .i64 60)))
(cG (AB 70) false (AC 72) (AD 6 (AB 17))
(cG (AB 70) false (AC 73) (AD 5 (AB 72))
(cG (AB 70) false (AC 74) (AH (AB 73))
(cG (AB 70) false (AC 75) (Am (AB 74))
(cG (AB 70) false (AC 76) (AS iGt .i64 (AB 75) (kV (.int .i64 100)))
(AE (AC 77) (AW (AB 70) (kV (.bool true)) (AB 76))
(AO (AB 77)
(A3 1)
(AE (AC 78) (AD 2 (AB 17))
(AE (AC 79) (AH (AB 78))
(As (AO (AB 79)
(AE (AC 81) (AL 7 (AB 14))
(AE (AC 82) (AD 0 (AB 17))
(AE (AC 83) (AH (AB 82))
(AE (AC 84) (AV 9 [(AB 81), (AB 83)])
(AE (AC 85) (Ah 0 (AB 84))
(AE (AC 86) (Ah 1 (AB 84))
(cDo (AM 7 (AB 14) (AB 85))
(AE (AC 15) (AF (AB 86))
AQ))))))))
(BH (CR (AB 14) (Bi (AB 14) []
(AE (AC 88) (AL 7 (AB 14))
(AE (AC 89) (AL 7 (AB 14))
(AE (AC 90) (AL 13 (AB 17))
(AE (AC 91) (Aj .weak (AV 8 [(AB 89), (AB 90)]))
(AE (AC 92) (AD 6 (AB 17))
(CR (AB 92) (Bi (AB 92) []
(AE (AC 93) (AL 7 (AB 92))
(AE (AC 94) (Aj .free (AV 10 [(AB 88), (AB 91), (AB 93)]))
(AE (AC 95) (Ah 0 (AB 94))
(AE (AC 96) (Ah 1 (AB 94))
(cDo (Aj .free (AM 7 (AB 14) (AB 95)))
(AE (AC 15) (AF (AB 96))
AQ)))))))))))))))))
(AE (AC 18) (AF (kV (.bool false)))
(AE (AC 97) (AL 7 (AB 14))
(AE (AC 98) (AV 7 [(AB 97)])
(AE (AC 99) (Am (AB 98))
(AE (AC 100) (AF (kV (.int .i64 0)))
(As (Ab 2 (Ay (AE (AC 101) (AS iLt .i64 (AB 100) (AB 99))
(AO (AB 101)
(As (Ab 3 (AE (AC 102) (A2 3 (AB 98) (AB 100))
(AE (AC 103) (AL 3 (AB 102))
(AE (AC 20) (Au 3 Dh)
(cDo (AM 3 (AB 20) (AB 103))
(cG (AB 18) false (AC 106) (AL 3 (AB 20))
(cG (AB 18) false (AC 107) (AL 3 (AB 10))
(cG (AB 18) false (AC 108) (Eo ⟨true, [.i .i64, .i .u8, .i .i64]⟩ false (AB 106) (AB 107))
(AE (AC 109) (AW (AB 18) (kV (.bool true)) (AB 108))
(AE (AC 18) (AF (AB 109))
AQ))))))))))
(AE (AC 110) (A9 .i64 (At .i64) (AB 100) (kV (.int .i64 1)))
(AE (AC 100) (AF (AB 110))
AQ)))
(A3 2)))))
(AE (AC 112) (AL 7 (AB 14))
(AE (AC 113) (AL 3 (AB 10))
(AE (AC 114) (AL 7 (AB 11))
(AE (AC 115) (AV 10 [(AB 112), (AB 113), (AB 114)])
(AE (AC 116) (Ah 0 (AB 115))
(AE (AC 117) (Ah 1 (AB 115))
(AE (AC 21) (Au 7 DB)
(cDo (AM 7 (AB 21) (AB 116))
(AE (AC 22) (AF (AB 117))
(AE (AC 119) (AS iNe .i64 (AB 22) (kV (.int .i64 0)))
(cG (AB 119) false (AC 121) (AF (AB 18))
(cG (AB 119) false (AC 122) (BF (AB 121))
(cG (AB 119) false (AC 123) (AF (AB 122))
(cG (AB 123) true (AC 124) (AL 7 (AB 21))
(cG (AB 123) true (AC 125) (AL 7 (AB 14))
(cG (AB 123) true (AC 126) (AV 11 [(AB 124), (AB 125)])
(cG (AB 123) true (AC 127) (BF (AB 126))
(cG (AB 119) false (AC 128) (AW (AB 123) (AB 127) (kV (.bool false)))
(AE (AC 129) (AW (AB 119) (kV (.bool true)) (AB 128))
(AO (AB 129)
(AE (AC 12) (AF (kV (.bool false)))
Ak)
AQ)))))))))))))))))))))))))))))))))))))))))))))))))))
(AE (AC 56) (A9 .i64 (At .i64) (AB 16) (kV (.int .i64 1)))
(AE (AC 16) (AF (AB 56))
AQ)))
(A3 0)))))))))
(AE (AC 130) (AV 13 [])
(AE (AC 12) (AF (AB 130))
Ak)))
def cu : C := (AE (AC 130) (AV 13 [])
(AE (AC 12) (AF (AB 130))
Ak))
theorem YF : ltP = As (Ab 0 (Ay ltL)) cu := rfl
def d4h : C := (AE (AC 10) (Bd (AB 4))
(AE (AC 11) (Bd (AB 5))
(AE (AC 12) (AF (kV (.bool false)))
(AE (AC 24) (E4 .u8 (AB 0) (kV (.int .u8 8)))
(AE (AC 25) (CX .i64 (AB 24))
(AE (AC 26) (A9 .i64 (At .i64) (kV (.int .i64 1)) (AB 25))
(AE (AC 13) (AF (AB 26))
(AE (AC 29) (E4 .u8 (AB 2) (kV (.int .u8 10)))
(AE (AC 30) (CX .i64 (AB 29))
(AE (AC 33) (CX .i64 (AB 1))
(AE (AC 35) (E4 .i64 (AB 33) (AB 13))
(AE (AC 36) (A9 .i64 (At .i64) (kV (.int .i64 1)) (AB 35))
(AE (AC 37) (AV 5 [(kV (.int .i64 7)), (AB 30), (AB 13), (AB 36)])
(AE (AC 38) (Ah 0 (AB 37))
(AE (AC 39) (Ah 1 (AB 37))
(AE (AC 14) (Au 7 DB)
(cDo (AM 7 (AB 14) (AB 38))
(AE (AC 15) (AF (AB 39))
(AE (AC 41) (AS iNe .i64 (AB 15) (kV (.int .i64 0)))
(AO (AB 41)
(AE (AC 12) (AF (kV (.bool false)))
Ak)
(AE (AC 42) (AD 0 (AB 10))
(AE (AC 43) (AH (AB 42))
(AE (AC 45) (AV 6 [(AB 43), (AB 13)])
(AE (AC 46) (AD 0 (AB 10))
(cDo (AM 1 (AB 46) (AB 45))
(AE (AC 16) (AF (kV (.int .i64 0)))
ltP))))))))))))))))))))))))))
theorem bH : d4 = d4h := rfl
theorem Sw {n : Nat} {h : Hp} (W : h.Wf) {a b c nops : Nat} {u : Value} {w0 : Int × Int × Int} {t : TE} {ui ub : Value} {xil : List IN} {xl : List Nat} (ha : a < 256) (hb : b < 256) (hc : c < 256) (O : OpsIn h u nops 80) (ow0 : OkE w0) (XJ : h.Inf ui xil) (xhil : xil.length < 5000000000000) (XV : h.By ub xl) :
    ∃ h', call AK (n + 7) 4 [.int .u8 (a : Int), .int .u8 (b : Int), .int .u8 (c : Int), u, CF w0, Dx t ui ub] h = .ok (.bool true) h' ∧ h.Ext h' := by
  have big := W.big
  have m1 : a % 8 < 8 := Nat.mod_lt _ (by omega)
  have m2 : c % 10 < 10 := Nat.mod_lt _ (by omega)
  have m3 : b % (1 + a % 8) < 1 + a % 8 := Nat.mod_lt _ (by omega)
  obtain ⟨g1, bx10, R10, xg1, ng1⟩ := Bw W (CF w0)
  have R10 : g1.Row h.next 0 (errL w0) := R10
  obtain ⟨g2, bx11, R11, xg2, ng2⟩ := Bw xg1.wf (Dx t ui ub)
  have R11 : g2.Row g1.next 0 (tellL t ui ub) := R11
  have yg := xg1.trans xg2
  obtain ⟨e1, e2, e3, e4, e5, e6, e7, e8⟩ := ON (F := call AK (n + 6)) (h := g2) ha hb hc
  obtain ⟨h1, um, k1, x1, M1⟩ := OB (n := n + 1) yg.wf (ver := ((c % 10 : Nat) : Int)) (need := ((1 + b % (1 + a % 8) : Nat) : Int)) (N := 1 + a % 8) (by omega) (by omega) (by omega) (by omega) (by omega) (by omega)
  have hr := I2 (ver := ((c % 10 : Nat) : Int)) (need := ((1 + b % (1 + a % 8) : Nat) : Int)) (n := 1 + a % 8) (by omega) (by omega) (by omega) (by omega) (by omega) (by omega)
  generalize 1 + a % 8 = N at m3 e6 e7 e8 k1 M1 hr
  generalize hm0 : FH ((c % 10 : Nat) : Int) ((1 + b % N : Nat) : Int) N = m0 at k1 M1 hr
  have hl0 : m0.marks.length = N := by rw [← hm0]; exact List.length_replicate
  have nb := hr.n1
  have na := hr.n0
  obtain ⟨h2, Ri, R14, x2, n2⟩ := Bq x1.wf (n := 7) D0 rfl
  have z1 := x1.next
  obtain ⟨h3, st3, Z3, x3, n3, o3⟩ := Aw x2 R14 (Nat.le_refl _) (by omega) (mendV m0 um A6 A6) (n := 7) (off := 0) rfl (Nat.le_refl _) M1.all
  rw [A5 (by rfl)] at Z3
  have Z3 : h3.Row h1.next 0 (mendL m0 um A6 A6) := Z3
  have y13 := x1.trans x3
  have y3 := yg.trans y13
  have R10c : h3.Row h.next 0 (errL w0) := (R10.ext xg1.wf xg2).ext yg.wf y13
  have R11c : h3.Row g1.next 0 (tellL t ui ub) := R11.ext yg.wf y13
  have M3 : h3.Md (fun b => b ≠ h1.next) m0 um A6 A6 := (M1.ext x1.wf x3).mono (fun b hb => by omega)
  obtain ⟨q0, _⟩ := Bm R10c
  obtain ⟨r, k2, r0, r1⟩ := LR (n := n + 5) (h := h3) (x := w0.1) (m := (N : Int)) (by omega) (by omega)
  obtain ⟨rn, rfl⟩ := Int.eq_ofNat_of_zero_le r0
  obtain ⟨h4, st4, Z4, x4, n4, o4⟩ := Aw y3 R10c (Nat.le_refl _) (by omega) (.int .i64 (rn : Int)) (n := 1) (off := 0) rfl (by show 0 + 1 ≤ 3; omega) rfl
  have Z4 : h4.Row h.next 0 (errL ((rn : Int), w0.2.1, w0.2.2)) := Z4
  have ow : OkE ((rn : Int), w0.2.1, w0.2.2) := ⟨⟨by show _ ≤ (rn : Int); omega, by show (rn : Int) ≤ _; omega⟩, ow0.b, ow0.c⟩
  have M4 : h4.Md (fun b => b ≠ h1.next) m0 um A6 A6 := by
    refine (((M1.ext x1.wf x3).mono (S' := fun b => b ≠ h1.next ∧ b ≠ h.next) fun b hb => by omega).keep (h' := h4) fun b el L hb r => o4 _ _ _ hb.2 r).mono fun b hb => hb.1
  have I : LtI h h4 h.next g1.next h1.next N ((rn : Int), w0.2.1, w0.2.2) t ui ub m0 um A6 A6 := { x := x4, R10 := Z4, R11 := o4 _ _ _ (by omega) R11c, R14 := o4 _ _ _ (by omega) Z3, M := M4, hr := hr, hN := hl0 }
  have f0 : iNe 0 0 = false := rfl
  have pre : ∃ e9, d4h (call AK (n + 6)) (Av e0 0 [.int .u8 (a : Int), .int .u8 (b : Int), .int .u8 (c : Int), u, CF w0, Dx t ui ub]) h = ltP (call AK (n + 6)) e9 h4 ∧ AB 3 e9 = u ∧ AB 10 e9 = pt h.next ∧ AB 11 e9 = pt g1.next ∧ AB 13 e9 = .int .i64 (N : Int) ∧ AB 14 e9 = pt h1.next ∧ AB 16 e9 = .int .i64 ((0 : Nat) : Int) := by
    unfold d4h
    simp only [Ac, Af, Nat.succ_eq_add_one, Nat.zero_add, Nat.reduceAdd, Br, Ck, Bh, Bs, Cm, Ba, BM, Bz, AG, Nat.reduceLT, Nat.reduceEqDiff, if_true, if_false, reduceIte, bx10, bx11, KC, e1, QO, e3, Bl, e6, e2, e4, e5, e7, e8, Ap, Ae, Al, k1, B9, CJ, CL, Ri, Ad, st3, AZ, AY, f0, AJ, AN, Nat.zero_add, AP, AX, q0, k2, st4]
    exact ⟨_, rfl, by simp [AG], by simp [AG], by simp [AG], by simp [AG], by simp [AG], by simp only [AG, Nat.reduceLT, Nat.reduceEqDiff, if_true, if_false, reduceIte]; rfl⟩
  obtain ⟨e9, p, s3, s10, s11, s13, s14, s16⟩ := pre
  obtain ⟨e10, g, q, xg⟩ := OQ (n := n) (r := rn) W O I (by omega) (by omega) (by omega) (by omega) (by omega) ow rfl (by omega) XJ xhil XV s3 s10 s11 s13 s14 s16
  refine ⟨g, ?_, xg⟩
  rw [bA rfl, bH, p, YF]
  simp only [Be, BQ, q, BJ, BB]
  unfold cu
  have ka := L8 (n := n + 5) PR (h := g)
  simp only [sT, Nat.reduceLT, Nat.reduceEqDiff, if_true, if_false, reduceIte, Ap, Ae, Al, ka, Ao, Ax]
end
end Go.Proofs.Ythcfmklkbakkpaa
namespace Go.Proofs.Ythcfmklkbakkpaa.mendLate
noncomputable section
open Go Go.ChangeShapes Go.WideShapes Go.ChangeAt Go.RowKit
set_option linter.unusedVariables false
theorem own : ownKnob Try.prog.godebug = none := by kernel_rfl
theorem Fm : laidOutB Try.prog = true := by kernel_rfl
theorem Pb : Try.prog.cellsOf 5 = 1 := by kernel_rfl
theorem SG : Try.prog.cellsOf 40 = 13 := by kernel_rfl
theorem NM : Try.prog.cellsOf 73 = 4 := by kernel_rfl
theorem VM {n : Int} (h : (Lit.int .i64 n).wf = true) : in64 n := by
  simp [Lit.wf, IntKind.min, IntKind.max, IntKind.signed, IntKind.bits] at h
  exact ⟨by omega, by omega⟩
theorem slc {H : Type} {enc : TypeId × Value → H} {P : Program} {W : World} {base t e : Nat} {v : Value} {x : DataW H} {p : List MemPlace} (ht : P.underlying t = some (.slice e)) (h : Value.okWide P W .any base t v) (tx : DataW.Trod enc P W 0 (fun _ => true) true t v x p) :
    ∃ fuel, DataW.trod enc P W 0 (fun _ => true) true fuel t [v] = some (x, p) := by
  have h' : Cell.okWide P W .any base t v := by
    unfold Value.okWide at h
    rw [ht] at h
    exact h
  obtain ⟨fuel, hf⟩ := tx
  refine ⟨fuel, ?_⟩
  rcases M0 ht h' with rfl | ⟨a, n, c, rfl, _⟩ <;> exact hf
theorem SC : Try.prog.bytesOf 73 = 32 := by kernel_rfl
theorem YX {H : Type} {enc : TypeId × Value → H} {P : Program} {t e : TypeId} {s : Nat} (ht : P.underlying t = some (.slice e)) {W : World} {fuel : Nat} {v : Value} {x : DataW H × List MemPlace} {Q : List Value → Prop}
    (hf : DataW.trod enc P W 0 (fun _ => true) true fuel t [v] = some x) {n : Nat} {Ls : List (List Value)} (R : DX W Q s v n Ls) (hw : ∀ k, k ∈ DataW.weights P t x.1 → k ≤ reachBytes) : n * P.bytesOf e ≤ reachBytes := by
  obtain ⟨_, h2, h3⟩ := R
  have h0 : n = 0 → n * P.bytesOf e ≤ reachBytes := fun h => by rw [h, Nat.zero_mul]; exact Nat.zero_le _
  rcases h3 with ⟨_, rfl⟩ | ⟨a, _, rfl⟩ | ⟨a, rfl, _, _, _⟩
  · exact h0 (by simpa using h2)
  · exact h0 (by simpa using h2)
  · rcases DataW.trod_slice ht hf with ⟨hcs, _⟩ | ⟨a', ln, c, elems, rest, m, _, hcs, hx, _, hl, hm, hlen, _⟩
    · cases hcs
    · cases hcs
      subst hx
      have := hw ((elems.length + rest.length) * P.bytesOf e) (by simp [DataW.weights, ht])
      exact Nat.le_trans (Nat.mul_le_mul_right _ (by omega)) this
section
variable {H : Type} {enc : TypeId × Value → H} {w : World}
set_option maxRecDepth 100000 in
theorem bN (m : Nat) (l : List Value) (y : DataW H × List MemPlace) (hl : l.length = 4) (h : DataW.trod enc Try.prog w 0 (fun _ => true) true m 73 l = some y) (_ : ∀ b off, MemPlace.cell b off ∈ y.2 → w.frozen? ⟨b, off, none⟩ = false) : QI l := by
  match l, hl with
  | [c0, c1, c2, c3], _ =>
    obtain ⟨ys, k, _, _, _, hys, hfs⟩ := DataW.trod_struct Try.underlying73 h
    have hys : ys.length = 4 := hys
    have g0 := hfs 0 _ rfl
    have g1 := hfs 1 _ rfl
    have g2 := hfs 2 _ rfl
    have g3 := hfs 3 _ rfl
    have g0 : DataW.trod enc Try.prog w 0 (fun _ => true) true k 3 [c0] = some (ys[0]'(by omega)) := g0.trans (List.getElem?_eq_getElem _)
    have g1 : DataW.trod enc Try.prog w 0 (fun _ => true) true k 3 [c1] = some (ys[1]'(by omega)) := g1.trans (List.getElem?_eq_getElem _)
    have g2 : DataW.trod enc Try.prog w 0 (fun _ => true) true k 3 [c2] = some (ys[2]'(by omega)) := g2.trans (List.getElem?_eq_getElem _)
    have g3 : DataW.trod enc Try.prog w 0 (fun _ => true) true k 71 [c3] = some (ys[3]'(by omega)) := g3.trans (List.getElem?_eq_getElem _)
    obtain ⟨a0, e0, _⟩ := DataW.trod_int Try.underlying3 g0
    obtain ⟨a1, e1, _⟩ := DataW.trod_int Try.underlying3 g1
    obtain ⟨a2, e2, _⟩ := DataW.trod_int Try.underlying3 g2
    obtain ⟨a3, e3, _⟩ := DataW.trod_int Try.underlying71 g3
    cases e0; cases e1; cases e2; cases e3
    exact ⟨⟨a0, a1, a2, a3⟩, rfl⟩
theorem bK (m : Nat) (l : List Value) (y : DataW H × List MemPlace) (hl : l.length = 1) (h : DataW.trod enc Try.prog w 0 (fun _ => true) true m 5 l = some y) (_ : ∀ b off, MemPlace.cell b off ∈ y.2 → w.frozen? ⟨b, off, none⟩ = false) : QB l := by
  obtain ⟨a0, e0, _, hw⟩ := DataW.trod_int Try.underlying5 h
  have := bounds_u8 hw
  subst e0
  exact ⟨a0.toNat, by
    show [Value.int .u8 a0] = [Value.int .u8 ((a0.toNat : Nat) : Int)]
    rw [Int.toNat_of_nonneg this.1]⟩
set_option maxRecDepth 100000 in
theorem bL (m : Nat) (c0 c1 c2 : Value) (y : DataW H × List MemPlace) (h : DataW.trod enc Try.prog w 0 (fun _ => true) true m 34 [c0, c1, c2] = some y) : ∃ x : Int × Int × Int, [c0, c1, c2] = errL x ∧ OkE x := by
  obtain ⟨ys, k, _, _, _, hys, hfs⟩ := DataW.trod_struct Try.underlying34 h
  have hys : ys.length = 3 := hys
  have g0 := hfs 0 _ rfl
  have g1 := hfs 1 _ rfl
  have g2 := hfs 2 _ rfl
  have g0 : DataW.trod enc Try.prog w 0 (fun _ => true) true k 3 [c0] = some (ys[0]'(by omega)) := g0.trans (List.getElem?_eq_getElem _)
  have g1 : DataW.trod enc Try.prog w 0 (fun _ => true) true k 32 [c1] = some (ys[1]'(by omega)) := g1.trans (List.getElem?_eq_getElem _)
  have g2 : DataW.trod enc Try.prog w 0 (fun _ => true) true k 3 [c2] = some (ys[2]'(by omega)) := g2.trans (List.getElem?_eq_getElem _)
  obtain ⟨a0, e0, _, w0⟩ := DataW.trod_int Try.underlying3 g0
  obtain ⟨a1, e1, _, w1⟩ := DataW.trod_int Try.underlying32 g1
  obtain ⟨a2, e2, _, w2⟩ := DataW.trod_int Try.underlying3 g2
  cases e0; cases e1; cases e2
  have := bounds_u8 w1
  exact ⟨(a0, a1, a2), rfl, ⟨VM w0, ⟨this.1, by show a1 ≤ 255; have := this.2; omega⟩, VM w2⟩⟩
set_option maxRecDepth 100000 in
theorem gx (m : Nat) (c0 c1 c2 c3 c4 c5 c6 : Value) (y : DataW H × List MemPlace) (h : DataW.trod enc Try.prog w 0 (fun _ => true) true m 38 [c0, c1, c2, c3, c4, c5, c6] = some y) (hfz : ∀ b off, MemPlace.cell b off ∈ y.2 → w.frozen? ⟨b, off, none⟩ = false) : ∃ t : TE, [c0, c1, c2, c3, c4, c5, c6] = tellL t c4 c5 ∧ (∃ n Ls, DX w QI 4 c4 n Ls) ∧ ∃ n Ls, DX w QB 1 c5 n Ls := by
  obtain ⟨ys, k, _, rfl, _, hys, hfs⟩ := DataW.trod_struct Try.underlying38 h
  have hys : ys.length = 7 := hys
  have g0 := hfs 0 _ rfl
  have g1 := hfs 1 _ rfl
  have g2 := hfs 2 _ rfl
  have g3 := hfs 3 _ rfl
  have g4 := hfs 4 _ rfl
  have g5 := hfs 5 _ rfl
  have g6 := hfs 6 _ rfl
  have g0 : DataW.trod enc Try.prog w 0 (fun _ => true) true k 3 [c0] = some (ys[0]'(by omega)) := g0.trans (List.getElem?_eq_getElem _)
  have g1 : DataW.trod enc Try.prog w 0 (fun _ => true) true k 3 [c1] = some (ys[1]'(by omega)) := g1.trans (List.getElem?_eq_getElem _)
  have g2 : DataW.trod enc Try.prog w 0 (fun _ => true) true k 32 [c2] = some (ys[2]'(by omega)) := g2.trans (List.getElem?_eq_getElem _)
  have g3 : DataW.trod enc Try.prog w 0 (fun _ => true) true k 28 [c3] = some (ys[3]'(by omega)) := g3.trans (List.getElem?_eq_getElem _)
  have g4 : DataW.trod enc Try.prog w 0 (fun _ => true) true k 35 [c4] = some (ys[4]'(by omega)) := g4.trans (List.getElem?_eq_getElem _)
  have g5 : DataW.trod enc Try.prog w 0 (fun _ => true) true k 36 [c5] = some (ys[5]'(by omega)) := g5.trans (List.getElem?_eq_getElem _)
  have g6 : DataW.trod enc Try.prog w 0 (fun _ => true) true k 3 [c6] = some (ys[6]'(by omega)) := g6.trans (List.getElem?_eq_getElem _)
  obtain ⟨a0, e0, _⟩ := DataW.trod_int Try.underlying3 g0
  obtain ⟨a1, e1, _⟩ := DataW.trod_int Try.underlying3 g1
  obtain ⟨a2, e2, _⟩ := DataW.trod_int Try.underlying32 g2
  obtain ⟨a3, e3, _⟩ := DataW.trod_int Try.underlying28 g3
  obtain ⟨a6, e6, _⟩ := DataW.trod_int Try.underlying3 g6
  have hI := Gl Try.underlying35 NM (by omega) (Q := QI) bN g4 (fun b off hm => hfz b off (List.mem_flatMap.2 ⟨_, List.getElem_mem (by omega), hm⟩))
  have hB := Gl Try.underlying36 Pb (by omega) (Q := QB) bK g5 (fun b off hm => hfz b off (List.mem_flatMap.2 ⟨_, List.getElem_mem (by omega), hm⟩))
  cases e0; cases e1; cases e2; cases e3; cases e6
  exact ⟨⟨a0, a1, a2, a3, a6⟩, rfl, hI, hB⟩
set_option maxRecDepth 100000 in
theorem gy (m : Nat) (c0 c1 c2 c3 c4 c5 c6 : Value) (y : DataW H × List MemPlace) (h : DataW.trod enc Try.prog w 0 (fun _ => true) true m 38 [c0, c1, c2, c3, c4, c5, c6] = some y) (hfz : ∀ b off, MemPlace.cell b off ∈ y.2 → w.frozen? ⟨b, off, none⟩ = false) (hw : ∀ k, k ∈ DataW.weights Try.prog 38 y.1 → k ≤ reachBytes) : ∃ t : TE, [c0, c1, c2, c3, c4, c5, c6] = tellL t c4 c5 ∧ (∃ n Ls, DX w QI 4 c4 n Ls ∧ n * 32 ≤ reachBytes) ∧ ∃ n Ls, DX w QB 1 c5 n Ls := by
  obtain ⟨ys, k, _, rfl, _, hys, hfs⟩ := DataW.trod_struct Try.underlying38 h
  have hys : ys.length = 7 := hys
  have g0 := hfs 0 _ rfl
  have g1 := hfs 1 _ rfl
  have g2 := hfs 2 _ rfl
  have g3 := hfs 3 _ rfl
  have g4 := hfs 4 _ rfl
  have g5 := hfs 5 _ rfl
  have g6 := hfs 6 _ rfl
  have g0 : DataW.trod enc Try.prog w 0 (fun _ => true) true k 3 [c0] = some (ys[0]'(by omega)) := g0.trans (List.getElem?_eq_getElem _)
  have g1 : DataW.trod enc Try.prog w 0 (fun _ => true) true k 3 [c1] = some (ys[1]'(by omega)) := g1.trans (List.getElem?_eq_getElem _)
  have g2 : DataW.trod enc Try.prog w 0 (fun _ => true) true k 32 [c2] = some (ys[2]'(by omega)) := g2.trans (List.getElem?_eq_getElem _)
  have g3 : DataW.trod enc Try.prog w 0 (fun _ => true) true k 28 [c3] = some (ys[3]'(by omega)) := g3.trans (List.getElem?_eq_getElem _)
  have g4 : DataW.trod enc Try.prog w 0 (fun _ => true) true k 35 [c4] = some (ys[4]'(by omega)) := g4.trans (List.getElem?_eq_getElem _)
  have g5 : DataW.trod enc Try.prog w 0 (fun _ => true) true k 36 [c5] = some (ys[5]'(by omega)) := g5.trans (List.getElem?_eq_getElem _)
  have g6 : DataW.trod enc Try.prog w 0 (fun _ => true) true k 3 [c6] = some (ys[6]'(by omega)) := g6.trans (List.getElem?_eq_getElem _)
  obtain ⟨a0, e0, _⟩ := DataW.trod_int Try.underlying3 g0
  obtain ⟨a1, e1, _⟩ := DataW.trod_int Try.underlying3 g1
  obtain ⟨a2, e2, _⟩ := DataW.trod_int Try.underlying32 g2
  obtain ⟨a3, e3, _⟩ := DataW.trod_int Try.underlying28 g3
  obtain ⟨a6, e6, _⟩ := DataW.trod_int Try.underlying3 g6
  have hI := Gl Try.underlying35 NM (by omega) (Q := QI) bN g4 (fun b off hm => hfz b off (List.mem_flatMap.2 ⟨_, List.getElem_mem (by omega), hm⟩))
  have hB := Gl Try.underlying36 Pb (by omega) (Q := QB) bK g5 (fun b off hm => hfz b off (List.mem_flatMap.2 ⟨_, List.getElem_mem (by omega), hm⟩))
  obtain ⟨n4, Ls4, R4⟩ := hI
  have hW : n4 * Try.prog.bytesOf 73 ≤ reachBytes := YX Try.underlying35 g4 R4 fun k hk => hw k (by
    rw [show DataW.weights Try.prog 38 (DataW.agg (ys.map (·.1))) = DataW.weightsEach Try.prog [3, 3, 32, 28, 35, 36, 3] (ys.map (·.1)) from by simp [DataW.weights, Try.underlying38]]
    exact DataW.weights_mem_each (j := 4) (t := 35) rfl (by rw [List.getElem?_map, List.getElem?_eq_getElem (by omega)]; rfl) k hk)
  rw [SC] at hW
  cases e0; cases e1; cases e2; cases e3; cases e6
  exact ⟨⟨a0, a1, a2, a3, a6⟩, rfl, ⟨n4, Ls4, R4, hW⟩, hB⟩
theorem EA {n : Nat} {l : List Value} (h : l.length = n + 1) : ∃ a l', l = a :: l' ∧ l'.length = n := by
  cases l with
  | nil => cases h
  | cons a l' => exact ⟨a, l', rfl, Nat.succ.inj h⟩
theorem cq {l : List Value} (h : l.length = 13) : ∃ c0 c1 c2 c3 c4 c5 c6 c7 c8 c9 c10 c11 c12, l = [c0, c1, c2, c3, c4, c5, c6, c7, c8, c9, c10, c11, c12] := by
  obtain ⟨c0, l0, rfl, h0⟩ := EA h
  obtain ⟨c1, l1, rfl, h1⟩ := EA h0
  obtain ⟨c2, l2, rfl, h2⟩ := EA h1
  obtain ⟨c3, l3, rfl, h3⟩ := EA h2
  obtain ⟨c4, l4, rfl, h4⟩ := EA h3
  obtain ⟨c5, l5, rfl, h5⟩ := EA h4
  obtain ⟨c6, l6, rfl, h6⟩ := EA h5
  obtain ⟨c7, l7, rfl, h7⟩ := EA h6
  obtain ⟨c8, l8, rfl, h8⟩ := EA h7
  obtain ⟨c9, l9, rfl, h9⟩ := EA h8
  obtain ⟨c10, l10, rfl, h10⟩ := EA h9
  obtain ⟨c11, l11, rfl, h11⟩ := EA h10
  obtain ⟨c12, l12, rfl, h12⟩ := EA h11
  obtain rfl := List.eq_nil_of_length_eq_zero h12
  exact ⟨c0, c1, c2, c3, c4, c5, c6, c7, c8, c9, c10, c11, c12, rfl⟩
set_option maxRecDepth 100000 in
theorem gv (m : Nat) (l : List Value) (y : DataW H × List MemPlace) (hl : l.length = 13) (h : DataW.trod enc Try.prog w 0 (fun _ => true) true m 40 l = some y) (hfz : ∀ b off, MemPlace.cell b off ∈ y.2 → w.frozen? ⟨b, off, none⟩ = false) : ∃ x : OD, l = x.cells ∧ PJ w x := by
  obtain ⟨c0, c1, c2, c3, c4, c5, c6, c7, c8, c9, c10, c11, c12, rfl⟩ := cq hl
  obtain ⟨ys, k, _, rfl, _, hys, hfs⟩ := DataW.trod_struct Try.underlying40 h
  have hys : ys.length = 5 := hys
  have g0 := hfs 0 _ rfl
  have g1 := hfs 1 _ rfl
  have g2 := hfs 2 _ rfl
  have g3 := hfs 3 _ rfl
  have g4 := hfs 4 _ rfl
  have g0 : DataW.trod enc Try.prog w 0 (fun _ => true) true k 3 [c0] = some (ys[0]'(by omega)) := g0.trans (List.getElem?_eq_getElem _)
  have g1 : DataW.trod enc Try.prog w 0 (fun _ => true) true k 4 [c1] = some (ys[1]'(by omega)) := g1.trans (List.getElem?_eq_getElem _)
  have g2 : DataW.trod enc Try.prog w 0 (fun _ => true) true k 4 [c2] = some (ys[2]'(by omega)) := g2.trans (List.getElem?_eq_getElem _)
  have g3 : DataW.trod enc Try.prog w 0 (fun _ => true) true k 34 [c3, c4, c5] = some (ys[3]'(by omega)) := g3.trans (List.getElem?_eq_getElem _)
  have g4 : DataW.trod enc Try.prog w 0 (fun _ => true) true k 38 [c6, c7, c8, c9, c10, c11, c12] = some (ys[4]'(by omega)) := g4.trans (List.getElem?_eq_getElem _)
  obtain ⟨a0, e0, _⟩ := DataW.trod_int Try.underlying3 g0
  obtain ⟨a1, e1, _⟩ := DataW.trod_bool Try.underlying4 g1
  obtain ⟨a2, e2, _⟩ := DataW.trod_bool Try.underlying4 g2
  obtain ⟨x, e3, ox⟩ := bL k c3 c4 c5 _ g3
  obtain ⟨t, e4, hI, hB⟩ := gx k c6 c7 c8 c9 c10 c11 c12 _ g4 (fun b off hm => hfz b off (List.mem_flatMap.2 ⟨_, List.getElem_mem (by omega), hm⟩))
  cases e0; cases e1; cases e2; cases e3
  obtain ⟨t0, t1, t2, t3, t6⟩ := t
  simp only [tellL] at e4
  cases e4
  exact ⟨⟨⟨a0, a1, a2, x, ⟨t0, t1, t2, t3, t6⟩⟩, c10, c11⟩, rfl, ox, hI, hB⟩
set_option maxRecDepth 100000 in
theorem NA {base : Nat} {v : Value} (h : Value.okWide Try.prog w .any base 5 v) : ∃ n : Nat, v = .int .u8 (n : Int) ∧ n < 256 := by
  unfold Value.okWide at h
  rw [Try.underlying5] at h
  have h : Cell.okWide Try.prog w .any base 5 v := h
  unfold Cell.okWide at h
  rw [Try.underlying5] at h
  have h : Cell.ok Try.prog w .any base 5 v := by cases v <;> exact h
  unfold Cell.ok at h
  rw [Try.underlying5] at h
  split at h <;> first | (exact h.elim; done) | skip
  all_goals (rename_i n e1 _; cases e1)
  obtain ⟨ek, _, _⟩ := h
  rename_i hl hr _ _
  subst hl
  have h1 : (0 : Int) ≤ _ := hr.1
  have h2 : _ ≤ (255 : Int) := hr.2
  obtain ⟨m, rfl⟩ := Int.eq_ofNat_of_zero_le h1
  exact ⟨m, rfl, by omega⟩
end
set_option maxRecDepth 100000 in
theorem pf {H : Type} {enc : TypeId × Value → H} (x y z o v s : Value) (w : World) {base : Nat} {d3 d4 d5 : DataW H} {p3 p4 p5 : List MemPlace} (hx : Value.okWide Try.prog w .any base 5 x) (hy : Value.okWide Try.prog w .any base 5 y) (hz : Value.okWide Try.prog w .any base 5 z) (ho : Value.okWide Try.prog w .any base 22 o) (hv : Value.okWide Try.prog w .any base 34 v) (hs : Value.okWide Try.prog w .any base 38 s)
    (to_ : DataW.Trod enc Try.prog w 0 (fun _ => true) true 22 o d3 p3) (tv : DataW.Trod enc Try.prog w 0 (fun _ => true) true 34 v d4 p4) (ts : DataW.Trod enc Try.prog w 0 (fun _ => true) true 38 s d5 p5) (fo : ∀ b off, MemPlace.cell b off ∈ p3 → w.frozen? ⟨b, off, none⟩ = false) (fs : ∀ b off, MemPlace.cell b off ∈ p5 → w.frozen? ⟨b, off, none⟩ = false) (hw : ∀ k, k ∈ DataW.weights Try.prog 38 d5 → k ≤ reachBytes) :
    Calls Try.prog 4 #[x, y, z, o, v, s] w fun e w' => e = .returned (.bool true) ∧ Below w.heap.size w w' := by
  obtain ⟨a, rfl, ha⟩ := NA hx
  obtain ⟨b, rfl, hb⟩ := NA hy
  obtain ⟨c, rfl, hc⟩ := NA hz
  obtain ⟨lv, rfl, hlv, _⟩ := NF Try.underlying34 (ts := [3, 32, 3]) (by kernel_rfl) (by kernel_rfl) hv
  obtain ⟨v0, lv0, rfl, hv0⟩ := EA (n := 2) hlv
  obtain ⟨v1, lv1, rfl, hv1⟩ := EA (n := 1) hv0
  obtain ⟨v2, lv2, rfl, hv2⟩ := EA (n := 0) hv1
  obtain rfl := List.eq_nil_of_length_eq_zero hv2
  obtain ⟨fv, hfv⟩ := tv
  obtain ⟨w0, ew, ow⟩ := bL fv v0 v1 v2 _ hfv
  rw [ew]
  obtain ⟨ls, rfl, hls, _⟩ := NF Try.underlying38 (ts := [3, 3, 32, 28, 35, 36, 3]) (by kernel_rfl) (by kernel_rfl) hs
  obtain ⟨s0, ls0, rfl, hs0⟩ := EA (n := 6) hls
  obtain ⟨s1, ls1, rfl, hs1⟩ := EA (n := 5) hs0
  obtain ⟨s2, ls2, rfl, hs2⟩ := EA (n := 4) hs1
  obtain ⟨s3, ls3, rfl, hs3⟩ := EA (n := 3) hs2
  obtain ⟨s4, ls4, rfl, hs4⟩ := EA (n := 2) hs3
  obtain ⟨s5, ls5, rfl, hs5⟩ := EA (n := 1) hs4
  obtain ⟨s6, ls6, rfl, hs6⟩ := EA (n := 0) hs5
  obtain rfl := List.eq_nil_of_length_eq_zero hs6
  obtain ⟨fx, hfx⟩ := ts
  obtain ⟨t, et, ⟨nI, LI, RI, hnI⟩, nB, LB, RB⟩ := gy fx s0 s1 s2 s3 s4 s5 s6 _ hfx fs hw
  rw [et]
  obtain ⟨il, il1, il2⟩ := Nf RI
  obtain ⟨bl, bl1, bl2⟩ := PY RB
  obtain ⟨uI, qI, aI, rI, eI, fI⟩ := RI.rel (by omega) (fun l h φ => PL h φ) 0
  obtain ⟨uB, qB, aB, rB, eB, fB⟩ := RB.rel (by omega) (fun l h φ => PK h φ) 1
  have hil : il.length < 5000000000000 := by
    have : reachBytes = 140737488351232 := rfl
    omega
  obtain ⟨fuel, hf⟩ := slc Try.underlying22 ho to_
  obtain ⟨n, Ls, R⟩ := Gl Try.underlying22 SG (by omega) (Q := fun l => ∃ x : OD, l = x.cells ∧ PJ w x) gv hf fo
  obtain ⟨u, q, L0, qs, Zs, l1, l2, r1, r2, r3⟩ := YS R 2 3 80
  have h256 : (LI.flatten :: LB.flatten :: L0 :: Zs).length ≤ 256 := by simp only [List.length_cons]; omega
  have W0 : (inH (LI.flatten :: LB.flatten :: L0 :: Zs)).Wf := P0 h256
  have O := r3 _ W0 (Hg h256 (i := 2) rfl) (fun j L e => Hg h256 (i := j + 3) e)
  have XJ := il2 0 uI fI _ (Hg h256 (i := 0) rfl)
  have XV := bl2 1 uB fB _ (Hg h256 (i := 1) rfl)
  obtain ⟨h', hr, hx'⟩ := Sw (n := 57) (w0 := w0) (t := t) W0 ha hb hc O ow XJ hil XV
  obtain ⟨g1, g2⟩ := r1 (HO (qI :: qB :: q :: qs)) rfl (fun j q' e => by
    show ((qI :: qB :: q :: qs)[j + 3]?).getD none = q'
    have e : (qI :: qB :: q :: qs)[j + 3]? = some q' := e
    rw [e]; rfl)
  have gI := eI (HO (qI :: qB :: q :: qs)) rfl
  have gB := eB (HO (qI :: qB :: q :: qs)) rfl
  refine UF Pa hr hx' rfl (.cons (.int _ _) (.cons (.int _ _) (.cons (.int _ _) (.cons g2 (.cons (.agg (.cons (.int _ _) (.cons (.int _ _) (.cons (.int _ _) .nil)))) (.cons (.agg (.cons (.int _ _) (.cons (.int _ _) (.cons (.int _ _) (.cons (.int _ _) (.cons gI (.cons gB (.cons (.int _ _) .nil)))))))) .nil)))))) (Q6 (ps := qI :: qB :: q :: qs) h256 (by simp only [List.length_cons]; omega) fun i q' L e1 e2 => ?_)
  match i, e1, e2 with
  | 0, e1, e2 => cases e1; cases e2; exact aI.irel (rI _)
  | 1, e1, e2 => cases e1; cases e2; exact aB.irel (rB _)
  | 2, e1, e2 => cases e1; cases e2; exact g1
  | i + 3, e1, e2 =>
    obtain ⟨s1, s2⟩ := r2 i q' L e1 e2
    exact s1.irel (s2 _)
set_option maxRecDepth 100000 in
theorem YD (os : Os) (started : os.Started) (H : Type) (enc : TypeId × Value → H) :
    ReturnsInHanded {} Try.checked os 4 .any (Rows.mendLateSpec.pre6 enc Try.prog Try.f4 Rows.mendLateRow.domain false) (Rows.mendLateSpec.post enc Try.prog Try.f4 false true false false) := by
  refine returnsInHanded_of_change_sized (C := Try.checked) own started (by kernel_rfl) Try.func4
    (ChangeSpec.witness6 (enc := enc) (C := Try.checked) false ⟨#[], #[.int .u8 0, .int .u8 0, .int .u8 0, .slice none 0 0, .agg #[.int .i64 0, .int .u8 0, .int .i64 0], .agg #[.int .i64 0, .int .i64 0, .int .u8 0, .int .i64 0, .slice none 0 0, .slice none 0 0, .int .i64 0]], []⟩ 8 (by kernel_rfl) (by kernel_rfl) (by kernel_rfl) (by kernel_rfl)) ?_
  intro W base args ds gs before hval0 hW hcnd hsz0 _
  have hval : ∀ (j : Nat) t v, Try.f4.params[j]? = some t → args[j]? = some v → Value.okWide Try.prog W .any base t v := hval0
  have hW' := hW
  obtain ⟨p, q, hA0, hV, rfl, hfz, hnd⟩ := hW
  have hA : DataW.TrodAll enc Try.prog W 0 (fun _ => true) true Try.f4.params.toList args.toList ds p := hA0
  rw [Try.params4] at hA hval
  obtain ⟨v0, vs0, d0, ds0, p0, q0, hargs, rfl, rfl, h0, r0⟩ := trodAll_cons hA
  obtain ⟨v1, vs1, d1, ds1, p1, q1, rfl, rfl, rfl, h1, r1⟩ := trodAll_cons r0
  obtain ⟨v2, vs2, d2, ds2, p2, q2, rfl, rfl, rfl, h2, r2⟩ := trodAll_cons r1
  obtain ⟨v3, vs3, d3, ds3, p3, q3, rfl, rfl, rfl, h3, r3⟩ := trodAll_cons r2
  obtain ⟨v4, vs4, d4, ds4, p4, q4, rfl, rfl, rfl, h4, r4⟩ := trodAll_cons r3
  obtain ⟨v5, vs5, d5, ds5, p5, q5, rfl, rfl, rfl, h5, r5⟩ := trodAll_cons r4
  obtain ⟨rfl, rfl, rfl⟩ := trodAll_nil r5
  obtain rfl : args = #[v0, v1, v2, v3, v4, v5] := by cases args; simp_all
  obtain ⟨rfl, rfl⟩ := trodVars_none hV
  clear hA0 hval0
  simp only [List.append_nil] at hW' hfz
  have hlt : ∀ x ∈ p0 ++ (p1 ++ (p2 ++ (p3 ++ (p4 ++ p5)))), x.block < W.heap.size := fun x hx => hW'.lt x hx
  have i0 : ∀ x ∈ p0, x ∈ p0 ++ (p1 ++ (p2 ++ (p3 ++ (p4 ++ p5)))) := fun x hx => List.mem_append_left _ hx
  have i1 : ∀ x ∈ p1, x ∈ p0 ++ (p1 ++ (p2 ++ (p3 ++ (p4 ++ p5)))) := fun x hx => List.mem_append_right _ (List.mem_append_left _ hx)
  have i2 : ∀ x ∈ p2, x ∈ p0 ++ (p1 ++ (p2 ++ (p3 ++ (p4 ++ p5)))) := fun x hx => List.mem_append_right _ (List.mem_append_right _ (List.mem_append_left _ hx))
  have i3 : ∀ x ∈ p3, x ∈ p0 ++ (p1 ++ (p2 ++ (p3 ++ (p4 ++ p5)))) := fun x hx => List.mem_append_right _ (List.mem_append_right _ (List.mem_append_right _ (List.mem_append_left _ hx)))
  have i4 : ∀ x ∈ p4, x ∈ p0 ++ (p1 ++ (p2 ++ (p3 ++ (p4 ++ p5)))) := fun x hx => List.mem_append_right _ (List.mem_append_right _ (List.mem_append_right _ (List.mem_append_right _ (List.mem_append_left _ hx))))
  have i5 : ∀ x ∈ p5, x ∈ p0 ++ (p1 ++ (p2 ++ (p3 ++ (p4 ++ p5)))) := fun x hx => List.mem_append_right _ (List.mem_append_right _ (List.mem_append_right _ (List.mem_append_right _ (List.mem_append_right _ hx))))
  have hw5 : ∀ k, k ∈ DataW.weights Try.prog 38 d5 → k ≤ reachBytes := fun k hk => by
    have hsz : (DataW.weightsEach Try.prog (Try.f4.params.toList ++ Rows.mendLateSpec.plain.varTypes Try.prog) ([d0, d1, d2, d3, d4, d5] ++ [])).all (· ≤ reachBytes) = true := hsz0
    rw [Try.params4] at hsz
    have := List.all_eq_true.1 hsz k (DataW.weights_mem_each (j := 5) (t := 38) rfl rfl k hk)
    simpa using this
  refine (pf v0 v1 v2 v3 v4 v5 W (hval 0 5 v0 rfl rfl) (hval 1 5 v1 rfl rfl) (hval 2 5 v2 rfl rfl) (hval 3 22 v3 rfl rfl) (hval 4 34 v4 rfl rfl) (hval 5 38 v5 rfl rfl) h3 h4 h5 (fun b off hm => hfz b off (i3 _ hm)) (fun b off hm => hfz b off (i5 _ hm)) hw5).mono fun e W' ⟨he, hb⟩ => ?_
  subst he
  refine ⟨_, rfl, Iv (pa := p0 ++ (p1 ++ (p2 ++ (p3 ++ (p4 ++ p5))))) (pv := []) hW' (fun _ _ _ => (trodAll_cons_mk (shut_bool Try.underlying4 _) trodAll_mk0)) (fun sp hsp => ?_) (fun _ _ => rfl) (by simp) hb (ok_one (by kernel_rfl) rfl (okWide_bool_mk Try.underlying4 _))⟩
  have s0 := WideElems.Trod_stays Fm (by kernel_rfl) (of_decide_eq_true (by kernel_rfl)) h0 (fun x hx => hb.same (hlt x (i0 x hx))) (fun x hx => hsp x (i0 x hx))
  have s1 := WideElems.Trod_stays Fm (by kernel_rfl) (of_decide_eq_true (by kernel_rfl)) h1 (fun x hx => hb.same (hlt x (i1 x hx))) (fun x hx => hsp x (i1 x hx))
  have s2 := WideElems.Trod_stays Fm (by kernel_rfl) (of_decide_eq_true (by kernel_rfl)) h2 (fun x hx => hb.same (hlt x (i2 x hx))) (fun x hx => hsp x (i2 x hx))
  have s3 := WideElems.Trod_stays Fm (by kernel_rfl) (of_decide_eq_true (by kernel_rfl)) h3 (fun x hx => hb.same (hlt x (i3 x hx))) (fun x hx => hsp x (i3 x hx))
  have s4 := WideElems.Trod_stays Fm (by kernel_rfl) (of_decide_eq_true (by kernel_rfl)) h4 (fun x hx => hb.same (hlt x (i4 x hx))) (fun x hx => hsp x (i4 x hx))
  have s5 := WideElems.Trod_stays Fm (by kernel_rfl) (of_decide_eq_true (by kernel_rfl)) h5 (fun x hx => hb.same (hlt x (i5 x hx))) (fun x hx => hsp x (i5 x hx))
  have := trodAll_cons_mk s0 (trodAll_cons_mk s1 (trodAll_cons_mk s2 (trodAll_cons_mk s3 (trodAll_cons_mk s4 (trodAll_cons_mk s5 (trodAll_mk0 (enc := enc) (P := Try.prog) (w := W') (base := 0) (spare := sp) (held := true)))))))
  rw [List.append_nil] at this
  exact this
theorem over : Rows.mendLateRow.holds Try.pinned (OpenSpec.ofChange Rows.mendLateSpec) :=
  OpenClaim.holds_of_wide 4 Try.f4 rfl rfl rfl rfl rfl rfl rfl ⟨rfl, rfl, rfl, rfl, rfl⟩ rfl rfl rfl rfl rfl (by kernel_rfl) Try.func4 (by kernel_rfl)
    (of_decide_eq_true (by kernel_rfl)) (by unfold Func.isWrapper; first | (rw [if_pos (by decide +kernel)]; kernel_rfl) | (rw [if_neg (by decide +kernel)]; exact ⟨rfl, rfl⟩))
    (fun os started H enc _ => YD os started H enc)
theorem proved : Rows.MendLateSaid :=
  over
#print axioms proved
end
end Go.Proofs.Ythcfmklkbakkpaa.mendLate
