/-
  Values, blocks and heaps that are the same but for the numbers of some blocks; what holds of the one holds of the other.
-/
import Derived.Test.YtkafejncffinmaaIter
set_option linter.unusedVariables false
set_option linter.unusedSimpArgs false
namespace Go.Proofs.Ytkafejncffinmaa
open Go

theorem bif_true {a b : Bool} (h : (bif a then b else false) = true) : a = true ∧ b = true := by cases a <;> first | exact ⟨rfl, h⟩ | cases h

/-! ### the same? -/
theorem eqA_ok {a b : Addr} (h : eqA a b = true) : a = b := by
  unfold eqA at h
  obtain ⟨h1, h⟩ := bif_true h
  obtain ⟨h2, h⟩ := bif_true h
  cases a with | mk b1 o1 s1 => cases b with | mk b2 o2 s2 =>
  have e1 : b1 = b2 := nat_beq.1 h1
  have e2 : o1 = o2 := nat_beq.1 h2
  subst e1
  subst e2
  cases s1 with
  | some _ => cases h
  | none =>
    cases s2 with
    | some _ => cases h
    | none => rfl
theorem eqOA_ok {a b : Option Addr} (h : eqOA a b = true) : a = b := by
  cases a with
  | none => cases b with
    | none => rfl
    | some _ => cases h
  | some a => cases b with
    | none => cases h
    | some b => rw [eqA_ok h]
theorem eqL_ok {f : Value → Value → Bool} (hf : ∀ a b, f a b = true → a = b) : ∀ {x y : List Value}, eqL f x y = true → x = y
  | [], [], _ => rfl
  | [], _ :: _, h => by cases h
  | _ :: _, [], h => by cases h
  | a :: x, b :: y, h => by
    obtain ⟨h1, h2⟩ := bif_true h
    rw [hf a b h1, eqL_ok hf h2]
theorem arr_eq {x y : Array Value} (h : x.toList = y.toList) : x = y := by
  cases x; cases y; simp only at h; rw [h]
theorem eqv_ok : ∀ (n : Nat) (a b : Value), eqv n a b = true → a = b
  | 0, _, _, h => by cases h
  | n + 1, a, b, h => by
    have ih := fun x y => eqv_ok n x y
    unfold eqv at h
    cases a <;> first | (cases h; done) | (cases b <;> first | (cases h; done) | skip)
    · simp only [beq_iff_eq] at h; rw [h]
    · obtain ⟨h1, h2⟩ := bif_true h
      rw [iEq_is] at h2
      rw [sameK_eq h1, eq_of_beq h2]
    · rename_i x y
      have h : bEq x.data.toList y.data.toList = true := h
      rw [bEq_is] at h
      cases x with | mk x => cases y with | mk y => cases x with | mk x => cases y with | mk y =>
      have h := eq_of_beq h
      have h : x = y := h
      rw [h]
    · rw [eqOA_ok h]
    · obtain ⟨h1, h⟩ := bif_true h
      obtain ⟨h2, h⟩ := bif_true h
      rw [nat_beq.1 h1, nat_beq.1 h2, eqOA_ok h]
    · rename_i x y
      cases x with
      | none => cases y with
        | none => rfl
        | some _ => cases h
      | some x => cases y with
        | none => cases h
        | some y => rw [nat_beq.1 h]
    · rename_i f x u g y v
      cases f with
      | func f =>
        cases g with
        | func g =>
          obtain ⟨h1, h⟩ := bif_true h
          obtain ⟨h2, h⟩ := bif_true h
          rw [nat_beq.1 h1, arr_eq (eqL_ok ih h2), arr_eq (eqL_ok ih h)]
        | _ => cases h
      | _ => cases h
    · rfl
    · obtain ⟨h1, h⟩ := bif_true h
      rw [nat_beq.1 h1, ih _ _ h]
    · rfl
    · rw [arr_eq (eqL_ok ih h)]
    · rw [arr_eq (eqL_ok ih h)]
theorem eqT_ok : ∀ {s t : VT}, eqT s t = true → s = t
  | .mt, .mt, _ => rfl
  | .mt, .nd _ _ _, h => by cases h
  | .nd _ _ _, .mt, h => by cases h
  | .nd v l r, .nd u a b, h => by
    obtain ⟨h1, h⟩ := bif_true h
    obtain ⟨h2, h⟩ := bif_true h
    rw [eqv_ok _ _ _ h1, eqT_ok h2, eqT_ok h]
theorem eqEs_ok : ∀ {x y : List Ent}, eqEs x y = true → x = y
  | [], [], _ => rfl
  | [], _ :: _, h => by cases h
  | _ :: _, [], h => by cases h
  | ⟨k, v, b⟩ :: x, ⟨k', v', b'⟩ :: y, h => by
    obtain ⟨h1, h⟩ := bif_true h
    obtain ⟨h2, h⟩ := bif_true h
    obtain ⟨h3, h⟩ := bif_true h
    have e1 := eqv_ok _ _ _ h1
    have e2 := eqv_ok _ _ _ h2
    have e3 := nat_beq.1 h3
    simp only at e1 e2 e3
    rw [e1, e2, e3, eqEs_ok h]
theorem eqNs_ok : ∀ {x y : List Nat}, eqNs x y = true → x = y
  | [], [], _ => rfl
  | [], _ :: _, h => by cases h
  | _ :: _, [], h => by cases h
  | a :: x, b :: y, h => by
    obtain ⟨h1, h⟩ := bif_true h
    rw [nat_beq.1 h1, eqNs_ok h]
theorem eqB_ok {a b : Blk} (h : eqB a b = true) : a = b := by
  unfold eqB at h
  cases a <;> cases b <;> first | (cases h; done) | skip
  · obtain ⟨h1, h⟩ := bif_true h
    obtain ⟨h2, h⟩ := bif_true h
    rw [nat_beq.1 h1, nat_beq.1 h2, eqT_ok h]
  · obtain ⟨h1, h⟩ := bif_true h
    rw [nat_beq.1 h1, eqEs_ok h]
  · rename_i m s l t m' s' l' t'
    obtain ⟨h1, h⟩ := bif_true h
    obtain ⟨h2, h⟩ := bif_true h
    obtain ⟨h3, h⟩ := bif_true h
    rw [nat_beq.1 h1, nat_beq.1 h2, eqNs_ok h3]
    cases m with
    | none => cases m' with
      | none => rfl
      | some _ => cases h
    | some m => cases m' with
      | none => cases h
      | some m' => rw [nat_beq.1 h]
  · rfl


/-! ### the same but for numbers: 'q i j' says that the first one's i is the second one's j -/

section
variable {q : Nat → Nat → Bool} {φ ψ : Phi}
theorem isoA_ok (hq : ∀ i j, q i j = true → ∀ p, φ i = some p → ψ j = some p) {a b : Addr} (h : isoA q a b = true) : (∀ a', RelA φ a a' → RelA ψ b a') ∧ (∀ c a' c', RelS φ a c a' c' → RelS ψ b c a' c') := by
  unfold isoA at h
  obtain ⟨h1, h⟩ := bif_true h
  obtain ⟨h2, h⟩ := bif_true h
  cases a with | mk b1 o1 s1 => cases b with | mk b2 o2 s2 =>
  have e2 : o1 = o2 := nat_beq.1 h2
  subst e2
  cases s1 with
  | some _ => cases h
  | none =>
    cases s2 with
    | some _ => cases h
    | none =>
      exact ⟨fun a' ⟨x1, x2, p, hp, r⟩ => ⟨rfl, x2, p, hq _ _ h1 p hp, r⟩, fun c a' c' ⟨x1, x2, p, hp, r⟩ => ⟨rfl, x2, p, hq _ _ h1 p hp, r⟩⟩
theorem isoL_rel {f : Value → Value → Bool} (hf : ∀ a b, f a b = true → ∀ v', RelV φ a v' → RelV ψ b v') : ∀ {x y l : List Value}, eqL f x y = true → RelL φ x l → RelL ψ y l
  | [], [], _, _, .nil => .nil
  | [], _ :: _, _, h, _ => by cases h
  | _ :: _, [], _, h, _ => by cases h
  | a :: x, b :: y, _, h, .cons h1 h2 => by
    obtain ⟨h3, h4⟩ := bif_true h
    exact .cons (hf a b h3 _ h1) (isoL_rel hf h4 h2)
theorem isoV_rel (hq : ∀ i j, q i j = true → ∀ p, φ i = some p → ψ j = some p) : ∀ (n : Nat) (a b : Value), isoV q n a b = true → ∀ v', RelV φ a v' → RelV ψ b v'
  | 0, _, _, h, _, _ => by cases h
  | n + 1, a, b, h, v', hv => by
    have ih := fun x y h v' => isoV_rel hq n x y h v'
    unfold isoV at h
    cases a <;> first | (cases h; done) | (cases b <;> first | (cases h; done) | skip)
    · simp only [beq_iff_eq] at h; rw [← h]; cases hv; exact .bool _
    · obtain ⟨h1, h2⟩ := bif_true h
      rw [iEq_is] at h2
      rw [sameK_eq h1, ← eq_of_beq h2]; cases hv; exact .int _ _
    · rename_i x y
      have h : bEq x.data.toList y.data.toList = true := h
      rw [bEq_is] at h
      cases x with | mk x => cases y with | mk y => cases x with | mk x => cases y with | mk y =>
      have h := eq_of_beq h
      have h : x = y := h
      rw [← h]; cases hv; exact .string _
    · rename_i x y
      cases x with
      | none => cases y with
        | none => cases hv; exact .ptr0
        | some _ => cases h
      | some x => cases y with
        | none => cases h
        | some y => cases hv with | ptr hr => exact .ptr ((isoA_ok hq h).1 _ hr)
    · rename_i x l c y m d
      obtain ⟨h1, h⟩ := bif_true h
      obtain ⟨h2, h⟩ := bif_true h
      rw [← nat_beq.1 h1, ← nat_beq.1 h2]
      cases x with
      | none => cases y with
        | none => cases hv; exact .slice0
        | some _ => cases h
      | some x => cases y with
        | none => cases h
        | some y => cases hv with | slice hn hr => exact .slice hn ((isoA_ok hq h).2 _ _ _ hr)
    · rename_i x y
      cases x with
      | none => cases y with
        | none => cases hv; exact .map0
        | some _ => cases h
      | some x => cases y with
        | none => cases h
        | some y => cases hv with | map hr => exact .map (hq _ _ h _ hr)
    · rename_i f x u g y v
      cases f with
      | func f =>
        cases g with
        | func g =>
          obtain ⟨h1, h3⟩ := bif_true h
          obtain ⟨h2, h4⟩ := bif_true h3
          rw [← nat_beq.1 h1]
          cases y with | mk y => cases v with | mk v =>
          cases hv with | func _ r1 r2 => exact .func _ (isoL_rel ih h2 r1) (isoL_rel ih h4 r2)
        | _ => cases h
      | _ => cases h
    · cases hv; exact .nilFunc
    · obtain ⟨h1, h⟩ := bif_true h
      rw [← nat_beq.1 h1]
      cases hv with | iface _ r => exact .iface _ (ih _ _ h _ r)
    · cases hv; exact .nilIface
    · rename_i x y
      cases y with | mk y =>
      cases hv with | agg r => exact .agg (isoL_rel ih h r)
    · rename_i x y
      cases y with | mk y =>
      cases hv with | tuple r => exact .tuple (isoL_rel ih h r)
theorem isoT_get : ∀ {s t : VT}, isoT q s t = true → ∀ j, isoV q 8 (s.get j) (t.get j) = true
  | .mt, .mt, _, j => by cases j <;> rfl
  | .mt, .nd _ _ _, h, _ => by cases h
  | .nd _ _ _, .mt, h, _ => by cases h
  | .nd v l r, .nd u a b, h, j => by
    obtain ⟨h1, h⟩ := bif_true h
    obtain ⟨h2, h⟩ := bif_true h
    cases j with
    | zero => exact h1
    | succ j =>
      rw [VT.get_nd_succ, VT.get_nd_succ]
      split
      · exact isoT_get h2 _
      · exact isoT_get h _
theorem isoEs_rel (hq : ∀ i j, q i j = true → ∀ p, φ i = some p → ψ j = some p) : ∀ {x y : List Ent} {l : List MapEntry}, isoEs q x y = true → RelE φ x l → RelE ψ y l
  | [], [], _, _, .nil => .nil
  | [], _ :: _, _, h, _ => by cases h
  | _ :: _, [], _, h, _ => by cases h
  | ⟨k, v, b⟩ :: x, ⟨k', v', b'⟩ :: y, _, h, .cons hk hv t => by
    obtain ⟨h1, g1⟩ := bif_true h
    obtain ⟨h2, g2⟩ := bif_true g1
    obtain ⟨h3, g3⟩ := bif_true g2
    have e3 : b = b' := nat_beq.1 h3
    subst e3
    exact .cons (isoV_rel hq _ _ _ h1 _ hk) (isoV_rel hq _ _ _ h2 _ hv) (isoEs_rel hq g3 t)
theorem isoB_rel {ty : TTy} (hq : ∀ i j, q i j = true → ∀ p, φ i = some p → ψ j = some p) {a b : Blk} (h : isoB q a b = true) {p : Pl} {o : Option Obj} (hr : RelB ty φ p a o) : RelB ty ψ p b o := by
  unfold isoB at h
  cases a <;> cases b <;> first | (cases h; done) | skip
  · obtain ⟨h1, h⟩ := bif_true h
    obtain ⟨h2, h⟩ := bif_true h
    rw [← nat_beq.1 h1, ← nat_beq.1 h2]
    cases hr with
    | cells R => exact .cells { R with cell := fun j hj => let ⟨v, e, r⟩ := R.cell j hj; ⟨v, e, isoV_rel hq _ _ _ (isoT_get h j) _ r⟩ }
  · obtain ⟨h1, h⟩ := bif_true h
    rw [← nat_beq.1 h1]
    cases hr with
    | map R => exact .map (isoEs_rel hq h R)
  · rename_i m s l t m' s' l' t'
    obtain ⟨h1, h⟩ := bif_true h
    obtain ⟨h2, h⟩ := bif_true h
    obtain ⟨h3, h⟩ := bif_true h
    rw [← nat_beq.1 h1, ← nat_beq.1 h2, ← eqNs_ok h3]
    cases m with
    | none => cases m' with
      | none => cases hr with | iter0 hp => exact .iter0 hp
      | some _ => cases h
    | some m => cases m' with
      | none => cases h
      | some m' => cases hr with | iter hp hm => exact .iter hp (hq _ _ h _ hm)
  · exact .dead
theorem isoB_shape {a b : Blk} (h : isoB q a b = true) : ShapeLe a b := by
  unfold isoB at h
  cases a <;> cases b <;> first | (cases h; done) | skip
  · obtain ⟨h1, h⟩ := bif_true h
    obtain ⟨h2, h⟩ := bif_true h
    exact .inr ⟨nat_beq.1 h1, nat_beq.1 h2⟩
  · exact .inr trivial
  · exact .inr trivial
  · exact .inl rfl
theorem isoB_live {a b : Blk} (h : isoB q a b = true) (hb : b ≠ .dead) : a ≠ .dead := by
  rintro rfl
  unfold isoB at h
  cases b <;> first | (cases h; done) | exact hb rfl
theorem isoB_cells {a : Blk} {c : VT} {s e : Nat} (h : isoB q a (.cells c s e) = true) : ∃ c', a = .cells c' s e := by
  unfold isoB at h
  cases a <;> first | (cases h; done) | skip
  obtain ⟨h1, h⟩ := bif_true h
  obtain ⟨h2, h⟩ := bif_true h
  rw [nat_beq.1 h1, nat_beq.1 h2]
  exact ⟨_, rfl⟩
end

/-! ### heaps -/
theorem nthN_is : ∀ (l : List Nat) (n : Nat), nthN n l = l[n]?
  | [], n => by cases n <;> rfl
  | x :: l, 0 => rfl
  | x :: l, n + 1 => by rw [List.getElem?_cons_succ, ← nthN_is l n]; rfl
theorem lenN_is : ∀ l : List Nat, lenN l = l.length
  | [] => rfl
  | _ :: l => congrArg Nat.succ (lenN_is l)
theorem uptoB_ok {f : Nat → Bool} : ∀ {n i : Nat}, uptoB f n i = true → ∀ j, i ≤ j → j < i + n → f j = true
  | 0, i, _, j, h1, h2 => by omega
  | n + 1, i, h, j, h1, h2 => by
    obtain ⟨h3, h4⟩ := bif_true h
    by_cases hj : j = i
    · rw [hj]; exact h3
    · exact uptoB_ok h4 j (by have : Nat.succ i = i + 1 := rfl; omega) (by have : Nat.succ i = i + 1 := rfl; omega)
theorem notIn_ok {n : Nat} : ∀ {l : List Nat}, notIn n l = true → n ∉ l
  | [], _ => List.not_mem_nil
  | x :: l, h => by
    unfold notIn at h
    cases hb : Nat.beq x n with
    | true => rw [hb] at h; cases h
    | false =>
      rw [hb] at h
      intro hm
      rcases List.mem_cons.1 hm with rfl | hm
      · rw [nat_beq.2 rfl] at hb; cases hb
      · exact notIn_ok h hm
theorem distinct_ok : ∀ {l : List Nat}, distinct l = true → l.Nodup
  | [], _ => List.nodup_nil
  | x :: l, h => by
    obtain ⟨h1, h2⟩ := bif_true h
    exact List.nodup_cons.2 ⟨notIn_ok h1, distinct_ok h2⟩
theorem betw_ok {lo hi : Nat} : ∀ {l : List Nat}, betw lo hi l = true → ∀ x ∈ l, lo ≤ x ∧ x < hi
  | [], _, x, hx => by cases hx
  | y :: l, h, x, hx => by
    obtain ⟨h1, g⟩ := bif_true h
    obtain ⟨h2, h3⟩ := bif_true g
    rcases List.mem_cons.1 hx with rfl | hx
    · exact ⟨nat_ble.1 h1, nat_blt.1 h2⟩
    · exact betw_ok h3 x hx
theorem isoNew_ok {q : Nat → Nat → Bool} {t1 r : BT} : ∀ {l : List Nat} {j : Nat}, isoNew q t1 r l j = true → ∀ (n k : Nat), l[n]? = some k → isoB q (t1.get k) (r.get (j + n)) = true
  | [], _, _, n, k, hn => by cases n <;> cases hn
  | x :: l, j, h, n, k, hn => by
    obtain ⟨h1, h2⟩ := bif_true h
    cases n with
    | zero => cases hn; exact h1
    | succ n =>
      have := isoNew_ok h2 n k (by rw [List.getElem?_cons_succ] at hn; exact hn)
      rw [show j + (n + 1) = Nat.succ j + n by have : Nat.succ j = j + 1 := rfl; omega]
      exact this

theorem nodup_at : ∀ {l : List Nat} {a b k : Nat}, l.Nodup → l[a]? = some k → l[b]? = some k → a = b
  | [], a, _, _, _, h, _ => by cases a <;> cases h
  | x :: l, 0, 0, _, _, _, _ => rfl
  | x :: l, 0, b + 1, k, hd, h, h2 => by
    cases h
    rw [List.getElem?_cons_succ] at h2
    exact absurd (List.mem_of_getElem? h2) (List.nodup_cons.1 hd).1
  | x :: l, a + 1, 0, k, hd, h, h2 => by
    cases h2
    rw [List.getElem?_cons_succ] at h
    exact absurd (List.mem_of_getElem? h) (List.nodup_cons.1 hd).1
  | x :: l, a + 1, b + 1, k, hd, h, h2 => by
    rw [List.getElem?_cons_succ] at h h2
    rw [nodup_at (List.nodup_cons.1 hd).2 h h2]

theorem iso_ok {ty : TTy} {φ φ1 : Phi} {h h1 r hr : Hp} {w w1 : World} {lo : Nat} {L : List Nat} (H : RelW ty φ (fun _ => False) h w) (H1 : RelW ty φ1 (fun _ => False) h1 w1) (E : Evo φ hr w φ1 h1 w1) (hrn : hr.next = h.next) (hrb : hr.bl = h.bl) (hbig : 256 ≤ h.next)
    (hc : isoH lo h h1 r L = true) (hlo : ∀ i, i < lo → r.bl.get i = h.bl.get i) (hfr : ∀ i, r.next ≤ i → r.bl.get i = h.bl.get i) (rlow : r.low ≤ lo ∧ r.low ≤ h.low) (rhigh : r.next ≤ r.high ∧ h.high ≤ r.high) :
    ∃ ψ : Phi, RelW ty ψ (fun _ => False) r w1 ∧ Evo φ h w ψ r w1 := by
  obtain ⟨c1, hc⟩ := bif_true hc
  obtain ⟨c2, hc⟩ := bif_true hc
  obtain ⟨c3, hc⟩ := bif_true hc
  obtain ⟨c4, hc⟩ := bif_true hc
  obtain ⟨c5, c6⟩ := bif_true hc
  clear hc
  have c1 := nat_ble.1 c1
  have c2 : h.next + L.length = r.next := by have := nat_beq.1 c2; rw [lenN_is] at this; exact this
  have c3 := distinct_ok c3
  have c4 := betw_ok c4
  have c5 := fun i (a : lo ≤ i) (b : i < h.next) => uptoB_ok c5 i a (by have : Nat.sub h.next lo = h.next - lo := rfl; omega)
  have c6 := isoNew_ok c6
  obtain ⟨B, hB⟩ : ∃ B, h.next = B := ⟨_, rfl⟩
  rw [hB] at c2 c4 c5 c6 hbig hrn
  let ψ : Phi := fun i => if i < B then φ1 i else match L[i - B]? with | some k => φ1 k | none => none
  have old : ∀ i, i < B → ψ i = φ1 i := fun i hi => if_pos hi
  have new : ∀ i p, B ≤ i → ψ i = some p → ∃ k, L[i - B]? = some k ∧ φ1 k = some p ∧ i < r.next ∧ B ≤ k ∧ k < h1.next := fun i p hi hp => by
    have hp : (if i < B then φ1 i else match L[i - B]? with | some k => φ1 k | none => none) = some p := hp
    rw [if_neg (by omega)] at hp
    cases hk : L[i - B]? with
    | none => rw [hk] at hp; cases hp
    | some k =>
      rw [hk] at hp
      have hlt := (List.getElem?_eq_some_iff.1 hk).1
      have := c4 k (List.mem_of_getElem? hk)
      exact ⟨k, rfl, hp, by omega, this.1, this.2⟩
  have hq : ∀ i j, qOf B L i j = true → ∀ p, φ1 i = some p → ψ j = some p := fun i j hij p hp => by
    unfold qOf at hij
    cases hb : Nat.blt j B with
    | true =>
      rw [hb] at hij
      have hij := nat_beq.1 hij
      rw [← hij] at hb ⊢
      rw [old i (nat_blt.1 hb)]; exact hp
    | false =>
      rw [hb] at hij
      have hj : ¬ j < B := fun h => by rw [nat_blt.2 h] at hb; cases hb
      rw [nthN_is] at hij
      have hs : Nat.sub j B = j - B := rfl
      rw [hs] at hij
      show (if j < B then φ1 j else match L[j - B]? with | some k => φ1 k | none => none) = some p
      rw [if_neg hj]
      cases hk : L[j - B]? with
      | none => rw [hk] at hij; cases hij
      | some k =>
        rw [hk] at hij
        have hij : i = k := nat_beq.1 hij
        rw [← hij]; exact hp
  have f1 : ∀ i p, i < B → φ1 i = some p → φ i = some p := fun i p hi hp => by
    rcases E.new i p hp with h2 | h2
    · exact h2
    · rw [hrn] at h2; omega
  have same1 : ∀ i, i < lo → i < B → h1.bl.get i = h.bl.get i := fun i hi hb => by
    have := E.kept i (by rw [hrn]; exact hb) (.inl (by omega))
    rw [this, hrb]
  have mid : ∀ i, lo ≤ i → i < B → isoB (qOf B L) (h1.bl.get i) (r.bl.get i) = true ∧ (h.bl.get i = r.bl.get i ∨ isoB (qOf B L) (h.bl.get i) (r.bl.get i) = false) := fun i h3 h4 => by
    have hx : isoOld (qOf B L) h.bl h1.bl r.bl i = true := c5 i h3 h4
    unfold isoOld at hx
    obtain ⟨x1, x2⟩ := bif_true hx
    refine ⟨x1, ?_⟩
    cases hy : eqB (h.bl.get i) (r.bl.get i) with
    | true => exact .inl (eqB_ok hy)
    | false =>
      rw [hy] at x2
      right
      cases hz : isoB (qOf B L) (h.bl.get i) (r.bl.get i) with
      | true => rw [hz] at x2; cases x2
      | false => rfl
  have hBr : B ≤ r.next := by omega
  have hle : φ.Le ψ := fun i p hp => by
    have := (H.dom i p hp).1
    rw [old i (by omega)]; exact E.le i p hp
  -- the place that stands behind i
  have src : ∀ i p, ψ i = some p → r.bl.get i ≠ .dead → ∃ k, φ1 k = some p ∧ h1.bl.get k ≠ .dead ∧ ((i < B ∧ k = i) ∨ (B ≤ i ∧ B ≤ k ∧ L[i - B]? = some k)) := fun i p hp hl => by
    by_cases hi : i < B
    · rw [old i hi] at hp
      refine ⟨i, hp, ?_, .inl ⟨hi, rfl⟩⟩
      by_cases hl2 : i < lo
      · rw [same1 i hl2 hi, ← hlo i hl2]; exact hl
      · exact isoB_live (mid i (by omega) hi).1 hl
    · obtain ⟨k, hk, hp, _, hb, _⟩ := new i p (by omega) hp
      refine ⟨k, hp, ?_, .inr ⟨by omega, hb, hk⟩⟩
      have := c6 (i - B) k hk
      rw [show B + (i - B) = i by omega] at this
      exact isoB_live this hl
  have frame : ∀ k, k < w.heap.size → (∀ i p, φ i = some p → p.inp = false → r.low ≤ i → i ≤ r.high → Live h i → p.blk ≠ k) → w1.heap[k]? = w.heap[k]? := fun k hk hf => E.frame k hk fun i p hp hn h3 h4 hl => by
    have hd := (H.dom i p hp).1
    refine hf i p hp hn (by omega) (by omega) ?_
    unfold Live at hl ⊢
    rw [hrb] at hl; exact hl
  refine ⟨ψ, {
    dom := fun i p hp => by
      by_cases hi : i < B
      · rw [old i hi] at hp; exact ⟨by omega, (H1.dom i p hp).2⟩
      · obtain ⟨k, _, hp, hlt, _, _⟩ := new i p (by omega) hp
        exact ⟨hlt, (H1.dom k p hp).2⟩
    inj := fun i j p q hp hq2 _ _ hi hj hio hpq => by
      obtain ⟨k, k1, k2, k3⟩ := src i p hp hi
      obtain ⟨l, l1, l2, l3⟩ := src j q hq2 hj
      have hkl := H1.inj k l p q k1 l1 (fun h => h) (fun h => h) k2 l2 hio hpq
      rcases k3 with ⟨a1, a2⟩ | ⟨a1, a2, a3⟩ <;> rcases l3 with ⟨b1, b2⟩ | ⟨b1, b2, b3⟩
      · omega
      · omega
      · omega
      · rw [← hkl] at b3
        have := nodup_at c3 a3 b3
        omega
    row := fun i p hp _ => by
      by_cases hi : i < B
      · rw [old i hi] at hp
        by_cases hl : i < lo
        · have hpo := f1 i p hi hp
          rw [hlo i hl]
          by_cases hd : h.bl.get i = .dead
          · rw [hd]; exact .dead
          · have hw : w1.heap[p.blk]? = w.heap[p.blk]? := E.frame p.blk (H.dom i p hpo).2 fun j x hx hn h3 h4 hlv hb => by
              have := H.inj j i x p hx hpo (fun h => h) (fun h => h) (by unfold Live at hlv ⊢; rw [hrb] at hlv; exact hlv) hd (.inl hn) hb
              omega
            rw [hw]
            exact (H.row i p hpo (fun h => h)).mono hle
        · exact isoB_rel hq (mid i (by omega) hi).1 (H1.row i p hp (fun h => h))
      · obtain ⟨k, hk, hp, _, _, _⟩ := new i p (by omega) hp
        have := c6 (i - B) k hk
        rw [show B + (i - B) = i by omega] at this
        exact isoB_rel hq this (H1.row k p hp (fun h => h))
    fresh := fun i hi => by rw [hfr i hi]; exact H.fresh i (by omega)
    kind := fun i p c s e hp he => by
      by_cases hi : i < B
      · rw [old i hi] at hp
        by_cases hl : i < lo
        · rw [hlo i hl] at he
          exact H.kind i p c s e (f1 i p hi hp) he
        · have := (mid i (by omega) hi).1
          rw [he] at this
          obtain ⟨c', hc'⟩ := isoB_cells this
          exact H1.kind i p c' s e hp hc'
      · obtain ⟨k, hk, hp, _, _, _⟩ := new i p (by omega) hp
        have := c6 (i - B) k hk
        rw [show B + (i - B) = i by omega, he] at this
        obtain ⟨c', hc'⟩ := isoB_cells this
        exact H1.kind k p c' s e hp hc'
    inp := fun i p hp hn => by
      by_cases hi : i < B
      · rw [old i hi] at hp; exact H1.inp i p hp hn
      · obtain ⟨k, hk, hp, _, hb, _⟩ := new i p (by omega) hp
        have := H1.inp k p hp hn
        omega }, {
    le := hle
    new := fun i p hp => by
      by_cases hi : i < B
      · rw [old i hi] at hp; exact .inl (f1 i p hi hp)
      · right; omega
    next := by omega
    size := E.size
    tape := E.tape
    os := E.os
    output := E.output
    frame := frame
    back := fun i p hp hl hs => by
      obtain ⟨k, k1, k2, k3⟩ := src i p hp hl
      obtain ⟨j, q, hj, hjl, e1, e2, hor⟩ := E.back k p k1 k2 hs
      have hd := (H.dom j q hj).1
      refine ⟨j, q, hj, by unfold Live at hjl ⊢; rw [hrb] at hjl; exact hjl, e1, e2, ?_⟩
      rcases hor with rfl | ⟨h3, h4⟩
      · rcases k3 with ⟨a1, a2⟩ | ⟨a1, a2, a3⟩
        · exact .inl a2
        · omega
      · exact .inr ⟨by omega, by omega⟩
    kept := fun i hi ho => hlo i (by omega)
    low := rlow.2
    high := rhigh.2
    shape := fun i hi => by
      have hi : i < B := by omega
      by_cases hl : i < lo
      · rw [hlo i hl]; exact .refl _
      · have h3 := E.shape i (by rw [hrn]; exact hi)
        rw [hrb] at h3
        exact h3.trans (isoB_shape (mid i (by omega) hi).1)
    only := fun i hi h0 => by
      have hi : i < B := by omega
      by_cases hl : i < lo
      · exact hlo i hl
      · have h3 := E.only i (by rw [hrn]; exact hi) h0
        rw [hrb] at h3
        obtain ⟨x1, x2⟩ := mid i (by omega) hi
        rw [h3] at x1
        rcases x2 with x2 | x2
        · exact x2.symm
        · rw [x1] at x2; cases x2
    all := fun i h3 h4 => by
      have hlt : i - B < L.length := by omega
      have hk : L[i - B]? = some L[i - B] := List.getElem?_eq_getElem hlt
      have hb := c4 _ (List.getElem_mem hlt)
      obtain ⟨p, hp⟩ := E.all L[i - B] (by rw [hrn]; exact hb.1) hb.2
      refine ⟨p, ?_⟩
      show (if i < B then φ1 i else match L[i - B]? with | some k => φ1 k | none => none) = some p
      rw [if_neg (by omega), hk]
      exact hp }⟩
end Go.Proofs.Ytkafejncffinmaa
