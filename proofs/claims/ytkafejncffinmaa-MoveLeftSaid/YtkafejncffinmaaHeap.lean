/-
  What the machine does to its heap, and what the model does to its own: the two stay related.
-/
import Derived.Test.YtkafejncffinmaaRel
namespace Go.Proofs.Ytkafejncffinmaa
open Go

theorem forceN_is {β : Type} (m : Nat) (k : Nat → β) : forceN m k = k m := by cases m <;> rfl
theorem forceI_is {β : Type} (i : Int) (k : Int → β) : forceI i k = k i := by
  cases i with
  | ofNat m => exact forceN_is m fun m => k (.ofNat m)
  | negSucc m => exact forceN_is m fun m => k (.negSucc m)
theorem forceV_is (v : Value) (k : Value → R) : forceV v k = k v := by cases v <;> rfl
theorem moveR_is (v : Value) (h : Hp) : moveR v h = .ok v h := by cases v <;> rfl
theorem forceL_is : ∀ (l : List Value) (k : List Value → R), forceL l k = k l
  | [], _ => rfl
  | v :: l, k => by
    show (forceV v fun v => forceL l fun l => k (v :: l)) = _
    rw [forceV_is, forceL_is l]
theorem lenL_is {α : Type} : ∀ l : List α, lenL l = l.length
  | [] => rfl
  | _ :: l => congrArg Nat.succ (lenL_is l)
theorem takeL_is {α : Type} : ∀ (n : Nat) (l : List α), takeL n l = l.take n
  | 0, _ => rfl
  | _ + 1, [] => rfl
  | n + 1, x :: l => congrArg (x :: ·) (takeL_is n l)
theorem dropL_is {α : Type} : ∀ (n : Nat) (l : List α), dropL n l = l.drop n
  | 0, _ => rfl
  | _ + 1, [] => rfl
  | n + 1, _ :: l => dropL_is n l
theorem nth_is {α : Type} : ∀ (l : List α) (i : Nat), nth l i = l[i]?
  | [], i => by cases i <;> rfl
  | x :: l, 0 => rfl
  | x :: l, i + 1 => by
    show nth l i = _
    rw [nth_is l i, List.getElem?_cons_succ]
theorem minN_is (a b : Nat) : minN a b = min a b := by
  unfold minN
  rcases Nat.lt_or_ge b a with h | h
  · have : Nat.ble a b = false := by
      cases e : Nat.ble a b
      · rfl
      · exact absurd (Nat.le_of_ble_eq_true e) (Nat.not_le.2 h)
    rw [this]; exact (Nat.min_eq_right (Nat.le_of_lt h)).symm
  · rw [Nat.ble_eq_true_of_le h]; exact (Nat.min_eq_left h).symm
theorem maxN_is (a b : Nat) : maxN a b = max a b := by
  unfold maxN
  rcases Nat.lt_or_ge b a with h | h
  · have : Nat.ble a b = false := by
      cases e : Nat.ble a b
      · rfl
      · exact absurd (Nat.le_of_ble_eq_true e) (Nat.not_le.2 h)
    rw [this]; exact (Nat.max_eq_left (Nat.le_of_lt h)).symm
  · rw [Nat.ble_eq_true_of_le h]; exact (Nat.max_eq_right h).symm
theorem nat_ble {a b : Nat} : Nat.ble a b = true ↔ a ≤ b := ⟨Nat.le_of_ble_eq_true, Nat.ble_eq_true_of_le⟩
theorem nat_blt {a b : Nat} : Nat.blt a b = true ↔ a < b := ⟨Nat.le_of_ble_eq_true, Nat.ble_eq_true_of_le⟩
theorem nat_beq {a b : Nat} : Nat.beq a b = true ↔ a = b := ⟨Nat.eq_of_beq_eq_true, fun h => h ▸ Nat.beq_refl a⟩

def Phi.put (φ : Phi) (i : Nat) (p : Pl) : Phi := fun j => if j = i then some p else φ j
theorem Phi.put_self (φ : Phi) (i : Nat) (p : Pl) : φ.put i p i = some p := if_pos rfl
theorem Phi.put_le {φ : Phi} {i : Nat} {p : Pl} (h : φ i = none) : φ.Le (φ.put i p) := fun j q e => by
  unfold Phi.put
  split
  · rename_i hji; rw [hji, h] at e; cases e
  · exact e
theorem Phi.put_cases {φ : Phi} {i : Nat} {p : Pl} {j : Nat} {q : Pl} (e : φ.put i p j = some q) : (j = i ∧ q = p) ∨ (j ≠ i ∧ φ j = some q) := by
  unfold Phi.put at e
  split at e
  · rename_i hji; cases e; exact .inl ⟨hji, rfl⟩
  · rename_i hji; exact .inr ⟨hji, e⟩

section
variable {ty : TTy} {φ : Phi} {E : Nat → Prop} {h : Hp} {w w' : World}

theorem RelW.none_next (H : RelW ty φ E h w) : φ h.next = none := by
  cases e : φ h.next with
  | none => rfl
  | some p => exact absurd (H.dom _ _ e).1 (Nat.lt_irrefl _)

theorem BT.live_set {bl bl' : BT} {i : Nat} {o : Blk} (hs : bl.set i o = some bl') (j : Nat) : bl'.get j = if j = i then o else bl.get j := BT.get_set _ _ _ _ hs j

/-- a new block, in a place where none is in use -/
theorem RelW.new (H : RelW ty φ E h w) {o : Blk} {bl : BT} {p : Pl} (hset : h.bl.set h.next o = some bl) (hsz : w.heap.size ≤ w'.heap.size) (hp : p.blk < w'.heap.size)
    (hfree : ∀ j q, φ j = some q → Live h j → q.blk ≠ p.blk) (hsame : ∀ k, k < w.heap.size → k ≠ p.blk → w'.heap[k]? = w.heap[k]?)
    (hB : RelB ty (φ.put h.next p) p o w'.heap[p.blk]?) {lo hi mk : Nat} (hin : p.inp = false := by rfl) :
    RelW ty (φ.put h.next p) E { next := Nat.succ h.next, low := lo, high := hi, mark := mk, bl := bl } w' where
  dom := fun i q e => by
    rcases Phi.put_cases e with ⟨rfl, rfl⟩ | ⟨_, e⟩
    · exact ⟨Nat.lt_succ_self _, hp⟩
    · exact ⟨Nat.lt_succ_of_lt (H.dom _ _ e).1, Nat.lt_of_lt_of_le (H.dom _ _ e).2 hsz⟩
  inj := fun i j q r ei ej hEi hEj hi hj hio hqr => by
    rcases Phi.put_cases ei with ⟨rfl, rfl⟩ | ⟨ni, ei'⟩ <;> rcases Phi.put_cases ej with ⟨rfl, rfl⟩ | ⟨nj, ej'⟩
    · rfl
    · refine absurd hqr.symm (hfree j r ej' ?_)
      intro hd; apply hj; show bl.get j = _; rw [BT.live_set hset, if_neg nj]; exact hd
    · refine absurd hqr (hfree i q ei' ?_)
      intro hd; apply hi; show bl.get i = _; rw [BT.live_set hset, if_neg ni]; exact hd
    · refine H.inj i j q r ei' ej' hEi hEj ?_ ?_ hio hqr
      · intro hd; apply hi; show bl.get i = _; rw [BT.live_set hset, if_neg ni]; exact hd
      · intro hd; apply hj; show bl.get j = _; rw [BT.live_set hset, if_neg nj]; exact hd
  row := fun i q e hE => by
    rcases Phi.put_cases e with ⟨rfl, rfl⟩ | ⟨ni, ei⟩
    · show RelB _ _ _ (bl.get h.next) _
      rw [BT.live_set hset, if_pos rfl]; exact hB
    · show RelB _ _ _ (bl.get i) _
      rw [BT.live_set hset, if_neg ni]
      by_cases hd : h.bl.get i = .dead
      · rw [hd]; exact .dead
      · have := H.row i q ei hE
        rw [hsame q.blk (H.dom _ _ ei).2 (hfree i q ei hd)]
        exact this.mono (Phi.put_le H.none_next)
  fresh := fun i hi => by
    show bl.get i = _
    have hi : h.next + 1 ≤ i := hi
    rw [BT.live_set hset, if_neg (by omega)]
    exact H.fresh i (by omega)
  kind := fun i q c s e hq he => by
    have he : bl.get i = .cells c s e := he
    rw [BT.live_set hset] at he
    rcases Phi.put_cases hq with ⟨rfl, rfl⟩ | ⟨ni, ei⟩
    · rw [if_pos rfl] at he
      rw [he] at hB
      generalize w'.heap[q.blk]? = ob at hB
      cases hB with
      | cells R => exact R.kind
    · rw [if_neg ni] at he
      exact H.kind i q c s e ei he
  inp := fun i q hq hi => by
    rcases Phi.put_cases hq with ⟨rfl, rfl⟩ | ⟨ni, ei⟩
    · rw [hin] at hi; cases hi
    · exact H.inp i q ei hi

theorem Evo.made (H : RelW ty φ E h w) {o : Blk} {bl : BT} {p : Pl} (hset : h.bl.set h.next o = some bl) (hp : w.heap.size ≤ p.blk) (hsz : w.heap.size ≤ w'.heap.size)
    (hsame : ∀ k, k < w.heap.size → w'.heap[k]? = w.heap[k]?) (ht : w'.tape = w.tape) (ho : w'.os = w.os) (hout : w'.output = w.output) :
    Evo φ h w (φ.put h.next p) { next := Nat.succ h.next, low := h.low, high := h.high, mark := h.mark, bl := bl } w' where
  le := Phi.put_le H.none_next
  new := fun i q e => by
    rcases Phi.put_cases e with ⟨rfl, rfl⟩ | ⟨_, e⟩
    · exact .inr (Nat.le_refl _)
    · exact .inl e
  next := Nat.le_succ _
  size := hsz
  tape := ht
  os := ho
  output := hout
  frame := fun k hk _ => hsame k hk
  back := fun i q e hl hq => by
    rcases Phi.put_cases e with ⟨rfl, rfl⟩ | ⟨ni, e⟩
    · exact absurd hq (Nat.not_lt.2 hp)
    · refine ⟨i, q, e, ?_, rfl, rfl, .inl rfl⟩
      intro hd; apply hl; show bl.get i = _; rw [BT.live_set hset, if_neg ni]; exact hd
  kept := fun i hi _ => by
    show bl.get i = _
    rw [BT.live_set hset, if_neg (by omega)]
  low := Nat.le_refl _
  high := Nat.le_refl _
  shape := fun i hi => by
    show ShapeLe _ (bl.get i)
    rw [BT.live_set hset, if_neg (by omega)]; exact .refl _
  only := fun i hi _ => by
    show bl.get i = _
    rw [BT.live_set hset, if_neg (by omega)]
  all := fun i h1 h2 => ⟨p, by
    have h2 : i < h.next + 1 := h2
    have : i = h.next := by omega
    rw [this]; exact Phi.put_self _ _ _⟩

theorem RelW.notInp (H : RelW ty φ E h w) {b : Nat} {p : Pl} (hb : φ b = some p) (h2 : 256 ≤ b) : p.inp = false := by
  cases e : p.inp with
  | false => rfl
  | true => have := H.inp b p hb e; omega
/-- an old block is written -/
theorem RelW.put (H : RelW ty φ E h w) {b : Nat} {o : Blk} {bl : BT} {p : Pl} (hEb : ¬ E b) (h256 : 256 ≤ b) (hb : φ b = some p) (hl : Live h b) (hset : h.bl.set b o = some bl)
    (hsz : w'.heap.size = w.heap.size) (hsame : ∀ k, k ≠ p.blk → w'.heap[k]? = w.heap[k]?) (hB : RelB ty φ p o w'.heap[p.blk]?) {lo hi mk : Nat} :
    RelW ty φ E { next := h.next, low := lo, high := hi, mark := mk, bl := bl } w' where
  dom := fun i q e => ⟨(H.dom _ _ e).1, hsz ▸ (H.dom _ _ e).2⟩
  inj := fun i j q r ei ej hEi hEj hi hj hio hqr => by
    have live : ∀ i, bl.get i ≠ .dead → Live h i := fun i hi => by
      by_cases e : i = b
      · exact e ▸ hl
      · intro hd; apply hi; rw [BT.live_set hset, if_neg e]; exact hd
    exact H.inj i j q r ei ej hEi hEj (live i hi) (live j hj) hio hqr
  row := fun i q e hE => by
    show RelB _ _ _ (bl.get i) _
    rw [BT.live_set hset]
    split
    · rename_i hib; subst hib
      rw [hb] at e; cases e; exact hB
    · rename_i hib
      by_cases hd : h.bl.get i = .dead
      · rw [hd]; exact .dead
      · rw [hsame q.blk fun hq => hib (H.inj i b q p e hb hE hEb hd hl (.inr (H.notInp hb h256)) hq)]
        exact H.row i q e hE
  fresh := fun i hi => by
    show bl.get i = _
    have := (H.dom _ _ hb).1
    have hi : h.next ≤ i := hi
    rw [BT.live_set hset, if_neg (by omega)]
    exact H.fresh i hi
  kind := fun i q c s e hq he => by
    have he : bl.get i = .cells c s e := he
    rw [BT.live_set hset] at he
    split at he
    · rename_i hib; subst hib
      rw [hb] at hq; cases hq
      rw [he] at hB
      generalize w'.heap[p.blk]? = ob at hB
      cases hB with
      | cells R => exact R.kind
    · exact H.kind i q c s e hq he
  inp := H.inp

theorem Evo.put {b : Nat} {o : Blk} {bl : BT} {p : Pl} (hin : p.inp = false) (hb : φ b = some p) (hl : Live h b) (hset : h.bl.set b o = some bl) (hsh : ShapeLe (h.bl.get b) o)
    (hsz : w'.heap.size = w.heap.size) (hsame : ∀ k, k ≠ p.blk → w'.heap[k]? = w.heap[k]?) (ht : w'.tape = w.tape) (ho : w'.os = w.os) (hout : w'.output = w.output) :
    Evo φ h w φ { next := h.next, low := minN h.low b, high := maxN h.high b, mark := h.mark, bl := bl } w' where
  le := .refl φ
  new := fun _ _ e => .inl e
  next := Nat.le_refl _
  size := Nat.le_of_eq hsz.symm
  tape := ht
  os := ho
  output := hout
  frame := fun k _ hf => hsame k fun hk => hf b p hb hin (by show minN _ _ ≤ _; rw [minN_is]; exact Nat.min_le_right _ _) (by show _ ≤ maxN _ _; rw [maxN_is]; exact Nat.le_max_right _ _) hl hk.symm
  back := fun i q e hi _ => by
    refine ⟨i, q, e, ?_, rfl, rfl, .inl rfl⟩
    by_cases e : i = b
    · exact e ▸ hl
    · intro hd; apply hi; show bl.get i = _; rw [BT.live_set hset, if_neg e]; exact hd
  kept := fun i _ hi => by
    show bl.get i = _
    have hi : i < minN h.low b ∨ maxN h.high b < i := hi
    rw [minN_is, maxN_is] at hi
    rw [BT.live_set hset, if_neg (by omega)]
  low := by show minN _ _ ≤ _; rw [minN_is]; exact Nat.min_le_left _ _
  high := by show _ ≤ maxN _ _; rw [maxN_is]; exact Nat.le_max_left _ _
  shape := fun i hi => by
    show ShapeLe _ (bl.get i)
    rw [BT.live_set hset]
    split
    · rename_i e; rw [e]; exact hsh
    · exact .refl _
  only := fun i hi h0 => by
    show bl.get i = _
    rw [BT.live_set hset, if_neg (fun e => by rw [e, hb] at h0; cases h0)]
  all := fun _ h1 h2 => absurd h2 (Nat.not_lt.2 h1)

/-- an old row goes over into a new one, in its place -/
theorem Evo.grow (H : RelW ty φ E h w) {b : Nat} {o : Blk} {bl bl' : BT} {p p' : Pl} (hin : p.inp = false) (hin' : p'.inp = false) (hb : φ b = some p) (hl : Live h b) (hkill : h.bl.set b .dead = some bl)
    (hset : bl.set h.next o = some bl') (hp : p'.blk = p.blk) (hsz : w'.heap.size = w.heap.size) (hsame : ∀ k, k ≠ p.blk → w'.heap[k]? = w.heap[k]?)
    (ht : w'.tape = w.tape) (ho : w'.os = w.os) (hout : w'.output = w.output) :
    Evo φ h w (φ.put h.next p') { next := Nat.succ h.next, low := minN h.low b, high := maxN h.high b, mark := h.mark, bl := bl' } w' where
  le := Phi.put_le H.none_next
  new := fun i q e => by
    rcases Phi.put_cases e with ⟨rfl, rfl⟩ | ⟨_, e⟩
    · exact .inr (Nat.le_refl _)
    · exact .inl e
  next := Nat.le_succ _
  size := Nat.le_of_eq hsz.symm
  tape := ht
  os := ho
  output := hout
  frame := fun k _ hf => hsame k fun hk => hf b p hb hin (by show minN _ _ ≤ _; rw [minN_is]; exact Nat.min_le_right _ _) (by show _ ≤ maxN _ _; rw [maxN_is]; exact Nat.le_max_right _ _) hl hk.symm
  back := fun i q e hi _ => by
    rcases Phi.put_cases e with ⟨rfl, rfl⟩ | ⟨ni, e⟩
    · exact ⟨b, p, hb, hl, hp.symm, hin.trans hin'.symm, .inr ⟨by show minN _ _ ≤ _; rw [minN_is]; exact Nat.min_le_right _ _, by show _ ≤ maxN _ _; rw [maxN_is]; exact Nat.le_max_right _ _⟩⟩
    · refine ⟨i, q, e, ?_, rfl, rfl, .inl rfl⟩
      intro hd; apply hi; show bl'.get i = _; rw [BT.live_set hset, if_neg ni, BT.live_set hkill]
      split
      · rfl
      · exact hd
  kept := fun i hi' hi => by
    show bl'.get i = _
    have hi : i < minN h.low b ∨ maxN h.high b < i := hi
    rw [minN_is, maxN_is] at hi
    rw [BT.live_set hset, if_neg (by omega), BT.live_set hkill, if_neg (by omega)]
  low := by show minN _ _ ≤ _; rw [minN_is]; exact Nat.min_le_left _ _
  high := by show _ ≤ maxN _ _; rw [maxN_is]; exact Nat.le_max_left _ _
  shape := fun i hi => by
    show ShapeLe _ (bl'.get i)
    rw [BT.live_set hset, if_neg (by omega), BT.live_set hkill]
    split
    · exact .inl rfl
    · exact .refl _
  only := fun i hi h0 => by
    show bl'.get i = _
    rw [BT.live_set hset, if_neg (by omega), BT.live_set hkill, if_neg (fun e => by rw [e, hb] at h0; cases h0)]
  all := fun i h1 h2 => ⟨p', by
    have h2 : i < h.next + 1 := h2
    have : i = h.next := by omega
    rw [this]; exact Phi.put_self _ _ _⟩

/-- a block is given up -/
theorem RelW.kill (H : RelW ty φ E h w) {b : Nat} {bl : BT} (hkill : h.bl.set b .dead = some bl) {lo hi mk : Nat} :
    RelW ty φ E { next := h.next, low := lo, high := hi, mark := mk, bl := bl } w where
  dom := H.dom
  inj := fun i j q r ei ej hEi hEj hi hj hio hqr => by
    have live : ∀ i, bl.get i ≠ .dead → Live h i := fun i hi hd => by
      apply hi; rw [BT.live_set hkill]; split
      · rfl
      · exact hd
    exact H.inj i j q r ei ej hEi hEj (live i hi) (live j hj) hio hqr
  row := fun i q e hE => by
    show RelB _ _ _ (bl.get i) _
    rw [BT.live_set hkill]
    split
    · exact .dead
    · exact H.row i q e hE
  fresh := fun i hi => by
    show bl.get i = _
    rw [BT.live_set hkill]; split
    · rfl
    · exact H.fresh i hi
  kind := fun i q c s e hq he => by
    have he : bl.get i = .cells c s e := he
    rw [BT.live_set hkill] at he
    split at he
    · cases he
    · exact H.kind i q c s e hq he
  inp := H.inp
end
end Go.Proofs.Ytkafejncffinmaa
