/-
  The machine's heap, for runs whose values are open: new blocks, rows as lists, what is read of them and written into them.
-/
import Derived.Test.YtkafejncffinmaaSym
set_option linter.unusedVariables false
set_option linter.unusedSimpArgs false
namespace Go.Proofs.Ytkafejncffinmaa
open Go

section
variable {F : CallF} {e : Env} {h h' : Hp} {x y : O}

/-- all blocks that have been made have a place -/
structure Hp.Wf (h : Hp) : Prop where
  big : 256 ≤ h.next
  has : ∀ i, i < h.next → h.bl.has i
  fresh : ∀ i, h.next ≤ i → h.bl.get i = .dead
noncomputable def Hp.push (h : Hp) (o : Blk) : Hp := { next := Nat.succ h.next, low := h.low, high := h.high, mark := h.mark, bl := h.bl.lay h.next o }
noncomputable def Hp.put (h : Hp) (b : Nat) (o : Blk) : Hp := { next := h.next, low := minN h.low b, high := maxN h.high b, mark := h.mark, bl := h.bl.lay b o }
theorem newBlk_is (W : h.Wf) {o : Blk} {K : Nat → Hp → R} : newBlk h o K = K h.next (h.push o) := by
  unfold newBlk
  rw [BT.lay_is fun j hj => W.has j hj]
  simp only [forceN_is]; rfl
theorem putBlk_is (W : h.Wf) {b : Nat} (h256 : 256 ≤ b) (hb : b < h.next) {o : Blk} {K : Hp → R} : putBlk h b o K = K (h.put b o) := by
  unfold putBlk
  rw [BT.lay_is fun j hj => W.has j (Nat.lt_trans hj hb), nat_ble.2 h256]
  simp only [forceN_is]; rfl
theorem Hp.Wf.push_get (W : h.Wf) (o : Blk) (i : Nat) : (h.push o).bl.get i = if i = h.next then o else h.bl.get i := BT.lay_get (fun j hj => W.has j hj) i
theorem Hp.Wf.put_get (W : h.Wf) {b : Nat} (hb : b < h.next) (o : Blk) (i : Nat) : (h.put b o).bl.get i = if i = b then o else h.bl.get i := BT.lay_get (fun j hj => W.has j (Nat.lt_trans hj hb)) i
theorem Hp.Wf.push (W : h.Wf) (o : Blk) : (h.push o).Wf where
  big := Nat.le_succ_of_le W.big
  has := fun i hi => BT.lay_has (fun j hj => W.has j hj) i (by
    have hi : i < h.next + 1 := hi
    rcases Nat.lt_or_ge i h.next with h1 | h1
    · exact .inr (W.has i h1)
    · exact .inl (by omega))
  fresh := fun i hi => by
    have hi : h.next + 1 ≤ i := hi
    rw [W.push_get o i, if_neg (by omega)]
    exact W.fresh i (by omega)
theorem Hp.Wf.put (W : h.Wf) {b : Nat} (hb : b < h.next) (o : Blk) : (h.put b o).Wf where
  big := W.big
  has := fun i hi => BT.lay_has (fun j hj => W.has j (Nat.lt_trans hj hb)) i (.inr (W.has i hi))
  fresh := fun i hi => by
    have hi : h.next ≤ i := hi
    rw [W.put_get hb o i, if_neg (by omega)]
    exact W.fresh i hi

/-- what a piece of a run did that wrote nothing that was there ahead of it -/
structure Hp.Ext (h h' : Hp) : Prop where
  next : h.next ≤ h'.next
  get : ∀ i, i < h.next → h'.bl.get i = h.bl.get i
  low : min h.low h.next ≤ h'.low
  wf : h'.Wf
theorem Hp.Ext.refl (W : h.Wf) : h.Ext h := ⟨Nat.le_refl _, fun _ _ => rfl, Nat.min_le_left _ _, W⟩
theorem Hp.Ext.trans {h₁ h₂ h₃ : Hp} (a : h₁.Ext h₂) (b : h₂.Ext h₃) : h₁.Ext h₃ where
  next := Nat.le_trans a.next b.next
  get := fun i hi => by rw [b.get i (Nat.lt_of_lt_of_le hi a.next), a.get i hi]
  low := by have := a.low; have := b.low; have := a.next; omega
  wf := b.wf
theorem Hp.Ext.push (a : h.Ext h') (o : Blk) : h.Ext (h'.push o) where
  next := Nat.le_succ_of_le a.next
  get := fun i hi => by rw [a.wf.push_get, if_neg (by have := a.next; omega), a.get i hi]
  low := a.low
  wf := a.wf.push o
theorem Hp.Ext.put (a : h.Ext h') {b : Nat} (h1 : h.next ≤ b) (hb : b < h'.next) (o : Blk) : h.Ext (h'.put b o) where
  next := a.next
  get := fun i hi => by rw [a.wf.put_get hb, if_neg (by omega), a.get i hi]
  low := by
    show _ ≤ minN h'.low b
    rw [minN_is]
    have := a.low; omega
  wf := a.wf.put hb o

/-- a tree's places as a list -/
def VT.Is (t : VT) (l : List Value) : Prop := ∀ i, i < l.length → t.has i ∧ t.get i = l.getD i noRes
theorem setAll_is : ∀ (vs : List Value) (t : VT) (l : List Value) (i : Nat), t.Is l → i + vs.length ≤ l.length ∨ i = l.length → ∃ t', setAll t i vs = some t' ∧ t'.Is (l.take i ++ vs ++ l.drop (i + vs.length))
  | [], t, l, i, ht, hi => ⟨t, rfl, by simpa using ht⟩
  | v :: vs, t, l, i, ht, hi => by
    have hi' : i ≤ l.length := by simp only [List.length_cons] at hi; omega
    have hh : ∀ j, j < i → t.has j := fun j hj => (ht j (by omega)).1
    have h1 : (t.lay i v).Is (l.take i ++ [v] ++ l.drop (i + 1)) := fun j hj => by
      have hl : (l.take i).length = i := by simp; omega
      refine ⟨VT.lay_has hh j ?_, ?_⟩
      · by_cases hji : j = i
        · exact .inl hji
        · right
          refine (ht j ?_).1
          simp only [List.length_append, List.length_cons, List.length_nil, List.length_drop, List.length_take] at hj
          omega
      · rw [VT.lay_get hh]
        by_cases hji : j = i
        · rw [if_pos hji, hji, List.getD_eq_getElem?_getD, List.append_assoc, List.getElem?_append_right (by omega)]
          simp [hl]
        · rw [if_neg hji]
          have hjl : j < l.length := by
            simp only [List.length_append, List.length_cons, List.length_nil, List.length_drop, List.length_take] at hj
            omega
          rw [(ht j hjl).2, List.getD_eq_getElem?_getD, List.getD_eq_getElem?_getD]
          congr 1
          rcases Nat.lt_or_ge j i with h2 | h2
          · rw [List.append_assoc, List.getElem?_append_left (by omega), List.getElem?_take, if_pos h2]
          · rw [List.getElem?_append_right (by simp only [List.length_append, hl, List.length_cons, List.length_nil]; omega), List.getElem?_drop]
            congr 1
            simp only [List.length_append, hl, List.length_cons, List.length_nil]; omega
    have hlen : (l.take i ++ [v] ++ l.drop (i + 1)).length = max l.length (i + 1) := by
      simp only [List.length_append, List.length_cons, List.length_nil, List.length_drop, List.length_take]; omega
    obtain ⟨t', h2, h3⟩ := setAll_is vs (t.lay i v) _ (i + 1) h1 (by simp only [List.length_cons] at hi; omega)
    refine ⟨t', ?_, ?_⟩
    · show (match t.set i v with | some t' => setAll t' (Nat.succ i) vs | none => none) = _
      rw [VT.lay_is hh]; exact h2
    · have e : (l.take i ++ [v] ++ l.drop (i + 1)).take (i + 1) ++ vs ++ (l.take i ++ [v] ++ l.drop (i + 1)).drop (i + 1 + vs.length) = l.take i ++ (v :: vs) ++ l.drop (i + (v :: vs).length) := by
        have hl : (l.take i ++ [v]).length = i + 1 := by simp; omega
        rw [List.take_left' hl]
        have e2 : i + 1 + vs.length = (l.take i ++ [v]).length + vs.length := by rw [hl]
        rw [e2, List.drop_length_add_append, List.drop_drop]
        have e3 : i + 1 + vs.length = i + (v :: vs).length := by simp only [List.length_cons]; omega
        rw [e3]; simp
      rw [e] at h3; exact h3
theorem mt_is : VT.mt.Is [] := fun i h => by cases h
/-- the tree of a list -/
noncomputable def ofL (l : List Value) : VT := (setAll .mt 0 l).getD .mt
theorem ofL_is (l : List Value) : setAll .mt 0 l = some (ofL l) ∧ (ofL l).Is l := by
  obtain ⟨t', h1, h2⟩ := setAll_is l .mt [] 0 mt_is (.inr rfl)
  unfold ofL
  rw [h1]
  refine ⟨rfl, ?_⟩
  simpa using h2
theorem VT.Is.of {t : VT} {l : List Value} (h : setAll .mt 0 l = some t) : t.Is l := by
  have := ofL_is l
  rw [h] at this
  rw [Option.some.inj this.1]; exact this.2

/-- a row that is there -/
def Hp.Row (h : Hp) (b el : Nat) (l : List Value) : Prop := ∃ c, h.bl.get b = .cells c l.length el ∧ c.Is l
/-- a new row -/
noncomputable def Hp.pushRow (h : Hp) (el : Nat) (l : List Value) : Hp := h.push (.cells (ofL l) l.length el)
theorem newRow_is (W : h.Wf) {el : Nat} {l : List Value} {K : Nat → Hp → R} : newRow h el l K = K h.next (h.pushRow el l) := by
  unfold newRow
  rw [(ofL_is l).1]
  show newRowT h el (ofL l) (lenL l) K = _
  unfold newRowT
  rw [forceN_is, newBlk_is W, lenL_is]; rfl
theorem Hp.Row.lt (W : h.Wf) {b el : Nat} {l : List Value} (r : h.Row b el l) : b < h.next := by
  obtain ⟨c, hc, _⟩ := r
  rcases Nat.lt_or_ge b h.next with h1 | h1
  · exact h1
  · rw [W.fresh b h1] at hc; cases hc
theorem Hp.Row.new (W : h.Wf) (el : Nat) (l : List Value) : (h.pushRow el l).Row h.next el l := ⟨ofL l, by unfold Hp.pushRow; rw [W.push_get, if_pos rfl], (ofL_is l).2⟩
theorem Hp.Row.ext {b el : Nat} {l : List Value} (r : h.Row b el l) (W : h.Wf) (x : h.Ext h') : h'.Row b el l := by
  have := r.lt W
  obtain ⟨c, hc, hl⟩ := r
  exact ⟨c, (x.get b this).trans hc, hl⟩
theorem Hp.Row.push {b el : Nat} {l : List Value} (r : h.Row b el l) (W : h.Wf) (o : Blk) : (h.push o).Row b el l := r.ext W ((Hp.Ext.refl W).push o)
theorem pushRow_wf (W : h.Wf) {el : Nat} {l : List Value} : (h.pushRow el l).Wf := W.push _
theorem pushRow_next {el : Nat} {l : List Value} : (h.pushRow el l).next = h.next + 1 := rfl
theorem Hp.Ext.pushRow (a : h.Ext h') (el : Nat) (l : List Value) : h.Ext (h'.pushRow el l) := a.push _
/-- reads -/
theorem Hp.Row.rowOf {b el : Nat} {l : List Value} (r : h.Row b el l) : ∃ c, rowOf h b = .ok c l.length el ∧ c.Is l := by
  obtain ⟨c, hc, hl⟩ := r
  exact ⟨c, by unfold Go.Proofs.Ytkafejncffinmaa.rowOf; rw [hc]; rfl, hl⟩
theorem Hp.Row.load1 {b el off : Nat} {l : List Value} (r : h.Row b el l) (ho : off < l.length) : load1 ⟨b, off, none⟩ h = .ok (l.getD off noRes) h := by
  obtain ⟨c, hc, hl⟩ := r.rowOf
  unfold Go.Proofs.Ytkafejncffinmaa.load1
  simp only [hc]
  rw [nat_blt.2 ho]
  simp only [forceV_is, (hl off ho).2]
theorem Is.rowL {c : VT} {l : List Value} (hl : c.Is l) (off n : Nat) (ho : off + n ≤ l.length) : rowL c off n = (l.drop off).take n := by
  refine List.ext_getElem? fun i => ?_
  unfold Go.Proofs.Ytkafejncffinmaa.rowL
  rw [List.getElem?_map, List.getElem?_take, List.getElem?_drop]
  by_cases hi : i < n
  · rw [if_pos hi, List.getElem?_range hi]
    have := (hl (off + i) (by omega)).2
    rw [List.getD_eq_getElem?_getD, List.getElem?_eq_getElem (by omega)] at this
    show some (c.get (off + i)) = _
    rw [this, List.getElem?_eq_getElem (by omega)]; rfl
  · rw [if_neg hi, List.getElem?_eq_none (by simpa using hi)]; rfl
theorem Hp.Row.loadN {b el off n : Nat} {l : List Value} (r : h.Row b el l) (ho : off + n ≤ l.length) : loadN n ⟨b, off, none⟩ h = .ok (.agg ⟨(l.drop off).take n⟩) h := by
  obtain ⟨c, hc, hl⟩ := r.rowOf
  unfold Go.Proofs.Ytkafejncffinmaa.loadN
  simp only [hc, Nat.add_eq]
  rw [nat_ble.2 ho]
  simp only [cond_true, getN_is, List.append_nil, Is.rowL hl off n ho]
theorem Hp.Row.src {b el off n c : Nat} {l : List Value} (r : h.Row b el l) (ho : off + n ≤ l.length) {sl : Nat} {k : List Value → R} : srcCells h 1 (.slice (some ⟨b, off, none⟩) sl c) n k = k ((l.drop off).take n) := by
  obtain ⟨cc, hc, hl⟩ := r.rowOf
  unfold srcCells
  simp only [hc]
  have e : Nat.mul n 1 = n := Nat.mul_one n
  rw [e]
  simp only [Nat.add_eq]
  rw [nat_ble.2 ho]
  simp only [cond_true, getN_is, List.append_nil, Is.rowL hl off n ho]
/-- writes -/
noncomputable def Hp.wr (h : Hp) (b off : Nat) (vs : List Value) : Hp := match rowOf h b with
  | .ok c s e => h.put b (.cells ((setAll c off vs).getD c) s e)
  | .no => h
def over (l : List Value) (off : Nat) (vs : List Value) : List Value := l.take off ++ vs ++ l.drop (off + vs.length)
theorem over_length {l vs : List Value} {off : Nat} (ho : off + vs.length ≤ l.length) : (over l off vs).length = l.length := by
  unfold over
  simp only [List.length_append, List.length_take, List.length_drop]; omega
theorem Hp.Row.wr_is {b el off : Nat} {l vs : List Value} (r : h.Row b el l) (ho : off + vs.length ≤ l.length) : ∃ c, c.Is (over l off vs) ∧ h.wr b off vs = h.put b (.cells c (over l off vs).length el) ∧
    ∀ (W : h.Wf) (h256 : 256 ≤ b) (h1 : allOne vs = true) (K : Hp → R), storeL ⟨b, off, none⟩ vs h K = K (h.wr b off vs) := by
  obtain ⟨c, hc, hl⟩ := r.rowOf
  obtain ⟨c', h2, h3⟩ := setAll_is vs c l off hl (.inl ho)
  have e : h.wr b off vs = h.put b (.cells c' l.length el) := by
    unfold Hp.wr
    rw [hc]
    simp only [h2, Option.getD_some]
  refine ⟨c', h3, by rw [over_length ho]; exact e, fun W h256 h1 K => ?_⟩
  unfold storeL
  simp only [hc, Nat.add_eq]
  rw [lenL_is, nat_ble.2 ho, h1]
  simp only [cond_true, h2]
  rw [e, putBlk_is W h256 (r.lt W)]
theorem Hp.Row.store {b el off : Nat} {l vs : List Value} (r : h.Row b el l) (W : h.Wf) (h256 : 256 ≤ b) (ho : off + vs.length ≤ l.length) (h1 : allOne vs = true) (K : Hp → R) : storeL ⟨b, off, none⟩ vs h K = K (h.wr b off vs) := by
  obtain ⟨_, _, _, h4⟩ := r.wr_is ho
  exact h4 W h256 h1 K
theorem Hp.Row.wr_self {b el off : Nat} {l vs : List Value} (r : h.Row b el l) (W : h.Wf) (ho : off + vs.length ≤ l.length) : (h.wr b off vs).Row b el (over l off vs) := by
  obtain ⟨c, h3, e, _⟩ := r.wr_is ho
  exact ⟨c, by rw [e, W.put_get (r.lt W), if_pos rfl], h3⟩
theorem Hp.Row.wr_other {b el off b' el' : Nat} {l vs l' : List Value} (r : h.Row b el l) (W : h.Wf) (ho : off + vs.length ≤ l.length) (r' : h.Row b' el' l') (hb : b' ≠ b) : (h.wr b off vs).Row b' el' l' := by
  obtain ⟨c, h3, e, _⟩ := r.wr_is ho
  obtain ⟨c', hc', hl'⟩ := r'
  exact ⟨c', by rw [e, W.put_get (r.lt W), if_neg hb, hc'], hl'⟩
theorem Hp.Row.wr_wf {b el off : Nat} {l vs : List Value} (r : h.Row b el l) (W : h.Wf) (ho : off + vs.length ≤ l.length) : (h.wr b off vs).Wf := by
  obtain ⟨c, h3, e, _⟩ := r.wr_is ho
  rw [e]; exact W.put (r.lt W) _
theorem Hp.Row.wr_ext {h0 : Hp} {b el off : Nat} {l vs : List Value} (r : h.Row b el l) (x : h0.Ext h) (hb : h0.next ≤ b) (ho : off + vs.length ≤ l.length) : h0.Ext (h.wr b off vs) := by
  obtain ⟨c, h3, e, _⟩ := r.wr_is ho
  rw [e]; exact x.put hb (r.lt x.wf) _
theorem Hp.Row.wr_next {b el off : Nat} {l vs : List Value} (r : h.Row b el l) (ho : off + vs.length ≤ l.length) : (h.wr b off vs).next = h.next := by
  obtain ⟨c, h3, e, _⟩ := r.wr_is ho
  rw [e]; rfl

/-! ### operations on memory -/
noncomputable def loadR (v : Value) (h : Hp) : R := match adrV v with
  | .ok a => load1 a h
  | .no => .no
theorem oLoad1_is : oLoad1 x F e h = loadR (x e) h := by
  unfold oLoad1 loadR
  cases adrV (x e) <;> rfl
theorem loadR_is {a : Addr} : loadR (.pointer (some a)) h = load1 a h := rfl
noncomputable def loadsR (n : Nat) (v : Value) (h : Hp) : R := match adrV v with
  | .ok a => loadN n a h
  | .no => .no
theorem oLoadN_is {n : Nat} : oLoadN n x F e h = loadsR n (x e) h := rfl
theorem loadsR_is {n : Nat} {a : Addr} : loadsR n (.pointer (some a)) h = loadN n a h := rfl
noncomputable def storeR (n : Nat) (p v : Value) (h : Hp) : R := match adrV p with
  | .ok a => bif Nat.beq (lenL (cellsOf v)) n then storeL a (cellsOf v) h okNone else .no
  | .no => .no
theorem oStore_is {n : Nat} : oStore n x y F e h = storeR n (x e) (y e) h := by
  unfold oStore storeR
  simp only [forceV_is]
  cases adrV (x e) <;> rfl
theorem Hp.Row.storeR {n b el off : Nat} {l : List Value} {v : Value} (r : h.Row b el l) (W : h.Wf) (h256 : 256 ≤ b) (hn : (cellsOf v).length = n) (ho : off + (cellsOf v).length ≤ l.length) (h1 : allOne (cellsOf v) = true) :
    storeR n (.pointer (some ⟨b, off, none⟩)) v h = .ok noRes (h.wr b off (cellsOf v)) := by
  show (bif Nat.beq (lenL (cellsOf v)) n then storeL ⟨b, off, none⟩ (cellsOf v) h okNone else .no) = _
  rw [lenL_is, nat_beq.2 hn, r.store W h256 ho h1]; rfl
noncomputable def boxR (v : Value) (h : Hp) : R := bif known v then newRow h 0 (cellsOf v) ptrNew else .no
theorem oBox_is : oBox x F e h = boxR (x e) h := by
  unfold oBox boxR
  simp only [forceV_is]
theorem boxR_is (W : h.Wf) {v : Value} (hk : known v = true := by rfl) : boxR v h = .ok (.pointer (some ⟨h.next, 0, none⟩)) (h.pushRow 0 (cellsOf v)) := by
  unfold boxR
  rw [hk, cond_true, newRow_is W]; rfl
theorem oAlloc_is (W : h.Wf) {n : Nat} {t : VT} : oAlloc n t F e h = .ok (.pointer (some ⟨h.next, 0, none⟩)) (h.push (.cells t n 0)) := by
  unfold oAlloc
  rw [newBlk_is W]; rfl
theorem Hp.Row.alloc (W : h.Wf) {n : Nat} {t : VT} {l : List Value} (ht : setAll .mt 0 l = some t) (hn : l.length = n) : (h.push (.cells t n 0)).Row h.next 0 l := ⟨t, by rw [W.push_get, if_pos rfl, hn], .of ht⟩
theorem oFieldAddr_is {n : Nat} : oFieldAddr n x F e h = match adrV (x e) with | .ok a => .ok (.pointer (some ⟨a.block, a.off + n, none⟩)) h | .no => .no := by
  unfold oFieldAddr
  cases adrV (x e) with
  | ok a => exact forceN_is _ _
  | no => rfl
noncomputable def fieldAR (n : Nat) (v : Value) (h : Hp) : R := match adrV v with
  | .ok a => .ok (.pointer (some ⟨a.block, a.off + n, none⟩)) h
  | .no => .no
theorem oFieldAddr_is' {n : Nat} : oFieldAddr n x F e h = fieldAR n (x e) h := oFieldAddr_is
theorem fieldAR_is {n b off : Nat} : fieldAR n (.pointer (some ⟨b, off, none⟩)) h = .ok (.pointer (some ⟨b, off + n, none⟩)) h := rfl
noncomputable def idxR (n es : Nat) (p i : Value) (h : Hp) : R := idxF n es (adrV p) (natV i) h
theorem oIdxArr_is {n es : Nat} : oIdxArr n es x y F e h = idxR n es (x e) (y e) h := rfl
theorem idxF_is {n es b off i : Nat} (hi : i < n) : idxF n es (.ok ⟨b, off, none⟩) (.ok i) h = .ok (.pointer (some ⟨b, off + i * es, none⟩)) h := by
  show Bool.rec (motive := fun _ => R) .no (ptrTo ⟨b, off, none⟩ (Nat.mul i es) h) (Nat.blt i n) = _
  rw [nat_blt.2 hi]
  exact forceN_is _ _
theorem idxR_is {n es b off i : Nat} {k : IntKind} (hi : i < n) : idxR n es (.pointer (some ⟨b, off, none⟩)) (.int k (i : Int)) h = .ok (.pointer (some ⟨b, off + i * es, none⟩)) h := idxF_is hi
noncomputable def idxSR (es : Nat) (s i : Value) (h : Hp) : R := match s with
  | .slice (some a) n _ => idxF n es (.ok a) (natV i) h
  | _ => .no
theorem oIdx_is {es : Nat} : oIdx es x y F e h = idxSR es (x e) (y e) h := rfl
theorem idxSR_is {n c es b off i : Nat} {k : IntKind} (hi : i < n) : idxSR es (.slice (some ⟨b, off, none⟩) n c) (.int k (i : Int)) h = .ok (.pointer (some ⟨b, off + i * es, none⟩)) h := idxF_is hi
noncomputable def lenSR (v : Value) (h : Hp) : R := match v with
  | .slice _ n _ => .ok (.int .i64 (.ofNat n)) h
  | _ => .no
theorem oLenS_is : oLenS x F e h = lenSR (x e) h := rfl
theorem lenSR_is {o : Option Addr} {n c : Nat} : lenSR (.slice o n c) h = .ok (.int .i64 (n : Int)) h := rfl
end
end Go.Proofs.Ytkafejncffinmaa
