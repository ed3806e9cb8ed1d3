/-
  Slices as the values that they hold, rows that the run owns and appends to, a function that is known to answer true as one step: for runs whose values are open.
-/
import Derived.Test.YtkafejncffinmaaIn
set_option linter.unusedVariables false
set_option linter.unusedSimpArgs false
namespace Go.Proofs.Ytkafejncffinmaa
open Go Go.RowKit Go.ChangeShapes

section
variable {F : CallF} {e : Env} {h h' : Hp} {x y : O}

/-! ### slices -/
theorem Hp.Vals.ext {v : Value} {l : List Value} (b : h.Vals v l) (W : h.Wf) (x : h.Ext h') : h'.Vals v l := by
  rcases b with h1 | ⟨b, off, c, el, L, h1, h2, h3⟩
  · exact .inl h1
  · exact .inr ⟨b, off, c, el, L, h1, h2.ext W x, h3⟩
theorem Hp.Vals.same {v : Value} {l : List Value} (b : h.Vals v l) (hb : h'.bl = h.bl) : h'.Vals v l := by
  rcases b with h1 | ⟨b, off, c, el, L, h1, h2, h3⟩
  · exact .inl h1
  · exact .inr ⟨b, off, c, el, L, h1, h2.same hb, h3⟩
theorem Hp.Vals.src {v : Value} {l : List Value} (b : h.Vals v l) {n : Nat} (hn : n = l.length) (k : List Value → R) : srcCells h 1 v n k = k l := by
  subst hn
  rcases b with ⟨h1, h2⟩ | ⟨b, off, c, el, L, h1, h2, h3, h4⟩
  · rw [h1, h2]; rfl
  · rw [h1, h2.src h3, h4]
theorem Hp.Vals.shape {v : Value} {l : List Value} (b : h.Vals v l) : ∃ a c, v = .slice a l.length c := by
  rcases b with ⟨h1, h2⟩ | ⟨b, off, c, el, L, h1, h2, h3, h4⟩
  · exact ⟨none, 0, by rw [h1, h2]; rfl⟩
  · exact ⟨_, _, h1⟩
theorem Hp.Vals.len {v : Value} {l : List Value} (b : h.Vals v l) : lenSR v h = .ok (.int .i64 (l.length : Int)) h := by
  obtain ⟨a, c, rfl⟩ := b.shape; rfl
theorem Hp.Vals.lenV {v : Value} {l : List Value} (b : h.Vals v l) : lenV v = .ok l.length := by
  obtain ⟨a, c, rfl⟩ := b.shape; rfl
theorem Hp.Vals.at {v : Value} {l : List Value} (b : h.Vals v l) {i : Nat} (hi : i < l.length) : ∃ a, idxSR 1 v (.int .i64 (i : Int)) h = .ok (.pointer (some a)) h ∧ loadR (.pointer (some a)) h = .ok (l.getD i noRes) h := by
  rcases b with ⟨h1, h2⟩ | ⟨b, off, c, el, L, h1, h2, h3, h4⟩
  · rw [h2] at hi; cases hi
  · refine ⟨⟨b, off + i * 1, none⟩, by rw [h1]; exact idxSR_is hi, ?_⟩
    rw [loadR_is, h2.load1 (by omega)]
    have := congrArg (fun m => m[i]?) h4
    simp only [List.getElem?_take, List.getElem?_drop, if_pos hi] at this
    rw [List.getD_eq_getElem?_getD, Nat.mul_one, this, List.getD_eq_getElem?_getD]
/-- bytes -/
theorem Hp.Vals.bytes {v : Value} {l : List Nat} (b : h.Vals v (l.map bv)) : h.Bytes v l := by
  rcases b with ⟨h1, h2⟩ | ⟨b, off, c, el, L, h1, h2, h3, h4⟩
  · exact .inl ⟨h1, by cases l with
      | nil => rfl
      | cons a l => cases h2⟩
  · rw [List.length_map] at h1 h3 h4
    exact .inr ⟨b, off, c, el, L, h1, h2, h3, h4⟩
/-- the first so many -/
theorem Hp.Vals.cut {v : Value} {l : List Value} (b : h.Vals v l) {n : Nat} (hn : n < l.length) : ∃ o c, v = .slice (some o) l.length c ∧ h.Vals (.slice (some o) n c) (l.take n) := by
  rcases b with ⟨h1, h2⟩ | ⟨b, off, c, el, L, h1, h2, h3, h4⟩
  · rw [h2] at hn; cases hn
  · have hl : (l.take n).length = n := by rw [List.length_take]; omega
    refine ⟨⟨b, off, none⟩, c, h1, .inr ⟨b, off, c, el, L, by rw [hl], h2, by omega, ?_⟩⟩
    rw [hl, ← h4, List.take_take, Nat.min_eq_left (by omega)]

/-! ### rows that the run owns -/
def blkV (v : Value) (b : Nat) : Prop := ∃ off n c, v = .slice (some ⟨b, off, none⟩) n c
theorem blkV_nil {b : Nat} : ¬ blkV (.slice none 0 0) b := fun ⟨_, _, _, h⟩ => by cases h
theorem blkV_at {b b' n c : Nat} (h : b' ≠ b) : ¬ blkV (.slice (some ⟨b, 0, none⟩) n c) b' := fun ⟨_, _, _, e⟩ => by
  injection e with e _ _
  injection e with e
  injection e with e _ _
  exact h e.symm
/-- a whole row of kind en, made behind number k -/
def Hp.Own (h : Hp) (k en : Nat) (v : Value) (xs : List Value) : Prop := (v = .slice none 0 0 ∧ xs = []) ∨ ∃ b, v = .slice (some ⟨b, 0, none⟩) xs.length xs.length ∧ h.Row b (en + 1) xs ∧ k ≤ b ∧ 256 ≤ b
theorem Hp.Own.vals {k en : Nat} {v : Value} {xs : List Value} (o : h.Own k en v xs) : h.Vals v xs := by
  rcases o with h1 | ⟨b, h1, h2, _⟩
  · exact .inl h1
  · exact .inr ⟨b, 0, _, _, xs, h1, h2, by omega, by rw [List.drop_zero, List.take_length]⟩
theorem Hp.Own.le {k k' en : Nat} {v : Value} {xs : List Value} (o : h.Own k en v xs) (hk : k' ≤ k) : h.Own k' en v xs := by
  rcases o with h1 | ⟨b, h1, h2, h3, h4⟩
  · exact .inl h1
  · exact .inr ⟨b, h1, h2, Nat.le_trans hk h3, h4⟩
theorem Hp.Own.keep {k en : Nat} {v : Value} {xs : List Value} (o : h.Own k en v xs) (hk : ∀ b el L, blkV v b → h.Row b el L → h'.Row b el L) : h'.Own k en v xs := by
  rcases o with h1 | ⟨b, h1, h2, h3, h4⟩
  · exact .inl h1
  · exact .inr ⟨b, h1, hk b _ _ ⟨0, _, _, h1⟩ h2, h3, h4⟩
theorem Hp.Own.ext {k en : Nat} {v : Value} {xs : List Value} (o : h.Own k en v xs) (W : h.Wf) (x : h.Ext h') : h'.Own k en v xs := o.keep fun _ _ _ _ r => r.ext W x
theorem Hp.Own.same {k en : Nat} {v : Value} {xs : List Value} (o : h.Own k en v xs) (hb : h'.bl = h.bl) : h'.Own k en v xs := o.keep fun _ _ _ _ r => r.same hb
theorem own_append {h0 : Hp} {eb en k : Nat} {v u : Value} {xs ys : List Value} (x0 : h0.Ext h) (hk : h0.next ≤ k) (hk2 : k ≤ h.next) (o : h.Own k en v xs) (y : h.Vals u ys) (hy : 0 < ys.length) (ha : allOne ys = true) (hm : (xs.length + ys.length + 1) * (eb + 1) ≤ 1099511627776) :
    ∃ h' v', appR 1 eb en v u h = .ok v' h' ∧ h0.Ext h' ∧ h'.Own k en v' (xs ++ ys) ∧ h'.next = h.next + 1 ∧ ∀ b el L, ¬ blkV v b → h.Row b el L → h'.Row b el L ∧ ¬ blkV v' b := by
  have W := x0.wf
  rcases o with ⟨rfl, rfl⟩ | ⟨b, rfl, r, hb, hb2⟩
  · obtain ⟨t1, t2⟩ := ofL_is ys
    refine ⟨h.push (.cells (ofL ys) ys.length (en + 1)), .slice (some ⟨h.next, 0, none⟩) ys.length ys.length, ?_, x0.push _, .inr ⟨h.next, rfl, ⟨ofL ys, by rw [W.push_get, if_pos rfl]; rfl, t2⟩, hk2, W.big⟩, rfl, fun b' el' L' _ r' => ⟨r'.push W _, blkV_at (by have := r'.lt W; omega)⟩⟩
    unfold appR appendF
    simp only [y.lenV, y.src rfl, forceN_is, Nat.add_eq, Nat.zero_add]
    have e1 : Nat.ble ys.length 0 = false := by
      cases e : Nat.ble ys.length 0
      · rfl
      · have := nat_ble.1 e; omega
    have e2 : Nat.ble (Nat.mul (Nat.succ ys.length) (Nat.succ eb)) most = true := nat_ble.2 (by
      have := hm
      simp only [List.length_nil, Nat.zero_add] at this
      exact this)
    rw [e1]
    simp only [e2, cond_true, ha]
    unfold growA srcCells growF
    simp only [List.nil_append, t1]
    unfold growT
    simp only [lenL_is]
    unfold newRowT
    rw [forceN_is, newBlk_is W]; rfl
  · obtain ⟨cc, hcc, hl⟩ := r.rowOf
    obtain ⟨t, h2, h3⟩ := setAll_is ys cc xs xs.length hl (.inr rfl)
    have h3 : t.Is (xs ++ ys) := by
      have e : xs.drop (xs.length + ys.length) = [] := List.drop_of_length_le (by omega)
      rw [e] at h3
      simpa using h3
    have hlen : (xs ++ ys).length = xs.length + ys.length := List.length_append
    have hlt := r.lt W
    have W1 : (h.put b .dead).Wf := W.put hlt _
    have x1 : h0.Ext (h.put b .dead) := x0.put (by omega) hlt _
    refine ⟨(h.put b .dead).push (.cells t (xs.length + ys.length) (en + 1)), .slice (some ⟨h.next, 0, none⟩) (xs.length + ys.length) (xs.length + ys.length), ?_, x1.push _, .inr ⟨h.next, by rw [hlen], ⟨t, by
      have := W1.push_get (.cells t (xs.length + ys.length) (en + 1)) h.next
      rw [this, if_pos (show h.next = (h.put b .dead).next from rfl), hlen], h3⟩, hk2, W.big⟩, rfl, fun b' el' L' hne r' => ?_⟩
    · unfold appR appendF
      simp only [y.lenV, y.src rfl, forceN_is, Nat.add_eq]
      have e1 : Nat.ble (xs.length + ys.length) xs.length = false := by
        cases e : Nat.ble (xs.length + ys.length) xs.length
        · rfl
        · have := nat_ble.1 e; omega
      have e2 : Nat.ble (Nat.mul (Nat.succ (xs.length + ys.length)) (Nat.succ eb)) most = true := nat_ble.2 hm
      rw [e1]
      simp only [e2, cond_true, ha]
      unfold growA
      have e3 : Nat.beq xs.length (Nat.mul xs.length 1) = true := nat_beq.2 (Nat.mul_one _).symm
      simp only [hcc, e3, h2]
      unfold growT
      have e4 : atEnd 0 xs.length 1 xs.length = true := by
        unfold atEnd
        cases xs.length with
        | zero => rfl
        | succ n => exact nat_beq.2 (by show 0 + (n + 1) * 1 = n + 1; omega)
      simp only [hcc, lenL_is, Nat.add_eq, Nat.beq_refl, cond_true, e4]
      rw [putBlk_is W hb2 hlt]
      unfold newRowT
      rw [forceN_is, newBlk_is W1]; rfl
    · have hne' : b' ≠ b := fun e => hne ⟨0, _, _, by rw [e]⟩
      have hb' : b' < h.next := r'.lt W
      obtain ⟨c', hc', hl'⟩ := r'
      refine ⟨⟨c', ?_, hl'⟩, blkV_at (by omega)⟩
      rw [W1.push_get, if_neg (by show b' ≠ h.next; omega), W.put_get hlt, if_neg hne', hc']
/-- a slice of one value -/
theorem one_slice (W : h.Wf) {g : O} {z v : Value} (hv : g e = v) (hk : known v = true) (h1 : cellsOf v = [v]) : oBuildSlice 1 [z] [(0, 1, g)] F e h = .ok (.slice (some ⟨h.next, 0, none⟩) 1 1) (h.pushRow 0 [v]) := by
  rw [oBuildSlice_is, fillL_cons (hk := by rw [hv]; exact hk), hv, h1, if_pos (show [v].length = 1 from rfl), if_pos (show 0 + 1 ≤ [z].length from Nat.le_refl _), fillL_nil, newRow_is W]; rfl
theorem one_vals (W : h.Wf) {v : Value} : (h.pushRow 0 [v]).Vals (.slice (some ⟨h.next, 0, none⟩) 1 1) [v] := .inr ⟨h.next, 0, 1, 0, [v], rfl, Hp.Row.new W 0 [v], by simp, rfl⟩
theorem allOne_int {k : IntKind} {n : Int} : allOne [.int k n] = true := rfl
theorem allOne_ints (k : IntKind) : ∀ Z : List Int, allOne (ints k Z) = true
  | [] => rfl
  | z :: Z => allOne_ints k Z
/-- appends of one value -/
theorem own_one {h0 : Hp} {eb en k : Nat} {v : Value} {xs : List Value} {n : Int} {kd : IntKind} (x0 : h0.Ext h) (hk : h0.next ≤ k) (hk2 : k ≤ h.next) (o : h.Own k en v xs) (hm : (xs.length + 2) * (eb + 1) ≤ 1099511627776) :
    ∃ h' v', appR 1 eb en v (.slice (some ⟨h.next, 0, none⟩) 1 1) (h.pushRow 0 [.int kd n]) = .ok v' h' ∧ h0.Ext h' ∧ h'.Own k en v' (xs ++ [.int kd n]) ∧ h'.next = h.next + 2 ∧ ∀ b el L, ¬ blkV v b → h.Row b el L → h'.Row b el L ∧ ¬ blkV v' b := by
  have W := x0.wf
  have x1 := x0.pushRow 0 [.int kd n]
  have o1 : (h.pushRow 0 [.int kd n]).Own k en v xs := o.ext W ((Hp.Ext.refl W).pushRow _ _)
  obtain ⟨h', v', a, b, c, d, f⟩ := own_append (eb := eb) x1 hk (Nat.le_succ_of_le hk2) o1 (one_vals W) (by simp) rfl (by simpa using hm)
  exact ⟨h', v', a, b, c, d, fun b' el L hb r => f b' el L hb (r.push W _)⟩
/-- a piece of a region that writes nothing from ahead of the region -/
theorem quiet_low {f : OpF} {m : Qm} {v : Value} (hf : f F e h.quiet = .ok v h') (hl : h.mark ≤ h'.low) (hm : m ≠ .strong) : oQuiet m f F e h = .ok v (h.back h') := by
  have hq : qOk m h h'.low = true := by
    cases m with
    | strong => exact absurd rfl hm
    | weak => exact nat_ble.2 hl
    | free => rfl
  show (match f F e h.quiet with | .ok v h' => bif qOk m h h'.low then backF h v h' else .no | .no => .no) = _
  rw [hf]
  simp only [hq, cond_true]
  unfold backF
  simp only [forceN_is]; rfl
theorem oLenS_nil {n c : Nat} {o : Option Addr} : lenSR (.slice o n c) h = .ok (.int .i64 (n : Int)) h := rfl

/-! ### functions' values -/
noncomputable def applyR (F : CallF) (v : Value) (args : List Value) (h : Hp) : R := match v with
  | .func (.func g) first cap => F g (first.toList ++ (args ++ cap.toList)) h
  | _ => .no
theorem oApply_is {f : O} {l : List O} : oApply f l F e h = applyR F (f e) (vals e l) h := by
  show (match f e with | .func (.func g) first cap => forceL (vals e l) (fun args => F g (first.toList ++ (args ++ cap.toList)) h) | _ => .no) = _
  unfold applyR
  split <;> simp only [forceL_is]
theorem applyR_is {g : Nat} {l c args : List Value} : applyR F (.func (.func g) ⟨l⟩ ⟨c⟩) args h = F g (l ++ (args ++ c)) h := rfl
theorem oFunc_is {fn : Fn} {l c : List O} : oFunc fn l c F e h = .ok (.func fn ⟨vals e l⟩ ⟨vals e c⟩) h := by
  show forceL (vals e l) (fun f => forceL (vals e c) fun c => .ok (.func fn ⟨f⟩ ⟨c⟩) h) = _
  rw [forceL_is, forceL_is]
end

/-! ### a function that answers true, whatever memory it is called in -/
noncomputable def awakeF (args : List Value) (h : Hp) : R := match args with
  | [] => .ok (.bool true) h
  | _ :: _ => .no
noncomputable def bAwake : Body := ⟨[.x (fun _ => awakeF)], cNo⟩
theorem relW_below {ty : TTy} {φ : Phi} {E : Nat → Prop} {h : Hp} {w w' : World} (H : RelW ty φ E h w) (hb : Below w.heap.size w w') : RelW ty φ E h w' ∧ Evo φ h w φ h w' :=
  ⟨{ dom := fun i p e => ⟨(H.dom i p e).1, Nat.lt_of_lt_of_le (H.dom i p e).2 hb.size⟩
     inj := H.inj
     row := fun i p e hE => (by rw [hb.block _ (H.dom i p e).2]; exact H.row i p e hE)
     fresh := H.fresh
     kind := H.kind
     inp := H.inp },
   { le := .refl _
     new := fun _ _ e => .inl e
     next := Nat.le_refl _
     size := hb.size
     tape := hb.tape
     os := hb.os
     output := hb.output
     frame := fun k hk _ => hb.block k hk
     back := fun i p e hl _ => ⟨i, p, e, hl, rfl, rfl, .inl rfl⟩
     kept := fun _ _ _ => rfl
     low := Nat.le_refl _
     high := Nat.le_refl _
     shape := fun _ _ => .refl _
     only := fun _ _ _ => rfl
     all := fun _ h1 h2 => absurd h2 (Nat.not_lt.2 h1) }⟩
theorem true_does {P : Program} {ty : TTy} {f : Nat} (hS : ∃ fn, P.funcs[f]? = some fn ∧ fn.name ≠ "runtime.NumGoroutine" ∧ fn.body.isNone = false) (hc : ∀ w : World, Calls P f #[] w fun e w' => e = .returned (.bool true) ∧ Below w.heap.size w w') : FnDoes P ty f bAwake := fun F args h v h' _ hr => ⟨hS, fun φ w args' hrel H => by
  have hr : awakeF args h = .ok v h' := hr
  cases args with
  | cons a l => cases hr
  | nil =>
    cases hr
    cases hrel
    exact (hc w).mono fun e w' ⟨he, hb⟩ => ⟨_, φ, he, .bool true, (relW_below H hb).1, (relW_below H hb).2⟩⟩
theorem call_awake {bs : FT} {n f : Nat} (hb : bs.get f = some bAwake) {h : Hp} : call bs (Nat.succ n) f [] h = .ok (.bool true) h := by
  rw [call_is hb]; rfl
end Go.Proofs.Ytkafejncffinmaa
