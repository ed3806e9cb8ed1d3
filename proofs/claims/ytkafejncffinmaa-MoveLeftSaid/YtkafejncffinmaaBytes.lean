/-
  Bytes and strings; lengths; what is cleared.
-/
import Derived.Test.YtkafejncffinmaaApp2
import Derived.Laws.BytesString
set_option linter.unusedSimpArgs false
set_option linter.unusedVariables false
namespace Go.Proofs.Ytkafejncffinmaa
open Go

section
variable {P : Program} {ty : TTy} {φ : Phi} {E : Nat → Prop} {h h' : Hp} {w : World} {F : CallF} {e : Env} {v : Value}

theorem bytesOf_ok : ∀ {cs cs' : List Value} {bs : List UInt8}, RelL φ cs cs' → bytesOf cs = some bs →
    ∃ ns : List Int, cs' = ns.map (Value.int .u8) ∧ ∀ s : ByteArray, (ns.foldl (fun r n => r.push (UInt8.ofNat n.toNat)) s).data.toList = s.data.toList ++ bs
  | _, _, bs, .nil, hb => by
    cases hb
    exact ⟨[], rfl, fun s => by simp⟩
  | _, _, bs, .cons (v := u) (v' := u') (l := l) (l' := l') hu t, hb => by
    unfold bytesOf at hb
    split at hb
    · cases ‹_ :: _ = []›
    · rename_i n l2 heq
      injection heq with h1 h2
      subst h1; subst h2
      split at hb
      · rename_i bs' hbs
        rw [forceN_is] at hb
        cases hb
        obtain ⟨ns, hns, hf⟩ := bytesOf_ok t hbs
        have := hu.int_inv
        subst this
        refine ⟨(n : Int) :: ns, by rw [hns]; rfl, fun s => ?_⟩
        rw [List.foldl_cons, hf]
        simp
      · cases hb
    · cases hb
theorem oToStr_ok (H : RelW ty φ E h w) {x : O} (hE : ∀ a l c, x e = .slice (some a) l c → ¬ E a.block) {x' : Value} {src dst el : TypeId} {si di ei : TI} (TS : TyOk P src si) (hs : si.k = .slice el) (TD : TyOk P dst di) (hd : di.k = .string) (TE : TyOk P el ei) (he : ei.k = .int .u8)
    (hx : RelV φ (x e) x') (hr : oToStr x F e h = .ok v h') : Gives ty φ E h w v h' ((convert src dst x').run P w) := by
  obtain ⟨d1, h1, k1⟩ := TS.und
  obtain ⟨d2, h2, k2⟩ := TD.und
  obtain ⟨d3, h3, k3⟩ := TE.und
  rw [hs] at k1; cases k1
  rw [hd] at k2; cases k2
  rw [he] at k3; cases k3
  unfold oToStr at hr
  split at hr
  case h_2 => cases hr
  rename_i a n c hxe
  rw [hxe] at hx
  have hx0 := hx
  obtain ⟨cs, cs', hr, hcs, hrun, hl1, hl2, _⟩ := srcCells_ok (P := P) H (fun a l c heq => by cases heq; exact hE _ _ _ hxe) hx hr (fun m hm => by cases hm; exact Nat.le_refl _)
  split at hr
  case h_2 => cases hr
  rename_i bs hbs
  cases hr
  obtain ⟨ns, hns, hf⟩ := bytesOf_ok hcs hbs
  have hempty := hf ByteArray.empty
  have hdat := data_ext (a := ns.foldl (fun r n => r.push (UInt8.ofNat n.toNat)) ByteArray.empty) (l := bs) (by rw [hempty]; rfl)
  cases hx with
  | slice0 =>
    rw [run_convert_bytes_string w src dst el none 0 0 h1 h3 h2]
    have := hrun w rfl
    simp only [Builtin.firstCells, Sem.run_pure] at this
    have hcs0 : cs' = [] := by cases this; rfl
    have hns0 : ns = [] := by
      rw [hcs0] at hns
      cases ns with
      | nil => rfl
      | cons _ _ => cases hns
    subst hns0
    rw [← hdat]
    exact .same H (.string _)
  | @slice _ a' _ _ c' hlc hsl =>
    rw [run_convert_bytes_string w src dst el (some a') n c' h1 h3 h2]
    have hld : (loadCells a' n).run P w = .ok (ns.map (Value.int .u8)).toArray w := by
      have := hrun w rfl
      rw [hns] at this
      simp only [Builtin.firstCells, Nat.mul_one] at this
      exact this
    rw [run_bytesToString w a' n c' ns hld, hdat]
    exact .same H (.string _)
theorem modify_push (A : Array Obj) (x : Obj) (f : Obj → Obj) : (A.push x).modify A.size f = A.push (f x) := by
  apply Array.ext_getElem?
  intro i
  rw [Array.getElem?_modify, Array.getElem?_push, Array.getElem?_push]
  by_cases hi : i = A.size
  · subst hi; simp
  · rw [if_neg (Ne.symm hi), if_neg hi, if_neg hi]
theorem mark_run (w : World) (A : Array Value) (el : TypeId) : (markStringish ⟨w.heap.size, 0, none⟩).run P { w with heap := w.heap.push (.cells A el) } =
    .ok () { w with heap := w.heap.push (.cells A el (A.size, A.size + 1)) } := by
  have hs : World.shape? { w with heap := w.heap.push (.cells A el) } w.heap.size = some (el, A.size) := by simp [World.shape?]
  simp only [markStringish, Sem.run_bind, run_shape, Result.andThen_ok, hs, run_freeze, World.freeze, Nat.one_ne_zero, if_false, modify_push]
  rfl
theorem oToBytes_ok (H : RelW ty φ E h w) {x : O} {x' : Value} {src dst el : TypeId} {si di ei : TI} (TS : TyOk P src si) (hs : si.k = .string) (TD : TyOk P dst di) (hd : di.k = .slice el) (TE : TyOk P el ei) (he : ei.k = .int .u8)
    (hty : ty.get el = some ei) (hz : ei.size = 1) (hx : RelV φ (x e) x') (hr : oToBytes el x F e h = .ok v h') : Gives ty φ E h w v h' ((convert src dst x').run P w) := by
  obtain ⟨d1, h1, k1⟩ := TS.und
  obtain ⟨d2, h2, k2⟩ := TD.und
  obtain ⟨d3, h3, k3⟩ := TE.und
  rw [hs] at k1; cases k1
  rw [hd] at k2; cases k2
  rw [he] at k3; cases k3
  unfold oToBytes at hr
  split at hr
  case h_2 => cases hr
  rename_i s hxe
  rw [hxe] at hx
  obtain rfl := hx.string_inv
  rw [forceN_is, lenL_is] at hr
  obtain ⟨hb, hr⟩ := bif_ok hr
  let q : Question := .appendCap s.size 0 el
  let c : Nat := q.cut (w.tape w.drawn q)
  have hc : s.size ≤ c := Nat.le_add_right _ _
  let cells : List Value := s.data.toList.map fun b => .int .u8 (b.toNat : Int)
  let rest : List Value := List.replicate (c - s.size) (.int .u8 0)
  have hcl : cells.length = s.size := by simp [cells]
  let w' : World := { w with drawn := w.drawn + 1, heap := w.heap.push (.cells ⟨cells ++ rest⟩ el (c, c + 1)) }
  have hsz : (⟨cells ++ rest⟩ : Array Value).size = c := by simp [rest, hcl]; omega
  have hrel : RelL φ (cellsOfBytes s.data.toList) cells := bytes_plain _
  have hlen : (cellsOfBytes s.data.toList).length = s.size := by rw [← hrel.length, hcl]
  obtain ⟨hh1, hk, H1, ev⟩ := newRow_ok (cs' := ⟨cells ++ rest⟩) (t := el) (fr := (c, c + 1)) (w' := w')
    (p := { blk := w.heap.size, off := 0, sz := (cellsOfBytes s.data.toList).length, room := (⟨cells ++ rest⟩ : Array Value).size, es := 1 }) H hr rfl ⟨rfl, .inr ⟨el, ei, rfl, hty, hz.symm⟩⟩ (by rw [hlen, hsz]; exact hc) (.inr (by rw [hsz]; exact Nat.le_refl _))
    (fun j u hj => by
      obtain ⟨u', hu, hru⟩ := hrel.get j u hj
      refine ⟨u', ?_, hru⟩
      have hj' : j < cells.length := by
        rcases Nat.lt_or_ge j cells.length with h | h
        · exact h
        · rw [List.getElem?_eq_none h] at hu; cases hu
      simp only [List.getElem?_toArray]
      rw [List.getElem?_append_left hj']; exact hu) rfl rfl rfl rfl
  cases hk
  have key : (convert src dst (.string s)).run P w = .ok (.slice (some ⟨w.heap.size, 0, none⟩) s.size c) w' := by
    have hforced : (Question.appendCap s.size 0 el).forced = false := rfl
    have harr : (s.data.map fun b => (Value.int .u8 (b.toNat : Int))) ++ Array.replicate (c - s.size) (Value.int .u8 0) = ⟨cells ++ rest⟩ := by
      apply Array.ext'; simp [cells, rest]
    have hm := mark_run (P := P) { w with drawn := w.drawn + 1 } ⟨cells ++ rest⟩ el
    rw [hsz] at hm
    simp only [convert, Sem.run_bind, run_underlying h1, run_underlying h2, run_underlying h3, Result.andThen_ok, Conv.stringToBytes, run_choose, hforced, Bool.false_eq_true, if_false, Go.newRow, run_newObj, Sem.run_pure]
    show (((markStringish ⟨w.heap.size, 0, none⟩).run P { w with drawn := w.drawn + 1, heap := w.heap.push (.cells ((s.data.map fun b => (Value.int .u8 (b.toNat : Int))) ++ Array.replicate (c - s.size) (Value.int .u8 0)) el) }).andThen
      fun _ w'' => Result.ok (Value.slice (some ⟨w.heap.size, 0, none⟩) s.size c) w'') = _
    rw [harr]
    have hm' : (markStringish ⟨w.heap.size, 0, none⟩).run P { w with drawn := w.drawn + 1, heap := w.heap.push (.cells ⟨cells ++ rest⟩ el) } = .ok () w' := hm
    rw [hm']; rfl
  rw [key]
  refine ⟨_, _, _, rfl, ?_, H1, ev⟩
  have e1 : s.data.toList.length = s.size := rfl
  rw [e1]
  refine .slice (Nat.le_refl _) ⟨rfl, rfl, _, Phi.put_self _ _ _, rfl, ?_⟩
  rcases Nat.eq_zero_or_pos s.size with h0 | h0
  · refine .inr ⟨h0, .inr ⟨?_, ?_⟩⟩
    · simp only [hlen, h0]
    · simp only [hlen, hsz, h0]; omega
  · refine .inl ⟨h0, rfl, .inr ⟨?_, hc, ?_⟩⟩
    · simp only [hlen]; omega
    · simp only [hsz]; omega
end
end Go.Proofs.Ytkafejncffinmaa
