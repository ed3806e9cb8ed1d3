/-
  A run upon what came in: bytes that the run reads; what the machine has shown of it holds of every memory and every tape.
-/
import Derived.Test.YtadoagfabfcdbaaSymL
import Derived.Test.YtadoagfabfcdbaaArgs
import Derived.ChangeSlices
set_option linter.unusedVariables false
set_option linter.unusedSimpArgs false
namespace Go.Proofs.Ytadoagfabfcdbaa
open Go Go.RowKit Go.WideShapes Go.ChangeShapes

/-- a run that writes nothing that was there ahead of it -/
theorem run_ext {P : Program} {ty : TTy} {bs : FT} (hC : ∀ n, CallOk P ty (call bs n)) {n f : Nat} {xs args : List Value} {φ : Phi} {w : World} {h0 h' : Hp} (hr : call bs n f xs h0 = .ok (.bool true) h') (x : h0.Ext h') (hl : h0.low = h0.next)
    (ha : RelL φ xs args) (H : RelW ty φ nil h0 w) : Calls P f ⟨args⟩ w fun e w' => e = .returned (.bool true) ∧ Below w.heap.size w w' := by
  obtain ⟨_, hc⟩ := hC n f xs h0 _ h' hr
  refine (hc φ w args ha H).mono fun e w' ⟨v', ψ, he, hv, _, ev⟩ => ?_
  have := hv.bool_inv
  subst this
  refine ⟨he, ⟨ev.os, ev.tape, ev.output, ev.size, fun k hk => ev.frame k hk fun i p hp h1 _ _ => ?_⟩⟩
  have h2 := (H.dom i p hp).1
  have h3 := x.low
  omega

/-- bytes that came in, ahead of a run -/
noncomputable def inH (L : List Nat) : Hp := { next := 1, low := 1, high := 0, mark := 1, bl := .nd (.cells (ofL (L.map bv)) (L.map bv).length 0) .mt .mt }
theorem inH_wf (L : List Nat) : (inH L).Wf where
  has := fun i hi => by
    have hi : i < 1 := hi
    obtain rfl : i = 0 := by omega
    exact trivial
  fresh := fun i hi => by
    have hi : 1 ≤ i := hi
    obtain ⟨k, rfl⟩ : ∃ k, i = k + 1 := ⟨i - 1, by omega⟩
    show (BT.nd _ .mt .mt).get (k + 1) = _
    rw [BT.get_nd_succ]
    split <;> rfl
theorem inH_row (L : List Nat) : (inH L).Row 0 0 (L.map bv) := ⟨_, rfl, (ofL_is _).2⟩

/-- a slice of bytes that came in: what it holds -/
def BytesIn (W : World) (v : Value) (l : List Nat) : Prop := (v = .slice none 0 0 ∧ l = []) ∨ ∃ (a : Addr) (n c : Nat) (L : List Nat) (cs : Array Value) (t : TypeId) (fr : Nat × Nat), v = .slice (some a) n c ∧ n ≤ c ∧ a.spot = none ∧ L.length = c ∧ l = L.take n ∧
  W.heap[a.block]? = some (.cells cs t fr) ∧ (∀ i, i < c → cs[a.off + i]? = some (bv (L.getD i 0))) ∧ ∀ i, i < c → ¬ (fr.1 ≤ a.off + i ∧ a.off + i < fr.2)
theorem bytes_in {H : Type} {enc : TypeId × Value → H} {P : Program} {t e : TypeId} (ht : P.underlying t = some (.slice e)) (he : P.underlying e = some (.int .u8)) (hc : P.cellsOf e = 1) {W : World} {base : Nat} {v : Value} {d : DataW H} {p : List MemPlace}
    (hval : Value.okWide P W .any base t v) (h : DataW.Trod enc P W 0 (fun _ => true) true t v d p) (hfz : ∀ b off, MemPlace.cell b off ∈ p → W.frozen? ⟨b, off, none⟩ = false) : ∃ l : List Nat, (∀ x ∈ l, x < 256) ∧ BytesIn W v l := by
  rcases slice_arg ht hval with rfl | ⟨a, n, c, rfl, h1, h2, h3⟩
  · exact ⟨[], (fun x hx => by cases hx), .inl ⟨rfl, rfl⟩⟩
  obtain ⟨fuel, hf⟩ := h
  rcases open_ints ht he hc hf with ⟨hcs, _⟩ | ⟨a', n', c', zs, hcs, _, hl, hm, hz, hx, hcell, hwz⟩
  · simp [Value.cells] at hcs
  · simp [Value.cells] at hcs
    obtain ⟨rfl, rfl, rfl⟩ := hcs
    simp only [if_true] at hz
    simp only [Prod.mk.injEq] at hx
    obtain ⟨_, rfl⟩ := hx
    have hw : ∀ z ∈ zs, 0 ≤ z ∧ z ≤ 255 := fun z hzz => by
      have := hwz z hzz
      simp [Lit.wf] at this
      first | exact this | (obtain ⟨q1, q2⟩ := this; exact ⟨by first | exact q1 | simpa using q1, by first | exact q2 | simpa using q2⟩)
    obtain ⟨ab, ao, spot⟩ := a
    simp only at h2
    subst h2
    -- the block
    have hblk : ∃ cs tt fr, W.heap[ab]? = some (.cells cs tt fr) := by
      unfold Value.okWide at hval
      rw [ht] at hval
      simp only at hval
      unfold Cell.okWide at hval
      rw [ht] at hval
      have hval : Cell.ok P W .any base t (.slice (some ⟨ab, ao, none⟩) n c) := hval
      unfold Cell.ok at hval
      rw [ht] at hval
      obtain ⟨_, _, _, _, row, cells, hsh, _⟩ := hval
      unfold World.shape? at hsh
      split at hsh
      · rename_i cs tt fr hb; exact ⟨cs, tt, fr, hb⟩
      all_goals cases hsh
    obtain ⟨cs, tt, fr, hb⟩ := hblk
    have hL : (zs.map Int.toNat).length = c := by simpa using hz
    refine ⟨(zs.map Int.toNat).take n, fun x hx => ?_, .inr ⟨⟨ab, ao, none⟩, n, c, zs.map Int.toNat, cs, tt, fr, rfl, h1, rfl, hL, rfl, hb, fun i hi => ?_, fun i hi hh => ?_⟩⟩
    · have hx := List.mem_of_mem_take hx
      obtain ⟨z, hz1, rfl⟩ := List.mem_map.1 hx
      have := hw z hz1
      omega
    · have h4 := hcell i (by omega)
      rw [Addr.add_is, cell_of hb] at h4
      show cs[ao + i]? = _
      rw [h4]
      have h5 : i < zs.length := by omega
      have e1 : (zs.map Int.toNat).getD i 0 = (zs[i]).toNat := by rw [List.getD_eq_getElem?_getD, List.getElem?_map, List.getElem?_eq_getElem h5]; rfl
      have e2 : zs.getD i 0 = zs[i] := by rw [List.getD_eq_getElem?_getD, List.getElem?_eq_getElem h5]; rfl
      rw [e1, e2]
      unfold bv
      have := hw zs[i] (List.getElem_mem h5)
      congr 2
      omega
    · have h6 := hfz ab (ao + i) (by simp only [MemPlace.row, List.mem_map, List.mem_range]; exact ⟨i, by omega, rfl⟩)
      obtain ⟨lo, hi'⟩ := fr
      simp only [World.frozen?, hb] at h6
      simp only at hh
      simp only [Bool.and_eq_false_iff, decide_eq_false_iff_not] at h6
      omega
/-- the machine's heap for it, and its slice -/
theorem BytesIn.rel {ty : TTy} {W : World} {v : Value} {l : List Nat} (b : BytesIn W v l) : ∃ (L : List Nat) (u : Value) (φ : Phi), RelV φ u v ∧ RelW ty φ nil (inH L) W ∧ (inH L).Bytes u l := by
  rcases b with ⟨rfl, rfl⟩ | ⟨a, n, c, L, cs, t, fr, rfl, hn, hs, hL, rfl, hb, hc, hfr⟩
  · refine ⟨[], .slice none 0 0, phi0, .slice0, ?_, .inl ⟨rfl, rfl⟩⟩
    exact { dom := (fun i p h => by cases h), inj := (fun i j p q h => by cases h), row := (fun i p h => by cases h), fresh := (inH_wf []).fresh, kind := (fun i p c s e h => by cases h) }
  · have hblt : a.block < W.heap.size := (Array.getElem?_eq_some_iff.1 hb).1
    let p : Pl := { blk := a.block, off := if c = 0 then 0 else a.off, sz := c, room := c, es := 1 }
    let φ : Phi := fun i => if i = 0 then some p else none
    have hφ : ∀ i q, φ i = some q → i = 0 ∧ q = p := fun i q h => by
      by_cases hi : i = 0
      · have : φ i = some p := if_pos hi
        rw [this] at h
        exact ⟨hi, (Option.some.inj h).symm⟩
      · have : φ i = none := if_neg hi
        rw [this] at h; cases h
    have hLc : (L.map bv).length = c := by simpa using hL
    refine ⟨L, .slice (some ⟨0, 0, none⟩) n c, φ, .slice hn ⟨rfl, hs, p, rfl, rfl, ?_⟩, ?_, .inr ⟨0, 0, c, 0, L.map bv, ?_, inH_row L, ?_, ?_⟩⟩
    · rcases Nat.eq_zero_or_pos c with h0 | h0
      · exact .inr ⟨h0, .inl h0⟩
      · refine .inl ⟨h0, ?_, .inl rfl⟩
        show a.off = (if c = 0 then 0 else a.off) + 0
        rw [if_neg (by omega), Nat.add_zero]
    · refine { dom := fun i q h => ?_, inj := fun i j q r h1 h2 _ _ _ _ _ => ?_, row := fun i q h _ => ?_, fresh := (inH_wf L).fresh, kind := fun i q cc s e h hc => ?_ }
      · obtain ⟨rfl, rfl⟩ := hφ i q h; exact ⟨Nat.zero_lt_one, hblt⟩
      · rw [(hφ i q h1).1, (hφ j r h2).1]
      · obtain ⟨rfl, rfl⟩ := hφ i q h
        show RelB ty φ p (.cells (ofL (L.map bv)) (L.map bv).length 0) W.heap[a.block]?
        rw [hb]
        refine .cells { kind := ⟨hLc.symm, .inl ⟨rfl, rfl, rfl⟩⟩, room := Nat.le_refl _, fits := ?_, loose := .inr ⟨rfl, fun o h1 h2 => ?_⟩, cell := fun j hj => ?_ }
        · show (if c = 0 then 0 else a.off) + c ≤ cs.size
          rcases Nat.eq_zero_or_pos c with h0 | h0
          · rw [if_pos h0, h0]; exact Nat.zero_le _
          · rw [if_neg (by omega)]
            have := (Array.getElem?_eq_some_iff.1 (hc (c - 1) (by omega))).1
            omega
        · have h1 : (if c = 0 then 0 else a.off) ≤ o := h1
          have h2 : o < (if c = 0 then 0 else a.off) + c := h2
          rcases Nat.eq_zero_or_pos c with h0 | h0
          · rw [if_pos h0] at h2; omega
          · rw [if_neg (by omega)] at h1 h2
            have := hfr (o - a.off) (by omega)
            have e : a.off + (o - a.off) = o := by omega
            rw [e] at this; exact this
        · rw [hLc] at hj
          have h1 := hc j hj
          refine ⟨bv (L.getD j 0), ?_, ?_⟩
          · show cs[(if c = 0 then 0 else a.off) + j]? = _
            rw [if_neg (by omega)]; exact h1
          · have h2 := ((ofL_is (L.map bv)).2 j (by omega)).2
            rw [h2]
            have e1 : (L.map bv).getD j noRes = bv (L.getD j 0) := by
              rw [List.getD_eq_getElem?_getD, List.getElem?_map, List.getD_eq_getElem?_getD, List.getElem?_eq_getElem (by omega)]; rfl
            rw [e1]; exact .int _ _
      · obtain ⟨rfl, rfl⟩ := hφ i q h
        have hc : Blk.cells (ofL (L.map bv)) (L.map bv).length 0 = .cells cc s e := hc
        cases hc
        exact ⟨hLc.symm, .inl ⟨rfl, rfl, rfl⟩⟩
    · rw [List.length_take, Nat.min_eq_left (by omega)]
    · rw [List.length_take, hLc]; omega
    · rw [List.length_take, Nat.min_eq_left (by omega), List.drop_zero, List.map_take]
end Go.Proofs.Ytadoagfabfcdbaa
