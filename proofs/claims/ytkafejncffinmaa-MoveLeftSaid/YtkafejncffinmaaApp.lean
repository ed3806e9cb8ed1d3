/-
  append.
-/
import Derived.Test.YtkafejncffinmaaCopy
set_option linter.unusedSimpArgs false
set_option linter.unusedVariables false
namespace Go.Proofs.Ytkafejncffinmaa
open Go

section
variable {P : Program} {ty : TTy} {φ : Phi} {E : Nat → Prop} {h h' : Hp} {w : World} {F : CallF} {e : Env} {v : Value}

theorem RelW.of_heap (H : RelW ty φ E h w) {w' : World} (hw : w'.heap = w.heap) : RelW ty φ E h w' where
  dom := by rw [hw]; exact H.dom
  inj := H.inj
  row := by rw [hw]; exact H.row
  fresh := H.fresh
  kind := H.kind
  inp := H.inp

/-- cells of a slice are stored, from one of its places on -/
theorem storeS_ok (H : RelW ty φ E h w) (hE : ∀ b, ¬ E b) {a a' : Addr} {c c' o : Nat} {vs vs' : List Value} {k : Hp → R} (hs : RelS φ a c a' c') (h0 : c = 0 → vs = [])
    (hr : storeL (addOff a o) vs h k = .ok v h') (hv : RelL φ vs vs') :
    ∃ h1 w1, k h1 = .ok v h' ∧ (storeCells (a'.add o) vs').run P w = .ok () w1 ∧ RelW ty φ E h1 w1 ∧ Evo φ h w φ h1 w1 := by
  obtain ⟨s1, s2, p, hp, hbl, hor⟩ := hs
  have hblk : (addOff a o).block = a.block := by unfold addOff; split <;> rfl
  rcases Nat.eq_zero_or_pos c with hc | hc
  · have := h0 hc
    subst this
    have : vs' = [] := by cases hv; rfl
    subst this
    unfold storeL at hr
    split at hr
    case h_2 => cases hr
    rename_i ct s en hrow
    obtain ⟨_, hr⟩ := bif_ok hr
    obtain ⟨_, hr⟩ := bif_ok hr
    simp only [setAll] at hr
    obtain ⟨bl, h256, hbl2, hk2⟩ := putBlk_ok hr
    rw [hblk] at hrow hbl2 hk2 h256
    have hold := H.row a.block p hp (hE _)
    have hrow' := rowOf_ok hrow
    rw [hrow'] at hold
    have hlive : Live h a.block := by unfold Live; rw [hrow']; intro hd; cases hd
    exact ⟨_, w, hk2, rfl, H.put (hE _) h256 hp hlive hbl2 rfl (fun _ _ => rfl) hold, .put (H.notInp hp h256) hp hlive hbl2 (by rw [rowOf_ok hrow]; exact .inr ⟨rfl, rfl⟩) rfl (fun _ _ => rfl) rfl rfl rfl⟩
  · have hoff : a'.off = p.off + a.off := by
      rcases hor with h | h
      · exact h.2.1
      · omega
    obtain ⟨ab', ao', asp'⟩ := a'
    obtain ⟨ab, ao, asp⟩ := a
    simp only at s1 s2 hp hbl hoff
    subst s1; subst s2; subst hbl; subst hoff
    have hadd : addOff ⟨ab, ao, none⟩ o = ⟨ab, ao + o, none⟩ := by
      unfold addOff
      cases o <;> rfl
    rw [hadd] at hr
    rw [Addr.add_is]
    refine storeL_ok (P := P) H hr ⟨rfl, rfl, p, hp, rfl, ?_⟩ hv (hE _)
    show p.off + ao + o = p.off + (ao + o)
    omega

theorem growBy_le (N : Nat) : ∀ (r c : Nat), c < N → Builtin.growBy N r c ≤ 2 * N + 192
  | 0, c, h => by unfold Builtin.growBy; omega
  | r + 1, c, h => by
    unfold Builtin.growBy
    split
    · omega
    · rcases Nat.lt_or_ge (c + (c + 768) / 4) N with h2 | h2
      · exact growBy_le N r _ h2
      · cases r with
        | zero => unfold Builtin.growBy; omega
        | succ r => unfold Builtin.growBy; rw [if_pos h2]; omega
theorem next_le {need cap : Nat} (h : cap < need) : Builtin.nextslicecap need cap ≤ 2 * need + 192 := by
  unfold Builtin.nextslicecap
  split
  · omega
  · split
    · omega
    · exact growBy_le need 4 cap h

/-- a new row that has room behind it -/
theorem grown_ok (H : RelW ty φ E h w) {en : Nat} {ei : TI} (hty : ty.get en = some ei) {need c : Nat} (hneed : 0 < need) (hc : need ≤ c) {cs cs' rest : List Value} (hrel : RelL φ cs cs') (hlen : cs.length = need * ei.size)
    (hrest : rest.length = (c - need) * ei.size) {w' : World} (hw' : w'.heap = w.heap.push (.cells ⟨cs' ++ rest⟩ en)) (ht : w'.tape = w.tape) (ho : w'.os = w.os) (hout : w'.output = w.output)
    {t : VT} {n : Nat} (hT : ∀ j, j < cs.length → t.get j = cs.getD j undef) (hN : n = cs.length) (hr : newRowT h (Nat.succ en) t n (slcNew need need) = .ok v h') : ∃ ψ, RelV ψ v (.slice (some ⟨w.heap.size, 0, none⟩) need c) ∧ RelW ty ψ E h' w' ∧ Evo φ h w ψ h' w' := by
  have hl' := hrel.length
  have hmul : (c - need) * ei.size + need * ei.size = c * ei.size := by rw [← Nat.add_mul]; congr 1; omega
  have hsz : (⟨cs' ++ rest⟩ : Array Value).size = c * ei.size := by simp [hl', hrest, hlen]; omega
  obtain ⟨h1, hk, H1, ev⟩ := newRowT_ok (cs := cs) (cs' := ⟨cs' ++ rest⟩) (t := en) (fr := (0, 0)) (w' := w')
    (p := { blk := w.heap.size, off := 0, sz := cs.length, room := (⟨cs' ++ rest⟩ : Array Value).size, es := ei.size }) H hr hT hN rfl ⟨rfl, .inr ⟨en, ei, rfl, hty, rfl⟩⟩ (by simp [hl']) (.inl rfl)
    (fun j u hj => by
      obtain ⟨u', hu, hru⟩ := hrel.get j u hj
      refine ⟨u', ?_, hru⟩
      have hj' : j < cs'.length := by
        rcases Nat.lt_or_ge j cs'.length with h | h
        · exact h
        · rw [List.getElem?_eq_none h] at hu; cases hu
      simp only [List.getElem?_toArray]
      rw [List.getElem?_append_left hj']; exact hu) hw' ht ho hout
  cases hk
  refine ⟨_, .slice (Nat.le_refl _) ⟨rfl, rfl, _, Phi.put_self _ _ _, rfl, .inl ⟨hneed, rfl, .inr ⟨?_, hc, ?_⟩⟩⟩, H1, ev⟩
  · simp only; omega
  · simp only [hsz]; omega

/-- an append that has no room on the machine: the model has some, or not -/
theorem growT_ok (H : RelW ty φ E h w) (hE : ∀ b, ¬ E b) {en : Nat} {ei : TI} (hty : ty.get en = some ei) (hes : 0 < ei.size) {base : Option Addr} {base' : Option Addr} {sl sc sc' need : Nat}
    (hsl : RelV φ (.slice base sl sc) (.slice base' sl sc')) (hneed : sc < need) {olds news olds' news' : List Value} (ho : RelL φ olds olds') (hn : RelL φ news news')
    (hol : olds.length = sl * ei.size) (hnl : (olds ++ news).length = need * ei.size) (hone : ∀ v ∈ news', v.oneCell' = true)
    (hcell : ∀ a a', base = some a → base' = some a' → 0 < sc → ∃ p cs t fr, φ a.block = some p ∧ w.heap[p.blk]? = some (.cells cs t fr) ∧ ∀ j u, olds'[j]? = some u → cs[p.off + a.off + j]? = some u)
    {tr : VT} {n : Nat} (hT : ∀ j, j < (olds ++ news).length → tr.get j = (olds ++ news).getD j undef) (hN : n = (olds ++ news).length) (hr : growT ei.size en base sc need tr n h = .ok v h') :
    (∀ c rest, need ≤ c → rest.length = (c - need) * ei.size → ∀ w' : World, sc' < need → w'.heap = w.heap.push (.cells ⟨(olds' ++ news') ++ rest⟩ en) → w'.tape = w.tape → w'.os = w.os → w'.output = w.output →
      ∃ ψ, RelV ψ v (.slice (some ⟨w.heap.size, 0, none⟩) need c) ∧ RelW ty ψ E h' w' ∧ Evo φ h w ψ h' w') ∧
    (∀ a', base' = some a' → need ≤ sc' → ∃ w' ψ, (storeCells (a'.add (sl * ei.size)) news').run P w = .ok () w' ∧ RelV ψ v (.slice (some a') need sc') ∧ RelW ty ψ E h' w' ∧ Evo φ h w ψ h' w') := by
  have hrel := ho.append hn
  have hneed0 : 0 < need := by omega
  unfold growT at hr
  split at hr
  · -- none
    cases hsl
    refine ⟨fun c rest hc hrest w' _ hw' ht hos hout => grown_ok H hty hneed0 hc hrel hnl hrest hw' ht hos hout hT hN hr, fun a' ha => by cases ha⟩
  · rename_i _ a
    cases hsl with
    | @slice _ a' _ _ _ hlc hs =>
    split at hr
    case h_2 => cases hr
    rename_i ct s en0 hrow
    obtain ⟨s1, s2, p, hp, hbl, hor⟩ := hs
    have hkind := H.kind a.block p ct s en0 hp (rowOf_ok hrow)
    have hlive : Live h a.block := by unfold Live; rw [rowOf_ok hrow]; intro hd; cases hd
    have noroom : (p.room = p.sz ∧ p.es = 1) → sc' = sc := by
      rintro ⟨q1, q2⟩
      rcases hor with ⟨q3, q4, q5 | ⟨q5, q6, q7⟩⟩ | ⟨q3, q4 | q4⟩
      · exact q5
      · rw [q2] at q5 q7; omega
      · omega
      · rw [q2] at q4; omega
    have real : sc' = sc → newRowT h (Nat.succ en) tr n (slcNew need need) = .ok v h' →
        (∀ c rest, need ≤ c → rest.length = (c - need) * ei.size → ∀ w' : World, sc' < need → w'.heap = w.heap.push (.cells ⟨(olds' ++ news') ++ rest⟩ en) → w'.tape = w.tape → w'.os = w.os → w'.output = w.output →
          ∃ ψ, RelV ψ v (.slice (some ⟨w.heap.size, 0, none⟩) need c) ∧ RelW ty ψ E h' w' ∧ Evo φ h w ψ h' w') ∧
        (∀ a'', some a' = some a'' → need ≤ sc' → ∃ w' ψ, (storeCells (a''.add (sl * ei.size)) news').run P w = .ok () w' ∧ RelV ψ v (.slice (some a'') need sc') ∧ RelW ty ψ E h' w' ∧ Evo φ h w ψ h' w') := by
      intro hsc hr
      exact ⟨fun c rest hc hrest w' _ hw' ht hos hout => grown_ok H hty hneed0 hc hrel hnl hrest hw' ht hos hout hT hN hr, fun a'' _ h2 => by omega⟩
    split at hr
    · refine real (noroom ?_) hr
      rcases hkind.2 with ⟨_, q1, q2, _⟩ | ⟨t, ti, q1, _⟩
      · exact ⟨q1, q2⟩
      · cases q1
    · rename_i e0
      obtain ⟨hb, hr⟩ := bif_ok hr
      have hen : e0 = en := nat_beq.1 hb
      subst hen
      have hpes : p.es = ei.size := by
        rcases hkind.2 with ⟨q0, _⟩ | ⟨t, ti, q1, q2, q3⟩
        · cases q0
        · have : t = e0 := by omega
          subst this
          rw [hty] at q2; cases q2; exact q3
      split at hr
      · obtain ⟨bl, h256, hkill, hr⟩ := putBlk_ok hr
        have Hk := H.kill hkill (lo := minN h.low a.block) (hi := maxN h.high a.block) (mk := h.mark)
        refine ⟨fun c rest hc hrest w' _ hw' ht hos hout => ?_, fun a'' ha'' hcap => ?_⟩
        · obtain ⟨ψ, hv, H2, ev⟩ := grown_ok Hk hty hneed0 hc hrel hnl hrest hw' ht hos hout hT hN hr
          refine ⟨ψ, hv, H2, ?_⟩
          have evk : Evo φ h w φ { next := h.next, low := minN h.low a.block, high := maxN h.high a.block, mark := h.mark, bl := bl } w := {
            le := .refl _, new := fun _ _ e => .inl e, next := Nat.le_refl _, size := Nat.le_refl _, tape := rfl, os := rfl, output := rfl, frame := fun _ _ _ => rfl,
            back := fun i q e hl _ => ⟨i, q, e, fun hd => hl (by show bl.get i = _; rw [BT.live_set hkill]; split <;> first | rfl | exact hd), rfl, rfl, .inl rfl⟩,
            kept := fun i _ hi => by
              show bl.get i = _
              have hi : i < minN h.low a.block ∨ maxN h.high a.block < i := hi
              rw [minN_is, maxN_is] at hi
              rw [BT.live_set hkill, if_neg (by omega)],
            low := by show minN _ _ ≤ _; rw [minN_is]; exact Nat.min_le_left _ _,
            high := by show _ ≤ maxN _ _; rw [maxN_is]; exact Nat.le_max_left _ _,
            shape := fun i _ => by
              show ShapeLe _ (bl.get i)
              rw [BT.live_set hkill]
              split
              · exact .inl rfl
              · exact .refl _,
            only := fun i _ h0 => by
              show bl.get i = _
              rw [BT.live_set hkill, if_neg (fun e => by rw [e, hp] at h0; cases h0)],
            all := fun _ h1 h2 => absurd h2 (Nat.not_lt.2 h1) }
          exact evk.trans ev
        · cases ha''
          obtain ⟨p0, cs, t, fr, hp0, hwc, R⟩ : ∃ p0 cs t fr, φ a.block = some p0 ∧ w.heap[p0.blk]? = some (.cells cs t fr) ∧ RelC ty φ p0 ct s (e0 + 1) cs fr := by
            obtain ⟨cs, t, fr, q1, q2⟩ := H.rowAt hp (hE _) hrow
            exact ⟨p, cs, t, fr, hp, q1, q2⟩
          rw [hp] at hp0; cases hp0
          obtain ⟨ab', ao', asp'⟩ := a'
          simp only at s2 hbl hor
          subst s2; subst hbl
          have hcap' : p.off ≤ ao' ∧ ao' + sc' * ei.size ≤ p.off + p.room ∧ (0 < sc → ao' = p.off + a.off) := by
            have hz : p.sz ≤ p.room := R.room
            rw [hpes] at hor
            rcases hor with ⟨q3, q4, q5 | ⟨q5, q6, q7⟩⟩ | ⟨q3, q4 | ⟨q4, q5⟩⟩
            · omega
            · exact ⟨by omega, by omega, fun _ => q4⟩
            · omega
            · exact ⟨by omega, by omega, fun h => by omega⟩
          have hfits := R.fits
          have hmul : need * ei.size ≤ sc' * ei.size := Nat.mul_le_mul_right _ hcap
          have hlo := ho.length
          have hln := hn.length
          have hnl' : olds.length + news.length = need * ei.size := by rw [← hnl]; simp
          rw [Addr.add_is]
          have hst : (storeCells ⟨p.blk, ao' + sl * ei.size, none⟩ news').run P w = .ok () (w.setCells p.blk (ao' + sl * ei.size) news') := by
            refine run_storeCells_cells (P := P) p.blk (ao' + sl * ei.size) news' 0 w (fun j hj => ?_) (fun j hj => ?_) hone
            · rw [cell_of hwc]; simp; omega
            · exact frozen_of hwc R.hard (by omega)
          obtain ⟨cs', e1, e2, e3, e4, e5, e6, e7, e8⟩ := setCells_heap p.blk t fr news' (ao' + sl * ei.size) cs w hwc (by omega)
          -- the new row on the machine
          unfold newRowT at hr
          rw [forceN_is] at hr
          obtain ⟨bl2, hbl2, hk2⟩ := newBlk_ok hr
          cases hk2
          let p' : Pl := { blk := p.blk, off := ao', sz := need * ei.size, room := p.off + p.room - ao', es := ei.size }
          have hB : RelB ty (φ.put h.next p') p' (.cells tr n (e0 + 1)) ((w.setCells p.blk (ao' + sl * ei.size) news').heap[p'.blk]?) := by
            show RelB ty (φ.put h.next p') p' _ ((w.setCells p.blk (ao' + sl * ei.size) news').heap[p.blk]?)
            rw [e1, hN, hnl]
            refine .cells {
              kind := ⟨rfl, .inr ⟨e0, ei, rfl, hty, rfl⟩⟩, room := (by show need * ei.size ≤ p.off + p.room - ao'; omega), fits := (by show ao' + (p.off + p.room - ao') ≤ cs'.size; omega),
              loose := .inl (by rw [e2]; exact R.hard), cell := fun j hj => ?_ }
            have hj2 : j < (olds ++ news).length := by omega
            rw [hT j hj2]
            show ∃ v, cs'[ao' + j]? = some v ∧ _
            have hD : (olds ++ news).getD j undef = (olds ++ news)[j] := by
              rw [List.getD_eq_getElem?_getD, List.getElem?_eq_getElem hj2]; rfl
            rw [hD]
            obtain ⟨u', hu, hru⟩ := hrel.get j _ (List.getElem?_eq_getElem hj2)
            refine ⟨u', ?_, hru.mono (Phi.put_le H.none_next)⟩
            rw [e3]
            rcases Nat.lt_or_ge j olds.length with hjo | hjo
            · rw [if_neg (by omega)]
              rw [List.getElem?_append_left (by omega)] at hu
              have hsc0 : 0 < sc := by
                rcases Nat.eq_zero_or_pos sc with q | q
                · have : sl = 0 := by omega
                  rw [this, Nat.zero_mul] at hol; omega
                · exact q
              obtain ⟨p1, cs1, t1, fr1, hp1, hw1, hc1⟩ := hcell a _ rfl rfl hsc0
              rw [hp] at hp1; cases hp1
              rw [hwc] at hw1; cases hw1
              rw [hcap'.2.2 hsc0]
              exact hc1 j u' hu
            · rw [if_pos (by omega)]
              rw [List.getElem?_append_right (by omega)] at hu
              rw [← hu]; congr 1; omega
          have hnlive : ∀ j q, φ j = some q → Live ({ next := h.next, low := minN h.low a.block, high := maxN h.high a.block, mark := h.mark, bl := bl } : Hp) j → q.blk ≠ p'.blk := by
            intro j q hq hl hqb
            have hl' : bl.get j ≠ .dead := hl
            rw [BT.live_set hkill] at hl'
            split at hl'
            · exact hl' rfl
            · rename_i hjb
              exact hjb (H.inj j a.block q p hq hp (hE _) (hE _) hl' hlive (.inr (H.notInp hp h256)) hqb)
          have H2 := Hk.new (lo := minN h.low a.block) (hi := maxN h.high a.block) (mk := h.mark) (w' := w.setCells p.blk (ao' + sl * ei.size) news') (p := p') hbl2 (Nat.le_of_eq e4.symm) (by rw [e4]; exact (H.dom _ _ hp).2) hnlive (fun k _ hk => e5 k hk) hB
          refine ⟨_, _, hst, ?_, H2, Evo.grow H (H.notInp hp h256) rfl hp hlive hkill hbl2 rfl e4 e5 e6 e7 e8⟩
          refine .slice (Nat.le_refl _) ⟨rfl, rfl, p', Phi.put_self _ _ _, rfl, .inl ⟨hneed0, rfl, .inr ⟨?_, hcap, ?_⟩⟩⟩
          · show 0 + need * ei.size = need * ei.size; omega
          · show 0 + sc' * ei.size ≤ p.off + p.room - ao'; omega
      · rename_i hend
        refine real ?_ hr
        rcases hor with ⟨q3, q4, q5 | ⟨q5, q6, q7⟩⟩ | ⟨q3, _⟩
        · exact q5
        · exfalso
          unfold atEnd at hend
          cases sc with
          | zero => omega
          | succ n =>
            simp only at hend
            have : Nat.beq (Nat.add a.off (Nat.mul (n + 1) ei.size)) s = true := nat_beq.2 (by rw [← hkind.1, ← q5, hpes]; rfl)
            rw [this] at hend; cases hend
        · exfalso
          subst q3
          cases hend
end
end Go.Proofs.Ytkafejncffinmaa
