/-
  append: as the model says it.
-/
import Derived.Test.YtkafejncffinmaaApp
set_option linter.unusedSimpArgs false
set_option linter.unusedVariables false
namespace Go.Proofs.Ytkafejncffinmaa
open Go

section
variable {P : Program} {ty : TTy} {φ : Phi} {E : Nat → Prop} {h h' : Hp} {w : World} {F : CallF} {e : Env} {v : Value}

theorem growF_is {esize en : Nat} {base : Option Addr} {sc need : Nat} {cs : List Value} (hr : growF esize en base sc need cs h = .ok v h') :
    ∃ (t : VT) (m : Nat), (∀ j, j < cs.length → t.get j = cs.getD j undef) ∧ m = cs.length ∧ growT esize en base sc need t m h = .ok v h' := by
  unfold growF at hr
  split at hr
  case h_2 => cases hr
  rename_i c hset
  exact ⟨c, _, setAll_new hset, lenL_is _, hr⟩

open Classical in
/-- setting the new cells alone is copying the row -/
theorem growA_is {esize en : Nat} {base : Option Addr} {sl sc need : Nat} {news : List Value}
    (hr : growA esize en base sl sc need news h (srcCells h esize (.slice base sl sc) sl fun olds => growF esize en base sc need (olds ++ news) h) = .ok v h') :
    ∃ G : List Value → R, srcCells h esize (.slice base sl sc) sl G = .ok v h' ∧ ∀ olds, G olds = .ok v h' → ∃ (t : VT) (m : Nat), (∀ j, j < (olds ++ news).length → t.get j = (olds ++ news).getD j undef) ∧
      m = (olds ++ news).length ∧ growT esize en base sc need t m h = .ok v h' := by
  have slow : srcCells h esize (.slice base sl sc) sl (fun olds => growF esize en base sc need (olds ++ news) h) = .ok v h' →
      ∃ G : List Value → R, srcCells h esize (.slice base sl sc) sl G = .ok v h' ∧ ∀ olds, G olds = .ok v h' → ∃ (t : VT) (m : Nat), (∀ j, j < (olds ++ news).length → t.get j = (olds ++ news).getD j undef) ∧
        m = (olds ++ news).length ∧ growT esize en base sc need t m h = .ok v h' := fun hr => ⟨_, hr, fun olds h => growF_is h⟩
  unfold growA at hr
  split at hr
  · exact slow hr
  · rename_i _ a
    split at hr
    · rename_i hoff
      split at hr
      · rename_i c sz ec hrow
        split at hr
        · rename_i hb
          have hsz : sz = sl * esize := nat_beq.1 hb
          split at hr
          case h_2 => cases hr
          rename_i t hset
          refine ⟨fun olds => if olds = rowL c 0 sz then growT esize en (some a) sc need t (Nat.add sz (lenL news)) h else .no, ?_, fun olds ho => ?_⟩
          · unfold srcCells
            simp only [hrow, hoff]
            have hle : Nat.ble (Nat.add 0 (Nat.mul sl esize)) sz = true := nat_ble.2 (by show 0 + sl * esize ≤ sz; omega)
            rw [hle, getN_is, List.append_nil]
            have : Nat.mul sl esize = sz := hsz.symm
            rw [this]
            simp only [cond_true, if_true]
            exact hr
          · by_cases he : olds = rowL c 0 sz
            · simp only [he, if_true] at ho
              subst he
              refine ⟨t, _, fun j hj => ?_, ?_, ho⟩
              · have hl : (rowL c 0 sz).length = sz := rowL_length c 0 sz
                rw [setAll_get _ _ _ _ hset j, List.getD_eq_getElem?_getD (l := rowL c 0 sz ++ news)]
                rw [List.length_append, hl] at hj
                rcases Nat.lt_or_ge j sz with hjs | hjs
                · rw [if_neg (by omega), List.getElem?_append_left (by omega)]
                  simp [rowL, hjs]
                · rw [if_pos (by omega), List.getElem?_append_right (by omega), hl, ← List.getD_eq_getElem?_getD]
              · rw [List.length_append, rowL_length, lenL_is]; rfl
            · simp only [he, if_false] at ho; cases ho
        · exact slow hr
      · exact slow hr
    · exact slow hr

/-- what append does behind its arguments' lengths -/
def appendBody (elem : TypeId) (size : Nat) (base : Option Addr) (s : Value) (sLen sCap n : Nat) (zeros : Bool) (x : Value) (appended : Sem (Array Value)) : Sem Value := do
  let need := sLen + n
  if need ≤ sCap then
    let new ← appended
    if let some a := base then storeCells (a.add (sLen * size)) new.toList
    pure (.slice base need sCap)
  else
    if (need : Int) > IntKind.i64.max ∧ (zeros ∨ (← typeInfo elem).bytes = 0) then runtimePanic (.error "growslice: len out of range")
    if Builtin.nextslicecap need sCap * (← typeInfo elem).bytes > 2 ^ 48 then (if zeros then runtimePanic (.error "growslice: len out of range") else do
      if !(← Builtin.mayShare size sLen n base x) then mark .noRoom
      unsupported (.resourceLimit "append: a slice or a string whose bytes no memory bears"))
    let newCap ← choose (.appendCap need sCap elem)
    askRoom (newCap * (← typeInfo elem).bytes)
    let old ← Builtin.firstCells size sLen s
    let new ← appended
    let rest := Builtin.zeroCells (← zeroValue elem).cells (newCap - need)
    pure (.slice (some (← Go.newRow elem (old ++ new ++ rest))) need newCap)

theorem appendBody_ok (H : RelW ty φ E h w) (hE : ∀ b, ¬ E b) {en : Nat} {ei : TI} (hty : ty.get en = some ei) (TE : TyOk P en ei) (hes : 0 < ei.size) (hz : ei.zero.length = ei.size)
    {base base' : Option Addr} {sl sc sc' n : Nat} (hs : RelV φ (.slice base sl sc) (.slice base' sl sc')) {zeros : Bool} {x' : Value} {appended : Sem (Array Value)} {news news' : List Value}
    (hn : RelL φ news news') (hnl : news.length = n * ei.size) (happ : ∀ w' : World, w'.heap = w.heap → appended.run P w' = .ok ⟨news'⟩ w')
    (hr : (∃ k, sl + n ≤ sc ∧ k = (match base with
        | none => (.ok (.slice none (sl + n) sc) h : R)
        | some a => storeL (addOff a (sl * ei.size)) news h fun h => .ok (.slice (some a) (sl + n) sc) h) ∧ k = .ok v h') ∨
      (sc < sl + n ∧ Nat.ble (Nat.mul (Nat.succ (sl + n)) (Nat.succ ei.bytes)) most = true ∧ allOne news = true ∧
        ∃ G : List Value → R, srcCells h ei.size (.slice base sl sc) sl G = .ok v h' ∧ ∀ olds, G olds = .ok v h' → ∃ (t : VT) (m : Nat), (∀ j, j < (olds ++ news).length → t.get j = (olds ++ news).getD j undef) ∧
          m = (olds ++ news).length ∧ growT ei.size en base sc (sl + n) t m h = .ok v h')) :
    Gives ty φ E h w v h' ((appendBody en ei.size base' (.slice base' sl sc') sl sc' n zeros x' appended).run P w) := by
  obtain ⟨inf, hinf, hsz, hbt, _⟩ := TE.info
  obtain ⟨z, _, hzr, hzc, hzp⟩ := TE.zeroOk hz
  have hzs : z.cells.size = ei.size := by rw [← hz, ← hzc]; simp
  rcases hr with ⟨k, hle, rfl, hr⟩ | ⟨hlt, hmost, hone, G, hr, hG⟩
  · cases hs with
    | slice0 =>
      cases hr
      have : n = 0 := by omega
      subst this
      have key : (appendBody en ei.size none (.slice none 0 0) 0 0 0 zeros x' appended).run P w = .ok (.slice none 0 0) w := by
        simp only [appendBody, Nat.le_refl, if_true, Sem.run_bind, happ w rfl, Result.andThen_ok, Sem.run_pure]
      rw [key]; exact .same H .slice0
    | @slice a a' _ _ _ hlc hs =>
      simp only at hr
      have h0 : sc = 0 → news = [] := fun h0 => List.length_eq_zero_iff.1 (by
        have : n = 0 := by omega
        rw [hnl, this, Nat.zero_mul])
      obtain ⟨h1, w1, hk, hrun, H1, ev⟩ := storeS_ok (P := P) H hE hs h0 hr hn
      cases hk
      have hcc : sl + n ≤ sc' := Nat.le_trans hle hs.le
      have key : (appendBody en ei.size (some a') (.slice (some a') sl sc') sl sc' n zeros x' appended).run P w = .ok (.slice (some a') (sl + n) sc') w1 := by
        simp only [appendBody, hcc, if_true, Sem.run_bind, happ w rfl, Result.andThen_ok, hrun, Sem.run_pure]
      rw [key]
      exact ⟨_, _, φ, rfl, .slice hle hs, H1, ev⟩
  · have hs0 := hs
    obtain ⟨olds, olds', hr, ho, hrun, hl1, hl2, hcell⟩ := srcCells_ok (P := P) H (fun _ _ _ _ => hE _) hs hr (fun m hm => by cases hm; exact Nat.le_refl _)
    obtain ⟨tr, tn, hT, hN, hr⟩ := hG olds hr
    have hone' := allOne_rel hn hone
    obtain ⟨hm1, hm2⟩ := most_ok hmost
    have hol : olds.length = sl * ei.size := by
      rw [← ho.length]
      cases base' with
      | none => cases hs; have := hrun w rfl; simp only [Builtin.firstCells, Sem.run_pure] at this; cases this; simp
      | some a' => exact hl1 a' sl sc' rfl
    have hnl2 : (olds ++ news).length = (sl + n) * ei.size := by rw [List.length_append, hol, hnl, Nat.add_mul]
    obtain ⟨hfar, hnear⟩ := growT_ok (P := P) H hE hty hes hs hlt ho hn hol hnl2 hone' (fun a a' ha ha' hpos => hcell a sl sc (by rw [ha]) hpos) hT hN hr
    rcases Nat.lt_or_ge sc' (sl + n) with hroom | hroom
    · -- the model makes a new row
      let q : Question := .appendCap (sl + n) sc' en
      let c : Nat := q.cut (w.tape w.drawn q)
      let w1 : World := { w with drawn := w.drawn + 1 }
      have hc : sl + n ≤ c := Nat.le_add_right _ _
      have hrl : (repL z.cells.toList (c - (sl + n))).length = (c - (sl + n)) * ei.size := by rw [repL_length]; simp [hzs]
      obtain ⟨ψ, hv, H2, ev⟩ := hfar c (repL z.cells.toList (c - (sl + n))) hc hrl { w1 with heap := w.heap.push (.cells ⟨(olds' ++ news') ++ repL z.cells.toList (c - (sl + n))⟩ en) } hroom rfl rfl rfl rfl
      have hbig : ¬ ((sl + n : Nat) : Int) > IntKind.i64.max := by
        have : IntKind.i64.max = 9223372036854775807 := by decide
        rw [this]; omega
      have hnx : ¬ (Builtin.nextslicecap (sl + n) sc' * ei.bytes > 2 ^ 48) := by
        have h1 := next_le hroom
        have h2 : Builtin.nextslicecap (sl + n) sc' * ei.bytes ≤ (2 * (sl + n) + 192) * ei.bytes := Nat.mul_le_mul_right _ h1
        have h3 : (2 * (sl + n) + 192) * ei.bytes ≤ (192 * (sl + n + 1)) * (ei.bytes + 1) := Nat.mul_le_mul (by omega) (by omega)
        have h4 : (192 * (sl + n + 1)) * (ei.bytes + 1) = 192 * ((sl + n + 1) * (ei.bytes + 1)) := by rw [Nat.mul_assoc]
        omega
      have hnle : ¬ (sl + n ≤ sc') := by omega
      have key : (appendBody en ei.size base' (.slice base' sl sc') sl sc' n zeros x' appended).run P w = .ok (.slice (some ⟨w.heap.size, 0, none⟩) (sl + n) c)
          { w1 with heap := w.heap.push (.cells ⟨(olds' ++ news') ++ repL z.cells.toList (c - (sl + n))⟩ en) } := by
        have ho1 := hrun w1 rfl
        have hn1 := happ w1 rfl
        have hforced : q.forced = false := rfl
        simp only [appendBody, hnle, if_false, Sem.run_bind, run_typeInfo _ hinf, Result.andThen_ok, hbig, false_and, Sem.run_pure, hbt, hnx, Sem.run_ite, run_choose, hforced, Bool.false_eq_true, run_askRoom]
        show ((Builtin.firstCells ei.size sl (.slice base' sl sc')).run P w1).andThen _ = _
        rw [ho1]
        simp only [Result.andThen_ok]
        show (appended.run P w1).andThen _ = _
        rw [hn1]
        have earr : ∀ a b : List Value, (⟨a⟩ : Array Value) ++ (⟨b⟩ : Array Value) = ⟨a ++ b⟩ := fun a b => by apply Array.ext'; simp
        simp only [Result.andThen_ok, hzr, zeroCells_is, Go.newRow, Sem.run_bind, run_newObj, Sem.run_pure, earr]
        rfl
      rw [key]
      exact ⟨_, _, ψ, rfl, hv, H2, ev⟩
    · -- the model has room
      cases base' with
      | none => cases hs; omega
      | some a' =>
        obtain ⟨w', ψ, hst, hv, H2, ev⟩ := hnear a' rfl hroom
        have key : (appendBody en ei.size (some a') (.slice (some a') sl sc') sl sc' n zeros x' appended).run P w = .ok (.slice (some a') (sl + n) sc') w' := by
          simp only [appendBody, hroom, if_true, Sem.run_bind, happ w rfl, Result.andThen_ok, hst, Sem.run_pure]
        rw [key]
        exact ⟨_, _, ψ, rfl, hv, H2, ev⟩

theorem append_slice_run {ats : Array TypeId} {dt st t el : TypeId} (h0 : ats[0]? = some dt) (h1 : ats[1]? = some st) {ti xi : TI} (T : TyOk P dt ti) (hk : ti.k = .slice el) (TX : TyOk P st xi) (hx : (∃ q, xi.k = .slice q) ∨ xi.k = .string) {ei : TI} (TE : TyOk P el ei) {base : Option Addr} {sl sc n : Nat} {x : Value}
    (hn : (Builtin.lenOf x).run P w = .ok n w) :
    (Builtin.append_ ats t #[.slice base sl sc, x]).run P w = (appendBody el ei.size base (.slice base sl sc) sl sc n false x (Builtin.firstCells ei.size n x)).run P w := by
  obtain ⟨d, hd, hkd⟩ := T.desc
  rw [hk] at hkd
  cases hkd
  obtain ⟨dx, hdx, hkx⟩ := TX.desc
  rcases hx with ⟨q, hx⟩ | hx <;> rw [hx] at hkx <;> cases hkx <;>
  · unfold Builtin.append_ appendBody
    simp only [Sem.run_bind, hd, Result.andThen_ok, TE.size, Sem.run_pure, h0, h1, List.getElem?_toArray, List.getElem?_cons_zero, List.getElem?_cons_succ, hdx, Bool.false_eq_true, if_false, hn, Bool.not_false, if_true]
    rfl
theorem oAppend_ok (H : RelW ty φ E h w) (hE : ∀ b, ¬ E b) {s x : O} {s' x' : Value} {ats : Array TypeId} {dt st t el : TypeId} (h0 : ats[0]? = some dt) (h1 : ats[1]? = some st) {ti xi ei : TI} (T : TyOk P dt ti) (hk : ti.k = .slice el) (TX : TyOk P st xi) (hxk : (∃ q, xi.k = .slice q) ∨ xi.k = .string)
    (hty : ty.get el = some ei) (TE : TyOk P el ei) (hes : 0 < ei.size) (hz : ei.zero.length = ei.size)
    (hs : RelV φ (s e) s') (hx : RelV φ (x e) x') (hr : oAppend ei.size ei.bytes el s x F e h = .ok v h') : Gives ty φ E h w v h' ((Builtin.append_ ats t #[s', x']).run P w) := by
  unfold oAppend appendF at hr
  split at hr
  case h_2 => cases hr
  rename_i base sl sc hse
  rw [hse] at hs
  split at hr
  case h_2 => cases hr
  rename_i n hn
  obtain ⟨news, news', hr, hnr, hrun, hl1, hl2, _⟩ := srcCells_ok (P := P) H (fun _ _ _ _ => hE _) hx hr (fun m hm => by rw [hn] at hm; cases hm; exact Nat.le_refl _)
  rw [forceN_is] at hr
  have hlen := lenV_rel (P := P) (w := w) hx hn
  have hb : ∃ base' sc', s' = .slice base' sl sc' := by
    cases hs
    · exact ⟨_, _, rfl⟩
    · exact ⟨_, _, rfl⟩
  obtain ⟨base', sc', rfl⟩ := hb
  rw [append_slice_run h0 h1 T hk TX hxk TE hlen]
  have hnl : news.length = n * ei.size := by
    rw [← hnr.length]
    cases x' with
    | string s => obtain ⟨q1, q2⟩ := hl2 s rfl; rw [q1, q2, Nat.mul_one]
    | slice a l c =>
      cases a with
      | some a => exact hl1 a l c rfl
      | none =>
        have := hrun w rfl
        simp only [Builtin.firstCells, Sem.run_pure] at this
        cases this
        have hn0 : n = 0 := by
          generalize x e = xv at hx hn
          cases hx
          · unfold lenV at hn; cases hn; rfl
          · unfold lenV at hn; cases hn
        rw [hn0]; simp
    | _ => have := hrun w rfl; simp only [Builtin.firstCells] at this; cases this
  refine appendBody_ok (P := P) H hE hty TE hes hz hs hnr hnl hrun ?_
  split at hr
  · rename_i hb
    refine .inl ⟨_, nat_ble.1 hb, rfl, ?_⟩
    exact hr
  · rename_i hb
    obtain ⟨hm, hr⟩ := bif_ok hr
    obtain ⟨hone, hr⟩ := bif_ok hr
    refine .inr ⟨?_, hm, hone, growA_is hr⟩
    rcases Nat.lt_or_ge sc (sl + n) with h | h
    · exact h
    · exact absurd (nat_ble.2 (show Nat.add sl n ≤ sc from h)) (by rw [hb]; simp)

theorem append_zero_run {ats : Array TypeId} {dt st t el : TypeId} (h0 : ats[0]? = some dt) (h1 : ats[1]? = some st) {ti xi : TI} (T : TyOk P dt ti) (hk : ti.k = .slice el) (TX : TyOk P st xi) {q : IntKind} (hx : xi.k = .int q) {ei : TI} (TE : TyOk P el ei) {base : Option Addr} {sl sc n : Nat} {q' : IntKind}
    (hn1 : n ≤ 1099511627776) (hn2 : n * ei.bytes ≤ 1099511627776) :
    (Builtin.append_ ats t #[.slice base sl sc, .int q' (n : Nat)]).run P w = (appendBody el ei.size base (.slice base sl sc) sl sc n true (.int q' (n : Nat))
      (if n * ei.size = 0 then pure #[] else do pure (Builtin.zeroCells (← zeroValue el).cells n))).run P w := by
  obtain ⟨d, hd, hkd⟩ := T.desc
  rw [hk] at hkd
  cases hkd
  obtain ⟨dx, hdx, hkx⟩ := TX.desc
  rw [hx] at hkx; cases hkx
  obtain ⟨inf, hinf, hsz, hbt, _⟩ := TE.info
  have w1 : IntKind.i64.wrap (n : Int) = n := wrap_i64 (by omega)
  have q0 : ¬ ((n : Int) < 0) := by omega
  have q1 : ¬ ((n : Int) * (ei.bytes : Int) > 2 ^ 48) := by rw [← Int.natCast_mul]; omega
  unfold Builtin.append_ appendBody
  simp only [Sem.run_bind, hd, Result.andThen_ok, TE.size, Sem.run_pure, List.getElem?_toArray, List.getElem?_cons_zero, List.getElem?_cons_succ, h0, h1, hdx, if_true, asInt, asIntOf, w1, q0, if_false, run_typeInfo _ hinf, hbt, q1, Int.toNat_natCast, Bool.not_true, Bool.false_eq_true]
  rfl
theorem oAppendZ_ok (H : RelW ty φ E h w) (hE : ∀ b, ¬ E b) {s x : O} {s' x' : Value} {ats : Array TypeId} {dt st t el : TypeId} (h0 : ats[0]? = some dt) (h1 : ats[1]? = some st) {ti xi ei : TI} (T : TyOk P dt ti) (hk : ti.k = .slice el) (TX : TyOk P st xi) {q : IntKind} (hxk : xi.k = .int q)
    (hty : ty.get el = some ei) (TE : TyOk P el ei) (hes : 0 < ei.size) (hz : ei.zero.length = ei.size)
    (hs : RelV φ (s e) s') (hx : RelV φ (x e) x') (hr : oAppendZ ei.size ei.bytes el ei.zero s x F e h = .ok v h') : Gives ty φ E h w v h' ((Builtin.append_ ats t #[s', x']).run P w) := by
  unfold oAppendZ appendZ at hr
  split at hr
  case h_2 => cases hr
  rename_i base sl sc hse
  rw [hse] at hs
  split at hr
  case h_2 => cases hr
  rename_i n hn
  obtain ⟨q', rfl⟩ := natV_rel hx hn
  rw [forceN_is] at hr
  have hb : ∃ base' sc', s' = .slice base' sl sc' := by
    cases hs
    · exact ⟨_, _, rfl⟩
    · exact ⟨_, _, rfl⟩
  obtain ⟨base', sc', rfl⟩ := hb
  obtain ⟨hm, hr⟩ := bif_ok hr
  obtain ⟨hone, hr⟩ := bif_ok hr
  obtain ⟨hm1, hm2⟩ := most_ok hm
  have hm1' : sl + n ≤ 1099511627776 := hm1
  have hm2' : (sl + n + 1) * (ei.bytes + 1) ≤ 1099511627776 := hm2
  have hnb : n * ei.bytes ≤ (sl + n + 1) * (ei.bytes + 1) := Nat.mul_le_mul (by omega) (by omega)
  rw [append_zero_run h0 h1 T hk TX hxk TE (by omega) (by omega)]
  obtain ⟨z, _, hzr, hzc, hzp⟩ := TE.zeroOk hz
  have hzs : z.cells.size = ei.size := by rw [← hz, ← hzc]; simp
  have hrel : RelL φ (repL ei.zero n) (repL ei.zero n) := repL_rel (.plain hzp) n
  have hnl : (repL ei.zero n).length = n * ei.size := by rw [repL_length, hz]
  have hones : allOne (repL ei.zero n) = true := by
    have app : ∀ a b : List Value, allOne a = true → allOne b = true → allOne (a ++ b) = true := by
      intro a
      induction a with
      | nil => intro b _ h; exact h
      | cons u a ih =>
        intro b h1 h2
        unfold allOne at h1
        cases hu : oneCell u with
        | false => rw [hu] at h1; cases h1
        | true =>
          rw [hu] at h1
          show (bif oneCell u then allOne (a ++ b) else false) = true
          rw [hu]; exact ih b h1 h2
    have : ∀ n, allOne (repL ei.zero n) = true := by
      intro n
      induction n with
      | zero => rfl
      | succ n ih => exact app _ _ hone ih
    exact this n
  refine appendBody_ok (P := P) H hE hty TE hes hz hs hrel hnl (fun w' _ => ?_) ?_
  · by_cases h0 : n * ei.size = 0
    · rw [if_pos h0]
      have : repL ei.zero n = [] := List.length_eq_zero_iff.1 (by rw [hnl, h0])
      rw [this]; rfl
    · rw [if_neg h0]
      simp only [Sem.run_bind, hzr, Result.andThen_ok, zeroCells_is, hzc, Sem.run_pure]
  · split at hr
    · rename_i hb
      exact .inl ⟨_, nat_ble.1 hb, rfl, hr⟩
    · rename_i hb
      refine .inr ⟨?_, hm, hones, growA_is hr⟩
      rcases Nat.lt_or_ge sc (sl + n) with h | h
      · exact h
      · exact absurd (nat_ble.2 (show Nat.add sl n ≤ sc from h)) (by rw [hb]; simp)
end
end Go.Proofs.Ytkafejncffinmaa
