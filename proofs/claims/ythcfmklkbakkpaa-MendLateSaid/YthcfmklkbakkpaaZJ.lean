/-
  slices.Sort of ints as one step: the kit's contract says what the call does; it is what the machine gives.
  slices.Sort of ints of this seat is one step: the kit's contract. Printed by program (srs.py).
  THE CANONICAL MACHINE's FUNCTIONS of this seat, 'awake' a step. Printed by program (compc.py, awk.py).
  The code of functions with slots by number, and what each is at a call. Printed by program (symc.py).
  Mendings: slices as values in given blocks, what is the same, where a number stands, copies.
  Mendings on the machine: how they lie; whether they are whole, or cannot be; whether each mark is so.
-/
import Derived.Test.YthcfmklkbakkpaaZI
import Derived.Shelf.SortM.Plain
import Derived.Shelf.SortM.SortNone
set_option linter.unusedSimpArgs false
set_option linter.unusedVariables false
namespace Go.Proofs.Ythcfmklkbakkpaa
noncomputable section
open Go Go.Proofs Go.RowKit Go.Shelf Go.Sort
def JL : List Value → Option (List Int)
  | [] => some []
  | v :: l => match v with
    | .int k n => match k with
      | .i64 => match JL l with
        | some r => some (n :: r)
        | none => none
      | _ => none
    | _ => none
def leZ (x y : Int) : Bool := decide (x ≤ y)
def Lk (a : Addr) (n : Nat) (h : Hp) : R := match rowOf h a.block with
  | .ok c s e => bif Nat.ble (a.off + n) s && Nat.ble n 8796093022208 then (match JL (rowL c a.off n) with
    | some zs => CM a ((zs.mergeSort leZ).map (.int .i64)) h Co
    | none => .no) else .no
  | .no => .no
def RH (o : Option Addr) (n : Nat) (h : Hp) : R := match n with
  | 0 => .ok noRes h
  | n + 1 => match o with
    | some a => Lk a (n + 1) h
    | none => .no
def RE (args : List Value) (h : Hp) : R := match args with
  | [] => .no
  | v :: l => match l with
    | _ :: _ => .no
    | [] => match v with
      | .slice o n _ => RH o n h
      | _ => .no
def Jo : Body := ⟨[.x (fun _ => RE)], cNo⟩
structure SortSays (P : Program) (S : Nat) : Prop where
  empty : ∀ (p : Option Addr) (cap : Nat) (w : World), Calls P S #[.slice p 0 cap] w fun e w' => e = .returned (.tuple #[]) ∧ w' = w
  full : ∀ (blk off cap : Nat) (zs : List Int) (w : World), Holds (Value.int .i64) w blk off zs.toArray → blk < w.heap.size → zs.length < 4611686018427387904 →
    Calls P S #[.slice (some ⟨blk, off, none⟩) zs.length cap] w fun e w' => e = .returned (.tuple #[]) ∧ ∃ n os, w' = grow (putRow (Value.int .i64) (Sort.ahead w n) blk off (zs.mergeSort fun x y => decide (x ≤ y)).toArray) os
theorem Kw : ∀ {l : List Value} {zs : List Int}, JL l = some zs → l = zs.map (.int .i64)
  | [], zs, h => by cases h; rfl
  | v :: l, zs, h => by
    unfold JL at h
    split at h
    · split at h
      · split at h
        · rename_i r hr
          cases h
          rw [Kw hr]; rfl
        · cases h
      · cases h
    · cases h
theorem Kx : ∀ zs : List Int, JL (zs.map (.int .i64)) = some zs
  | [] => rfl
  | z :: zs => by
    show (match JL (zs.map (.int .i64)) with | some r => some (z :: r) | none => none) = _
    rw [Kx zs]
theorem LX (enc : Int → Value) {w : World} {b off : Nat} {d : Array Int} {cs : Array Value} {t : TypeId} {fr : Nat × Nat} (hw : w.heap[b]? = some (.cells cs t fr)) :
    (putRow enc w b off d).heap[b]? = some (.cells (putCells enc off d cs) t fr) ∧ ∀ k, k ≠ b → (putRow enc w b off d).heap[k]? = w.heap[k]? := by
  refine ⟨by simp [putRow, mapBlock, Array.getElem?_modify, hw, onCells], fun k hk => ?_⟩
  simp only [putRow, mapBlock, Array.getElem?_modify]
  rw [if_neg (Ne.symm hk)]
theorem F5 (enc : Int → Value) (off : Nat) (d : Array Int) (cs : Array Value) : (putCells enc off d cs).size = cs.size := by simp [putCells]
theorem LW (enc : Int → Value) (off : Nat) (d : List Int) (cs : Array Value) (hd : off + d.length ≤ cs.size) (j : Nat) : (putCells enc off d.toArray cs)[j]? = if off ≤ j ∧ j < off + d.length then (d.map enc)[j - off]? else cs[j]? := by
  unfold putCells
  rw [Array.getElem?_mapIdx]
  by_cases hj : off ≤ j ∧ j < off + d.length
  · have h1 : j < cs.size := by omega
    have h2 : j - off < d.length := by omega
    rw [if_pos hj, Array.getElem?_eq_getElem h1]
    simp only [Option.map_some, List.size_toArray, if_pos hj, List.getElem?_map, List.getElem?_eq_getElem h2]
    rw [getElem!_pos _ _ (by simpa using h2)]
    simp
  · rw [if_neg hj]
    simp only [List.size_toArray, if_neg hj]
    cases cs[j]? <;> rfl
section
variable {P : Program} {ty : TTy} {φ : Phi} {E : Nat → Prop} {h h' : Hp} {w w' : World} {v : Value}
theorem RelW.below' (H : RelW ty φ E h w) (hb : Below w.heap.size w w') : RelW ty φ E h w' ∧ Evo φ h w φ h w' :=
  ⟨{ dom := fun i p e => ⟨(H.dom i p e).1, Nat.lt_of_lt_of_le (H.dom i p e).2 hb.size⟩
     inj := H.inj
     row := fun i p e hE => (by rw [hb.block _ (H.dom i p e).2]; exact H.row i p e hE)
     fresh := H.fresh
     kind := H.kind
     inp := H.inp },
   { le := .refl _
     new := fun _ _ e => .inl e
     next := Nat.le_refl _
     size := hb.size
     tape := hb.tape
     os := hb.os
     output := hb.output
     frame := fun k hk _ => hb.block k hk
     back := fun i p e hl _ => ⟨i, p, e, hl, rfl, rfl, .inl rfl⟩
     kept := fun _ _ _ => rfl
     low := Nat.le_refl _
     high := Nat.le_refl _
     shape := fun _ _ => .refl _
     only := fun _ _ _ => rfl
     all := fun _ h1 h2 => absurd h2 (Nat.not_lt.2 h1) }⟩
theorem RF {S : Nat} (hc : SortSays P S) (H : RelW ty φ nil h w) {a a' : Addr} {n c c' : Nat} (hn : n ≤ c) (hs : RelS φ a c a' c') (h0 : 0 < n) (hr : Lk a n h = .ok v h') :
    Calls P S #[.slice (some a') n c'] w fun en w' => ∃ v' ψ, en = .returned v' ∧ RelV ψ v v' ∧ RelW ty ψ nil h' w' ∧ Evo φ h w ψ h' w' := by
  have ha := Fw hn hs h0
  obtain ⟨s1, s2, p, hp, e1, e2⟩ := ha
  obtain ⟨ab, ao, asp⟩ := a'
  simp only at s2 e1 e2
  subst s2; subst e1; subst e2
  unfold Lk at hr
  split at hr
  case h_2 => cases hr
  rename_i cc s e hrow
  obtain ⟨hle, hr⟩ := BZ hr
  rw [Bool.and_eq_true] at hle
  have hle1 : a.off + n ≤ s := Az.1 hle.1
  have hle2 : n ≤ 8796093022208 := Az.1 hle.2
  split at hr
  case h_2 => cases hr
  rename_i zs hzs
  have hzs := Kw hzs
  have hlen : zs.length = n := by
    have := congrArg List.length hzs
    rw [List.length_map] at this
    rw [← this]
    unfold rowL
    simp
  obtain ⟨cs, t, fr, hw, R⟩ := H.rowAt hp (fun x => x) hrow
  have hsz := R.sz
  have hroom := R.room
  have hfits := R.fits
  have hblk : p.blk < w.heap.size := (H.dom _ _ hp).2
  have hH : Holds (Value.int .i64) w p.blk (p.off + a.off) zs.toArray := fun j hj => by
    have hj : j < zs.length := by simpa using hj
    obtain ⟨u, hu1, hu2⟩ := R.cell (a.off + j) (by omega)
    have e3 : cc.get (a.off + j) = .int .i64 (zs[j]) := by
      have := congrArg (fun l => l[j]?) hzs
      simp only [List.getElem?_map, List.getElem?_eq_getElem hj] at this
      unfold rowL at this
      rw [List.getElem?_map, List.getElem?_range (by omega)] at this
      exact Option.some.inj this
    rw [e3] at hu2
    cases hu2
    refine ⟨?_, R.free hw (by omega) (by omega)⟩
    rw [Fi hw, Nat.add_assoc, hu1, getElem!_pos _ _ (by simpa using hj)]
    simp
  have hcl := hc.full p.blk (p.off + a.off) c' zs w hH hblk (by omega)
  rw [hlen] at hcl
  refine hcl.mono fun en w' ⟨hen, k, os, hw'⟩ => ?_
  unfold CM at hr
  rw [hrow] at hr
  obtain ⟨hle3, hr⟩ := BZ hr
  obtain ⟨hone, hr⟩ := BZ hr
  split at hr
  case h_2 => cases hr
  rename_i c2 hset
  obtain ⟨bl, h256, hbl, hk⟩ := De hr
  cases hk
  have hl : Live h a.block := by
    unfold Live; rw [CT hrow]; intro hd; cases hd
  have hml : (zs.mergeSort leZ).length = n := by rw [List.length_mergeSort, hlen]
  obtain ⟨g1, g2⟩ := LX (.int .i64) (off := p.off + a.off) (d := (zs.mergeSort leZ).toArray) hw
  have hB : RelB ty φ p (.cells c2 s e) ((putRow (.int .i64) w p.blk (p.off + a.off) (zs.mergeSort leZ).toArray).heap[p.blk]?) := by
    rw [g1]
    refine .cells { kind := R.kind, room := R.room, fits := by rw [F5]; exact R.fits, loose := by rw [F5]; exact R.loose, cell := fun j hj => ?_ }
    rw [EC _ cc a.off c2 hset j, LW _ _ _ _ (by omega)]
    rw [List.length_map]
    by_cases hin : a.off ≤ j ∧ j < a.off + (zs.mergeSort leZ).length
    · rw [if_pos hin, if_pos (by omega)]
      have hj' : p.off + j - (p.off + a.off) = j - a.off := by omega
      have hj2 : j - a.off < ((zs.mergeSort leZ).map (Value.int .i64)).length := by rw [List.length_map]; omega
      rw [hj', List.getD_eq_getElem?_getD, List.getElem?_eq_getElem hj2]
      refine ⟨_, rfl, ?_⟩
      rw [List.getElem_map]
      exact .int _ _
    · rw [if_neg hin, if_neg (by omega)]
      exact R.cell j hj
  have hb : Below (putRow (.int .i64) w p.blk (p.off + a.off) (zs.mergeSort leZ).toArray).heap.size (putRow (.int .i64) w p.blk (p.off + a.off) (zs.mergeSort leZ).toArray) w' := by
    subst hw'
    refine ⟨rfl, rfl, rfl, ?_, fun j hj => ?_⟩
    · show _ ≤ (((putRow (.int .i64) w p.blk (p.off + a.off) (zs.mergeSort leZ).toArray).heap) ++ os).size
      rw [Array.size_append]; omega
    · show (((putRow (.int .i64) w p.blk (p.off + a.off) (zs.mergeSort leZ).toArray).heap) ++ os)[j]? = _
      rw [Array.getElem?_append_left hj]
  have H1 := H.put (fun x => x) h256 hp hl hbl (size_putRow (.int .i64) w p.blk (p.off + a.off) (zs.mergeSort leZ).toArray) g2 hB (lo := CQ h.low a.block) (hi := DK h.high a.block) (mk := h.mark)
  have E1 : Evo φ h w φ _ (putRow (.int .i64) w p.blk (p.off + a.off) (zs.mergeSort leZ).toArray) := .put (H.notInp hp h256) hp hl hbl (by rw [CT hrow]; exact .inr ⟨rfl, rfl⟩) (size_putRow (.int .i64) w p.blk (p.off + a.off) (zs.mergeSort leZ).toArray) g2 rfl rfl rfl
  obtain ⟨H2, E2⟩ := H1.below' hb
  exact ⟨_, φ, hen, .tuple .nil, H2, E1.trans E2⟩
theorem M7 {S : Nat} (hS : ∃ fn, P.funcs[S]? = some fn ∧ fn.name ≠ "runtime.NumGoroutine" ∧ fn.body.isNone = false) (hc : SortSays P S) : Ji P ty S Jo := fun F args h v h' _ hr => ⟨hS, fun φ w args' hrel H => by
  have hr : RE args h = .ok v h' := hr
  unfold RE at hr
  split at hr
  · cases hr
  split at hr
  · cases hr
  split at hr
  case h_2 => cases hr
  rename_i o n c _
  cases hrel with
  | cons hv hn =>
  cases hn
  unfold RH at hr
  cases n with
  | zero =>
    cases hr
    cases hv with
    | slice0 => exact (hc.empty none 0 w).mono fun en w' ⟨hen, hw'⟩ => ⟨_, φ, hen, .tuple .nil, hw' ▸ H, hw' ▸ Evo.refl φ h w⟩
    | slice hn2 hs => exact (hc.empty _ _ w).mono fun en w' ⟨hen, hw'⟩ => ⟨_, φ, hen, .tuple .nil, hw' ▸ H, hw' ▸ Evo.refl φ h w⟩
  | succ n =>
    cases o with
    | none => cases hr
    | some a =>
      cases hv with
      | slice hn2 hs => exact RF hc H hn2 hs (Nat.succ_pos n) hr⟩
end
end
end Go.Proofs.Ythcfmklkbakkpaa
set_option maxRecDepth 100000
namespace Go.Proofs.Ythcfmklkbakkpaa
noncomputable section
open Go Go.Proofs Go.RowKit Go.Sort Go.Shelf
def K1 : Ren := ⟨fun | 5 => 50 | 8 => 61 | 7 => 60 | 19 => 77 | 20 => 78 | 10 => 68 | 11 => 69 | 12 => 70 | 13 => 71 | 14 => 72 | 15 => 73 | 16 => 74 | 17 => 75 | 18 => 76 | 30 => 86 | 31 => 87 | 32 => 88 | 33 => 89 | 34 => 90 | 35 => 91 | 40 => 100 | n => n, fun | 23 => 24 | 25 => 3 | 3 => 3 | 32 => 99 | 22 => 24 | 0 => 0 | 44 => 131 | 46 => 133 | 4 => 4 | 36 => 123 | 35 => 122 | 41 => 128 | 5 => 5 | 9 => 9 | 53 => 140 | 57 => 144 | 63 => 152 | 64 => 153 | n => n, fun n => n⟩
theorem Nl : SlLaysM.n5 Try.prog K1 where
  mixed := by kernel_rfl
  f5 := ⟨Try.f50.name, by decide, Try.func50.trans (congrArg some (by kernel_rfl))⟩
  f7 := ⟨Try.f60.name, by decide, Try.func60.trans (congrArg some (by kernel_rfl))⟩
  f8 := Try.func61.trans (congrArg some (by kernel_rfl))
  f10 := ⟨Try.f68.name, by decide, Try.func68.trans (congrArg some (by kernel_rfl))⟩
  f11 := ⟨Try.f69.name, by decide, Try.func69.trans (congrArg some (by kernel_rfl))⟩
  f12 := ⟨Try.f70.name, by decide, Try.func70.trans (congrArg some (by kernel_rfl))⟩
  f13 := ⟨Try.f71.name, by decide, Try.func71.trans (congrArg some (by kernel_rfl))⟩
  f14 := ⟨Try.f72.name, by decide, Try.func72.trans (congrArg some (by kernel_rfl))⟩
  f15 := ⟨Try.f73.name, by decide, Try.func73.trans (congrArg some (by kernel_rfl))⟩
  f16 := ⟨Try.f74.name, by decide, Try.func74.trans (congrArg some (by kernel_rfl))⟩
  f17 := ⟨Try.f75.name, by decide, Try.func75.trans (congrArg some (by kernel_rfl))⟩
  f18 := ⟨Try.f76.name, by decide, Try.func76.trans (congrArg some (by kernel_rfl))⟩
  f19 := Try.func77.trans (congrArg some (by kernel_rfl))
  f20 := Try.func78.trans (congrArg some (by kernel_rfl))
  f30 := ⟨Try.f86.name, by decide, Try.func86.trans (congrArg some (by kernel_rfl))⟩
  f31 := Try.func87.trans (congrArg some (by kernel_rfl))
  f32 := Try.func88.trans (congrArg some (by kernel_rfl))
  f33 := ⟨Try.f89.name, by decide, Try.func89.trans (congrArg some (by kernel_rfl))⟩
  f34 := ⟨Try.f90.name, by decide, Try.func90.trans (congrArg some (by kernel_rfl))⟩
  f35 := ⟨Try.f91.name, by decide, Try.func91.trans (congrArg some (by kernel_rfl))⟩
  f40 := ⟨Try.f100.name, by decide, Try.func100.trans (congrArg some (by kernel_rfl))⟩
  t0 := Try.underlying0
  a0 := Try.isAgg0
  z0 := Try.sizeOf0
  v0 := Try.zeroValue0
  t3 := Try.underlying3
  a3 := Try.isAgg3
  z3 := Try.sizeOf3
  v3 := Try.zeroValue3
  t4 := Try.underlying4
  a4 := Try.isAgg4
  z4 := Try.sizeOf4
  v4 := Try.zeroValue4
  t5 := Try.underlying5
  a5 := Try.isAgg5
  z5 := Try.sizeOf5
  v5 := Try.zeroValue5
  t9 := Try.underlying9
  a9 := Try.isAgg9
  z9 := Try.sizeOf9
  v9 := Try.zeroValue9
  t22 := Try.underlying24
  a22 := Try.isAgg24
  z22 := Try.sizeOf24
  v22 := Try.zeroValue24
  t23 := Try.underlying24
  a23 := Try.isAgg24
  z23 := Try.sizeOf24
  v23 := Try.zeroValue24
  t25 := Try.underlying3
  a25 := Try.isAgg3
  z25 := Try.sizeOf3
  v25 := Try.zeroValue3
  t32 := Try.underlying99
  a32 := Try.isAgg99
  z32 := Try.sizeOf99
  v32 := Try.zeroValue99
  t35 := Try.underlying122
  a35 := Try.isAgg122
  z35 := Try.sizeOf122
  v35 := Try.zeroValue122
  t36 := Try.underlying123
  a36 := Try.isAgg123
  z36 := Try.sizeOf123
  v36 := Try.zeroValue123
  t41 := Try.underlying128
  a41 := Try.isAgg128
  z41 := Try.sizeOf128
  v41 := Try.zeroValue128
  t44 := Try.underlying131
  a44 := Try.isAgg131
  z44 := Try.sizeOf131
  v44 := Try.zeroValue131
  t46 := Try.underlying133
  a46 := Try.isAgg133
  z46 := Try.sizeOf133
  v46 := Try.zeroValue133
  t53 := Try.underlying140
  a53 := Try.isAgg140
  z53 := Try.sizeOf140
  v53 := Try.zeroValue140
  t57 := Try.underlying144
  a57 := Try.isAgg144
  z57 := Try.sizeOf144
  v57 := Try.zeroValue144
  t63 := Try.underlying152
  a63 := Try.isAgg152
  z63 := Try.sizeOf152
  v63 := Try.zeroValue152
  t64 := Try.underlying153
  a64 := Try.isAgg153
  z64 := Try.sizeOf153
  v64 := Try.zeroValue153
theorem RG : SortSays Try.prog 50 := ⟨fun p cap W => AnyM.slices_Sort_int_none Nl p cap W, fun blk off cap ss W hH hblk hsz => AnyM.slices_Sort_int Nl blk off cap ss W hH hblk hsz⟩
theorem QH {a b : String} (h : (a == b) = false) : a ≠ b := by simpa using h
theorem dE : BV Try.prog ty 50 Jo := Or.inr (.inr (M7 ⟨Try.f50, Try.func50, QH (by kernel_rfl), rfl⟩ RG))
end
end Go.Proofs.Ythcfmklkbakkpaa
namespace Go.Proofs.Ythcfmklkbakkpaa
noncomputable section
open Go
set_option maxRecDepth 100000 in
def AK : FT := (.nd A7 (.nd A7 (.nd A7 (.nd b7 (.nd b15 (.nd b31 (.nd b63 .mt .mt) (.nd b95 .mt .mt)) (.nd b47 (.nd b79 .mt .mt) (.nd A7 .mt .mt))) (.nd b23 (.nd b39 (.nd A7 .mt .mt) (.nd A7 .mt .mt)) (.nd b55 (.nd A7 .mt .mt) .mt))) (.nd b11 (.nd b19 (.nd b35 (.nd b67 .mt .mt) (.nd b99 .mt .mt)) (.nd b51 (.nd b83 .mt .mt) (.nd A7 .mt .mt))) (.nd b27 (.nd b43 (.nd A7 .mt .mt) (.nd A7 .mt .mt)) (.nd b59 (.nd A7 .mt .mt) .mt)))) (.nd b5 (.nd b9 (.nd b17 (.nd b33 (.nd b65 .mt .mt) (.nd b97 .mt .mt)) (.nd b49 (.nd b81 .mt .mt) (.nd A7 .mt .mt))) (.nd b25 (.nd b41 (.nd A7 .mt .mt) (.nd A7 .mt .mt)) (.nd b57 (.nd A7 .mt .mt) .mt))) (.nd Gv (.nd b21 (.nd b37 (.nd A7 .mt .mt) (.nd Ro .mt .mt)) (.nd b53 (.nd b85 .mt .mt) (.nd A7 .mt .mt))) (.nd b29 (.nd b45 (.nd A7 .mt .mt) (.nd A7 .mt .mt)) (.nd b61 (.nd b93 .mt .mt) .mt))))) (.nd A7 (.nd b4 (.nd b8 (.nd b16 (.nd b32 (.nd b64 .mt .mt) (.nd b96 .mt .mt)) (.nd b48 (.nd b80 .mt .mt) (.nd A7 .mt .mt))) (.nd b24 (.nd b40 (.nd A7 .mt .mt) (.nd A7 .mt .mt)) (.nd b56 (.nd A7 .mt .mt) .mt))) (.nd b12 (.nd b20 (.nd b36 (.nd b68 .mt .mt) (.nd A7 .mt .mt)) (.nd b52 (.nd b84 .mt .mt) (.nd A7 .mt .mt))) (.nd b28 (.nd b44 (.nd A7 .mt .mt) (.nd A7 .mt .mt)) (.nd b60 (.nd b92 .mt .mt) .mt)))) (.nd b6 (.nd b10 (.nd b18 (.nd b34 (.nd b66 .mt .mt) (.nd b98 .mt .mt)) (.nd Jo (.nd b82 .mt .mt) (.nd A7 .mt .mt))) (.nd b26 (.nd b42 (.nd A7 .mt .mt) (.nd A7 .mt .mt)) (.nd b58 (.nd A7 .mt .mt) .mt))) (.nd b14 (.nd b22 (.nd b38 (.nd A7 .mt .mt) (.nd Rq .mt .mt)) (.nd b54 (.nd A7 .mt .mt) (.nd A7 .mt .mt))) (.nd b30 (.nd b46 (.nd b78 .mt .mt) (.nd A7 .mt .mt)) (.nd b62 (.nd b94 .mt .mt) .mt))))))
set_option maxRecDepth 100000 in
theorem OC : FT.All (BV Try.prog ty) AK id := ⟨BA _, ⟨BA _, ⟨BA _, ⟨o7, ⟨o15, ⟨o31, ⟨o63, trivial, trivial⟩, ⟨o95, trivial, trivial⟩⟩, ⟨o47, ⟨o79, trivial, trivial⟩, ⟨BA _, trivial, trivial⟩⟩⟩, ⟨o23, ⟨o39, ⟨BA _, trivial, trivial⟩, ⟨BA _, trivial, trivial⟩⟩, ⟨o55, ⟨BA _, trivial, trivial⟩, trivial⟩⟩⟩, ⟨o11, ⟨o19, ⟨o35, ⟨o67, trivial, trivial⟩, ⟨o99, trivial, trivial⟩⟩, ⟨o51, ⟨o83, trivial, trivial⟩, ⟨BA _, trivial, trivial⟩⟩⟩, ⟨o27, ⟨o43, ⟨BA _, trivial, trivial⟩, ⟨BA _, trivial, trivial⟩⟩, ⟨o59, ⟨BA _, trivial, trivial⟩, trivial⟩⟩⟩⟩, ⟨o5, ⟨o9, ⟨o17, ⟨o33, ⟨o65, trivial, trivial⟩, ⟨o97, trivial, trivial⟩⟩, ⟨o49, ⟨o81, trivial, trivial⟩, ⟨BA _, trivial, trivial⟩⟩⟩, ⟨o25, ⟨o41, ⟨BA _, trivial, trivial⟩, ⟨BA _, trivial, trivial⟩⟩, ⟨o57, ⟨BA _, trivial, trivial⟩, trivial⟩⟩⟩, ⟨oA, ⟨o21, ⟨o37, ⟨BA _, trivial, trivial⟩, ⟨dC, trivial, trivial⟩⟩, ⟨o53, ⟨o85, trivial, trivial⟩, ⟨BA _, trivial, trivial⟩⟩⟩, ⟨o29, ⟨o45, ⟨BA _, trivial, trivial⟩, ⟨BA _, trivial, trivial⟩⟩, ⟨o61, ⟨o93, trivial, trivial⟩, trivial⟩⟩⟩⟩⟩, ⟨BA _, ⟨o4, ⟨o8, ⟨o16, ⟨o32, ⟨o64, trivial, trivial⟩, ⟨o96, trivial, trivial⟩⟩, ⟨o48, ⟨o80, trivial, trivial⟩, ⟨BA _, trivial, trivial⟩⟩⟩, ⟨o24, ⟨o40, ⟨BA _, trivial, trivial⟩, ⟨BA _, trivial, trivial⟩⟩, ⟨o56, ⟨BA _, trivial, trivial⟩, trivial⟩⟩⟩, ⟨o12, ⟨o20, ⟨o36, ⟨o68, trivial, trivial⟩, ⟨BA _, trivial, trivial⟩⟩, ⟨o52, ⟨o84, trivial, trivial⟩, ⟨BA _, trivial, trivial⟩⟩⟩, ⟨o28, ⟨o44, ⟨BA _, trivial, trivial⟩, ⟨BA _, trivial, trivial⟩⟩, ⟨o60, ⟨o92, trivial, trivial⟩, trivial⟩⟩⟩⟩, ⟨o6, ⟨o10, ⟨o18, ⟨o34, ⟨o66, trivial, trivial⟩, ⟨o98, trivial, trivial⟩⟩, ⟨dE, ⟨o82, trivial, trivial⟩, ⟨BA _, trivial, trivial⟩⟩⟩, ⟨o26, ⟨o42, ⟨BA _, trivial, trivial⟩, ⟨BA _, trivial, trivial⟩⟩, ⟨o58, ⟨BA _, trivial, trivial⟩, trivial⟩⟩⟩, ⟨o14, ⟨o22, ⟨o38, ⟨BA _, trivial, trivial⟩, ⟨dD, trivial, trivial⟩⟩, ⟨o54, ⟨BA _, trivial, trivial⟩, ⟨BA _, trivial, trivial⟩⟩⟩, ⟨o30, ⟨o46, ⟨o78, trivial, trivial⟩, ⟨BA _, trivial, trivial⟩⟩, ⟨o62, ⟨o94, trivial, trivial⟩, trivial⟩⟩⟩⟩⟩⟩
theorem Pa (n : Nat) : Ca Try.prog ty (call AK n) := GO VI (by kernel_rfl) OC n
theorem Jd : AK.get 50 = some Jo := by kernel_rfl
theorem PR : AK.get 13 = some Gv := by kernel_rfl
end
end Go.Proofs.Ythcfmklkbakkpaa
namespace Go.Proofs.Ythcfmklkbakkpaa
noncomputable section
open Go
set_option maxRecDepth 100000
def d3 : C :=
(AE (AC 8) (AF (kV (.bool false)))
(AE (AC 23) (E4 .u8 (AB 0) (kV (.int .u8 8)))
(AE (AC 24) (CX .i64 (AB 23))
(AE (AC 25) (A9 .i64 (At .i64) (kV (.int .i64 1)) (AB 24))
(AE (AC 9) (AF (AB 25))
(AE (AC 28) (E4 .u8 (AB 2) (kV (.int .u8 10)))
(AE (AC 29) (CX .i64 (AB 28))
(AE (AC 32) (CX .i64 (AB 1))
(AE (AC 34) (E4 .i64 (AB 32) (AB 9))
(AE (AC 35) (A9 .i64 (At .i64) (kV (.int .i64 1)) (AB 34))
(AE (AC 36) (AV 5 [(kV (.int .i64 7)), (AB 29), (AB 9), (AB 35)])
(AE (AC 37) (Ah 0 (AB 36))
(AE (AC 38) (Ah 1 (AB 36))
(AE (AC 10) (Au 7 DB)
(cDo (AM 7 (AB 10) (AB 37))
(AE (AC 11) (AF (AB 38))
(AE (AC 40) (AS iNe .i64 (AB 11) (kV (.int .i64 0)))
(AO (AB 40)
(AE (AC 8) (AF (kV (.bool false)))
Ak)
(AE (AC 42) (EQ 1 ty4.zero (AB 9) (AB 9))
(AE (AC 12) (AF (AB 42))
(AE (AC 13) (AF (kV (.int .i64 0)))
(As (Ab 0 (Ay (AE (AC 45) (Am (AB 3))
(AE (AC 46) (AS iLt .i64 (AB 13) (AB 45))
(cG (AB 46) true (AC 48) (AF (AB 13))
(cG (AB 46) true (AC 49) (AS iLt .i64 (AB 48) (kV (.int .i64 80)))
(AE (AC 50) (AW (AB 46) (AB 49) (kV (.bool false)))
(AO (AB 50)
(As (Ab 1 (AE (AC 55) (A2 13 (AB 3) (AB 13))
(AE (AC 56) (AL 13 (AB 55))
(AE (AC 14) (Au 13 ND)
(cDo (AM 13 (AB 14) (AB 56))
(AE (AC 57) (AD 0 (AB 14))
(AE (AC 58) (AH (AB 57))
(AE (AC 60) (AV 6 [(AB 58), (AB 9)])
(AE (AC 61) (AD 0 (AB 14))
(cDo (AM 1 (AB 61) (AB 60))
(AE (AC 62) (AD 6 (AB 14))
(AE (AC 63) (AD 4 (AB 62))
(AE (AC 64) (AH (AB 63))
(AE (AC 65) (Am (AB 64))
(AE (AC 66) (AS iGt .i64 (AB 65) (kV (.int .i64 60)))
(cG (AB 66) false (AC 68) (AD 6 (AB 14))
(cG (AB 66) false (AC 69) (AD 5 (AB 68))
(cG (AB 66) false (AC 70) (AH (AB 69))
(cG (AB 66) false (AC 71) (Am (AB 70))
(cG (AB 66) false (AC 72) (AS iGt .i64 (AB 71) (kV (.int .i64 100)))
(AE (AC 73) (AW (AB 66) (kV (.bool true)) (AB 72))
(AO (AB 73)
(A3 1)
(AE (AC 74) (AL 7 (AB 10))
(AE (AC 75) (AV 7 [(AB 74)])
(AE (AC 76) (Am (AB 75))
(AE (AC 77) (AF (kV (.int .i64 0)))
(As (Ab 2 (Ay (AE (AC 78) (AS iLt .i64 (AB 77) (AB 76))
(AO (AB 78)
(As (Ab 3 (AE (AC 79) (A2 3 (AB 75) (AB 77))
(AE (AC 80) (AL 3 (AB 79))
(AE (AC 16) (Au 3 Dh)
(cDo (AM 3 (AB 16) (AB 80))
(AE (AC 81) (AD 1 (AB 16))
(AE (AC 82) (AH (AB 81))
(AE (AC 83) (AS iEq .u8 (AB 82) (kV (.int .u8 6)))
(cG (AB 83) true (AC 85) (AD 1 (AB 10))
(cG (AB 83) true (AC 86) (AH (AB 85))
(cG (AB 83) true (AC 87) (AS iGt .i64 (AB 86) (kV (.int .i64 0)))
(AE (AC 88) (AW (AB 83) (AB 87) (kV (.bool false)))
(AE (AC 17) (AF (AB 88))
(AE (AC 89) (AD 1 (AB 16))
(AE (AC 90) (AH (AB 89))
(AE (AC 91) (AS iEq .u8 (AB 90) (kV (.int .u8 3)))
(cG (AB 91) true (AC 93) (AD 2 (AB 16))
(cG (AB 91) true (AC 94) (AH (AB 93))
(cG (AB 91) true (AC 95) (AD 1 (AB 10))
(cG (AB 91) true (AC 96) (AH (AB 95))
(cG (AB 91) true (AC 97) (AS iLe .i64 (AB 94) (AB 96))
(AE (AC 98) (AW (AB 91) (AB 97) (kV (.bool false)))
(cG (AB 98) false (AC 100) (AF (AB 17))
(cG (AB 98) false (AC 101) (AF (AB 100))
(cG (AB 101) true (AC 102) (AD 2 (AB 16))
(cG (AB 101) true (AC 103) (AH (AB 102))
(cG (AB 101) true (AC 104) (AD 1 (AB 10))
(cG (AB 101) true (AC 105) (AH (AB 104))
(cG (AB 101) true (AC 106) (AS iNe .i64 (AB 103) (AB 105))
(cG (AB 101) true (AC 107) (AF (AB 106))
(cG (AB 107) false (AC 108) (AF (AB 12))
(cG (AB 107) false (AC 109) (AD 0 (AB 16))
(cG (AB 107) false (AC 110) (AH (AB 109))
(cG (AB 107) false (AC 111) (A2 1 (AB 108) (AB 110))
(cG (AB 107) false (AC 112) (AH (AB 111))
(cG (AB 107) false (AC 113) (BF (AB 112))
(cG (AB 101) true (AC 114) (AW (AB 107) (kV (.bool true)) (AB 113))
(cG (AB 101) true (AC 115) (AF (AB 114))
(cG (AB 115) false (AC 116) (AD 5 (AB 10))
(cG (AB 115) false (AC 117) (AH (AB 116))
(cG (AB 115) false (AC 118) (Am (AB 117))
(cG (AB 115) false (AC 119) (AD 2 (AB 10))
(cG (AB 115) false (AC 120) (AH (AB 119))
(cG (AB 115) false (AC 121) (AS iLt .i64 (AB 118) (AB 120))
(cG (AB 101) true (AC 122) (AW (AB 115) (kV (.bool true)) (AB 121))
(cG (AB 98) false (AC 123) (AW (AB 101) (AB 122) (kV (.bool false)))
(AE (AC 124) (AW (AB 98) (kV (.bool true)) (AB 123))
(cG (AB 124) false (AC 126) (AD 1 (AB 16))
(cG (AB 124) false (AC 127) (AH (AB 126))
(cG (AB 124) false (AC 128) (AS iEq .u8 (AB 127) (kV (.int .u8 1)))
(cG (AB 124) false (AC 129) (AF (AB 128))
(cG (AB 129) true (AC 130) (AD 2 (AB 16))
(cG (AB 129) true (AC 131) (AH (AB 130))
(cG (AB 129) true (AC 132) (AD 1 (AB 10))
(cG (AB 129) true (AC 133) (AH (AB 132))
(cG (AB 129) true (AC 134) (AS iNe .i64 (AB 131) (AB 133))
(cG (AB 124) false (AC 135) (AW (AB 129) (AB 134) (kV (.bool false)))
(AE (AC 136) (AW (AB 124) (kV (.bool true)) (AB 135))
(AO (AB 136)
(AE (AC 8) (AF (kV (.bool false)))
Ak)
AQ)))))))))))))))))))))))))))))))))))))))))))))))))))))))))))
(AE (AC 137) (A9 .i64 (At .i64) (AB 77) (kV (.int .i64 1)))
(AE (AC 77) (AF (AB 137))
AQ)))
(A3 2)))))
(AE (AC 138) (AL 7 (AB 10))
(AE (AC 139) (AL 13 (AB 14))
(AE (AC 140) (AV 8 [(AB 138), (AB 139)])
(AE (AC 18) (Au 3 Dh)
(cDo (AM 3 (AB 18) (AB 140))
(AE (AC 141) (AL 7 (AB 10))
(AE (AC 19) (Au 7 DB)
(cDo (AM 7 (AB 19) (AB 141))
(AE (AC 20) (AF (kV (.int .i64 0)))
(AE (AC 142) (AD 2 (AB 14))
(AE (AC 143) (AH (AB 142))
(As (AO (AB 143)
(AE (AC 145) (AL 7 (AB 10))
(AE (AC 146) (AD 0 (AB 14))
(AE (AC 147) (AH (AB 146))
(AE (AC 148) (AV 9 [(AB 145), (AB 147)])
(AE (AC 149) (Ah 0 (AB 148))
(AE (AC 150) (Ah 1 (AB 148))
(cDo (AM 7 (AB 10) (AB 149))
(AE (AC 20) (AF (AB 150))
AQ))))))))
(AE (AC 152) (AL 7 (AB 10))
(AE (AC 153) (AL 3 (AB 18))
(AE (AC 154) (AD 6 (AB 14))
(AE (AC 155) (AL 7 (AB 154))
(AE (AC 156) (AV 10 [(AB 152), (AB 153), (AB 155)])
(AE (AC 157) (Ah 0 (AB 156))
(AE (AC 158) (Ah 1 (AB 156))
(cDo (AM 7 (AB 10) (AB 157))
(AE (AC 20) (AF (AB 158))
(AE (AC 159) (AD 0 (AB 18))
(AE (AC 160) (AH (AB 159))
(AE (AC 21) (AF (AB 160))
(AE (AC 162) (AS iGe .i64 (AB 21) (kV (.int .i64 0)))
(cG (AB 162) true (AC 164) (AF (AB 21))
(cG (AB 162) true (AC 165) (AF (AB 9))
(cG (AB 162) true (AC 166) (AS iLt .i64 (AB 164) (AB 165))
(AE (AC 167) (AW (AB 162) (AB 166) (kV (.bool false)))
(cG (AB 167) true (AC 169) (AD 6 (AB 14))
(cG (AB 167) true (AC 170) (AD 3 (AB 169))
(cG (AB 167) true (AC 171) (AH (AB 170))
(cG (AB 167) true (AC 172) (AS iEq .i64 (AB 171) (kV (.int .i64 12)))
(cG (AB 167) true (AC 173) (AF (AB 172))
(cG (AB 173) true (AC 174) (AD 1 (AB 18))
(cG (AB 173) true (AC 175) (AH (AB 174))
(cG (AB 173) true (AC 176) (AS iEq .u8 (AB 175) (kV (.int .u8 4)))
(cG (AB 167) true (AC 177) (AW (AB 173) (AB 176) (kV (.bool false)))
(cG (AB 167) true (AC 178) (AF (AB 177))
(cG (AB 178) false (AC 179) (AD 6 (AB 14))
(cG (AB 178) false (AC 180) (AD 3 (AB 179))
(cG (AB 178) false (AC 181) (AH (AB 180))
(cG (AB 178) false (AC 182) (AS iEq .i64 (AB 181) (kV (.int .i64 60)))
(cG (AB 178) false (AC 183) (AF (AB 182))
(cG (AB 183) true (AC 184) (AD 1 (AB 18))
(cG (AB 183) true (AC 185) (AH (AB 184))
(cG (AB 183) true (AC 186) (AS iEq .u8 (AB 185) (kV (.int .u8 1)))
(cG (AB 178) false (AC 187) (AW (AB 183) (AB 186) (kV (.bool false)))
(cG (AB 167) true (AC 188) (AW (AB 178) (kV (.bool true)) (AB 187))
(AE (AC 189) (AW (AB 167) (AB 188) (kV (.bool false)))
(AO (AB 189)
(AE (AC 192) (A2 1 (AB 12) (AB 21))
(cDo (AM 1 (AB 192) (kV (.bool true)))
AQ))
AQ))))))))))))))))))))))))))))))))))))))))
(AE (AC 194) (AS iNe .i64 (AB 20) (kV (.int .i64 0)))
(cG (AB 194) true (AC 196) (AL 7 (AB 10))
(cG (AB 194) true (AC 197) (AL 7 (AB 19))
(cG (AB 194) true (AC 198) (AV 11 [(AB 196), (AB 197)])
(cG (AB 194) true (AC 199) (BF (AB 198))
(AE (AC 200) (AW (AB 194) (AB 199) (kV (.bool false)))
(cG (AB 200) false (AC 202) (AL 7 (AB 10))
(cG (AB 200) false (AC 203) (AV 12 [(AB 202)])
(cG (AB 200) false (AC 204) (BF (AB 203))
(AE (AC 205) (AW (AB 200) (kV (.bool true)) (AB 204))
(cG (AB 205) false (AC 207) (AD 3 (AB 19))
(cG (AB 205) false (AC 208) (AH (AB 207))
(cG (AB 205) false (AC 209) (AS iNe .i64 (AB 208) (kV (.int .i64 1)))
(cG (AB 205) false (AC 210) (AF (AB 209))
(cG (AB 210) true (AC 211) (AL 7 (AB 10))
(cG (AB 210) true (AC 212) (AL 7 (AB 19))
(cG (AB 210) true (AC 213) (AV 11 [(AB 211), (AB 212)])
(cG (AB 210) true (AC 214) (BF (AB 213))
(cG (AB 205) false (AC 215) (AW (AB 210) (AB 214) (kV (.bool false)))
(AE (AC 216) (AW (AB 205) (kV (.bool true)) (AB 215))
(AO (AB 216)
(AE (AC 8) (AF (kV (.bool false)))
Ak)
AQ))))))))))))))))))))))))))))))))))))))))))))))))))))))))))))
(AE (AC 52) (A9 .i64 (At .i64) (AB 13) (kV (.int .i64 1)))
(AE (AC 13) (AF (AB 52))
AQ)))
(A3 0)))))))))
(AE (AC 217) (AV 13 [])
(AE (AC 8) (AF (AB 217))
Ak))))))))))))))))))))))))
def d4 : C :=
(AE (AC 10) (Bd (AB 4))
(AE (AC 11) (Bd (AB 5))
(AE (AC 12) (AF (kV (.bool false)))
(AE (AC 24) (E4 .u8 (AB 0) (kV (.int .u8 8)))
(AE (AC 25) (CX .i64 (AB 24))
(AE (AC 26) (A9 .i64 (At .i64) (kV (.int .i64 1)) (AB 25))
(AE (AC 13) (AF (AB 26))
(AE (AC 29) (E4 .u8 (AB 2) (kV (.int .u8 10)))
(AE (AC 30) (CX .i64 (AB 29))
(AE (AC 33) (CX .i64 (AB 1))
(AE (AC 35) (E4 .i64 (AB 33) (AB 13))
(AE (AC 36) (A9 .i64 (At .i64) (kV (.int .i64 1)) (AB 35))
(AE (AC 37) (AV 5 [(kV (.int .i64 7)), (AB 30), (AB 13), (AB 36)])
(AE (AC 38) (Ah 0 (AB 37))
(AE (AC 39) (Ah 1 (AB 37))
(AE (AC 14) (Au 7 DB)
(cDo (AM 7 (AB 14) (AB 38))
(AE (AC 15) (AF (AB 39))
(AE (AC 41) (AS iNe .i64 (AB 15) (kV (.int .i64 0)))
(AO (AB 41)
(AE (AC 12) (AF (kV (.bool false)))
Ak)
(AE (AC 42) (AD 0 (AB 10))
(AE (AC 43) (AH (AB 42))
(AE (AC 45) (AV 6 [(AB 43), (AB 13)])
(AE (AC 46) (AD 0 (AB 10))
(cDo (AM 1 (AB 46) (AB 45))
(AE (AC 16) (AF (kV (.int .i64 0)))
(As (Ab 0 (Ay (AE (AC 49) (Am (AB 3))
(AE (AC 50) (AS iLt .i64 (AB 16) (AB 49))
(cG (AB 50) true (AC 52) (AF (AB 16))
(cG (AB 50) true (AC 53) (AS iLt .i64 (AB 52) (kV (.int .i64 50)))
(AE (AC 54) (AW (AB 50) (AB 53) (kV (.bool false)))
(AO (AB 54)
(As (Ab 1 (AE (AC 59) (A2 13 (AB 3) (AB 16))
(AE (AC 60) (AL 13 (AB 59))
(AE (AC 17) (Au 13 ND)
(cDo (AM 13 (AB 17) (AB 60))
(AE (AC 61) (AD 0 (AB 17))
(AE (AC 62) (AH (AB 61))
(AE (AC 64) (AV 6 [(AB 62), (AB 13)])
(AE (AC 65) (AD 0 (AB 17))
(cDo (AM 1 (AB 65) (AB 64))
(AE (AC 66) (AD 6 (AB 17))
(AE (AC 67) (AD 4 (AB 66))
(AE (AC 68) (AH (AB 67))
(AE (AC 69) (Am (AB 68))
(AE (AC 70) (AS iGt .i64 (AB 69) (kV (.int .i64 60)))
(cG (AB 70) false (AC 72) (AD 6 (AB 17))
(cG (AB 70) false (AC 73) (AD 5 (AB 72))
(cG (AB 70) false (AC 74) (AH (AB 73))
(cG (AB 70) false (AC 75) (Am (AB 74))
(cG (AB 70) false (AC 76) (AS iGt .i64 (AB 75) (kV (.int .i64 100)))
(AE (AC 77) (AW (AB 70) (kV (.bool true)) (AB 76))
(AO (AB 77)
(A3 1)
(AE (AC 78) (AD 2 (AB 17))
(AE (AC 79) (AH (AB 78))
(As (AO (AB 79)
(AE (AC 81) (AL 7 (AB 14))
(AE (AC 82) (AD 0 (AB 17))
(AE (AC 83) (AH (AB 82))
(AE (AC 84) (AV 9 [(AB 81), (AB 83)])
(AE (AC 85) (Ah 0 (AB 84))
(AE (AC 86) (Ah 1 (AB 84))
(cDo (AM 7 (AB 14) (AB 85))
(AE (AC 15) (AF (AB 86))
AQ))))))))
(BH (CR (AB 14) (Bi (AB 14) []
(AE (AC 88) (AL 7 (AB 14))
(AE (AC 89) (AL 7 (AB 14))
(AE (AC 90) (AL 13 (AB 17))
(AE (AC 91) (Aj .weak (AV 8 [(AB 89), (AB 90)]))
(AE (AC 92) (AD 6 (AB 17))
(CR (AB 92) (Bi (AB 92) []
(AE (AC 93) (AL 7 (AB 92))
(AE (AC 94) (Aj .free (AV 10 [(AB 88), (AB 91), (AB 93)]))
(AE (AC 95) (Ah 0 (AB 94))
(AE (AC 96) (Ah 1 (AB 94))
(cDo (Aj .free (AM 7 (AB 14) (AB 95)))
(AE (AC 15) (AF (AB 96))
AQ)))))))))))))))))
(AE (AC 18) (AF (kV (.bool false)))
(AE (AC 97) (AL 7 (AB 14))
(AE (AC 98) (AV 7 [(AB 97)])
(AE (AC 99) (Am (AB 98))
(AE (AC 100) (AF (kV (.int .i64 0)))
(As (Ab 2 (Ay (AE (AC 101) (AS iLt .i64 (AB 100) (AB 99))
(AO (AB 101)
(As (Ab 3 (AE (AC 102) (A2 3 (AB 98) (AB 100))
(AE (AC 103) (AL 3 (AB 102))
(AE (AC 20) (Au 3 Dh)
(cDo (AM 3 (AB 20) (AB 103))
(cG (AB 18) false (AC 106) (AL 3 (AB 20))
(cG (AB 18) false (AC 107) (AL 3 (AB 10))
(cG (AB 18) false (AC 108) (Eo ⟨true, [.i .i64, .i .u8, .i .i64]⟩ false (AB 106) (AB 107))
(AE (AC 109) (AW (AB 18) (kV (.bool true)) (AB 108))
(AE (AC 18) (AF (AB 109))
AQ))))))))))
(AE (AC 110) (A9 .i64 (At .i64) (AB 100) (kV (.int .i64 1)))
(AE (AC 100) (AF (AB 110))
AQ)))
(A3 2)))))
(AE (AC 112) (AL 7 (AB 14))
(AE (AC 113) (AL 3 (AB 10))
(AE (AC 114) (AL 7 (AB 11))
(AE (AC 115) (AV 10 [(AB 112), (AB 113), (AB 114)])
(AE (AC 116) (Ah 0 (AB 115))
(AE (AC 117) (Ah 1 (AB 115))
(AE (AC 21) (Au 7 DB)
(cDo (AM 7 (AB 21) (AB 116))
(AE (AC 22) (AF (AB 117))
(AE (AC 119) (AS iNe .i64 (AB 22) (kV (.int .i64 0)))
(cG (AB 119) false (AC 121) (AF (AB 18))
(cG (AB 119) false (AC 122) (BF (AB 121))
(cG (AB 119) false (AC 123) (AF (AB 122))
(cG (AB 123) true (AC 124) (AL 7 (AB 21))
(cG (AB 123) true (AC 125) (AL 7 (AB 14))
(cG (AB 123) true (AC 126) (AV 11 [(AB 124), (AB 125)])
(cG (AB 123) true (AC 127) (BF (AB 126))
(cG (AB 119) false (AC 128) (AW (AB 123) (AB 127) (kV (.bool false)))
(AE (AC 129) (AW (AB 119) (kV (.bool true)) (AB 128))
(AO (AB 129)
(AE (AC 12) (AF (kV (.bool false)))
Ak)
AQ)))))))))))))))))))))))))))))))))))))))))))))))))))
(AE (AC 56) (A9 .i64 (At .i64) (AB 16) (kV (.int .i64 1)))
(AE (AC 16) (AF (AB 56))
AQ)))
(A3 0)))))))))
(AE (AC 130) (AV 13 [])
(AE (AC 12) (AF (AB 130))
Ak)))))))))))))))))))))))))))))
theorem bA {n : Nat} {args : List Value} {h : Hp} (hl : Nat.ble (Bk args) 320 = true) : call AK (Nat.succ n) 4 args h = Bt [.t (AB 12)] (d4 (call AK n) (Av e0 0 args) h) := by
  have hb : AK.get 4 = some b4 := by kernel_rfl
  rw [BN hb]
  have hd : b4 = ⟨[.t (AB 12)], d4⟩ := by kernel_rfl
  rw [hd, BE hl]
def d5 : C :=
(AE (AC 8) (Au 7 DB)
(AE (AC 9) (AF (kV (.int .i64 0)))
(AE (AC 12) (AS iLt .i64 (AB 2) (kV (.int .i64 1)))
(cG (AB 12) false (AC 14) (AF (AB 2))
(cG (AB 12) false (AC 15) (AS iGt .i64 (AB 14) (kV (.int .i64 255)))
(AE (AC 16) (AW (AB 12) (kV (.bool true)) (AB 15))
(AO (AB 16)
(AE (AC 17) (A8 Hc.zero [])
(cDo (AM 7 (AB 8) (AB 17))
(AE (AC 9) (AF (kV (.int .i64 160)))
Ak)))
(AE (AC 22) (EQ 40 FA.zero (AB 2) (AB 2))
(AE (AC 23) (A8 Hc.zero [(0, 1, (AB 0)), (1, 1, (AB 1)), (2, 1, (AB 3)), (3, 1, (kV (.int .i64 1))), (4, 1, (AB 22))])
(AE (AC 10) (Au 7 DB)
(cDo (AM 7 (AB 10) (AB 23))
(AE (AC 24) (AL 7 (AB 10))
(AE (AC 25) (AV 12 [(AB 24)])
(AE (AC 26) (BF (AB 25))
(AO (AB 26)
(AE (AC 27) (A8 Hc.zero [])
(cDo (AM 7 (AB 8) (AB 27))
(AE (AC 9) (AF (kV (.int .i64 160)))
Ak)))
(AE (AC 28) (AL 7 (AB 10))
(cDo (AM 7 (AB 8) (AB 28))
(AE (AC 9) (AF (kV (.int .i64 0)))
Ak))))))))))))))))))
theorem bC {n : Nat} {args : List Value} {h : Hp} (hl : Nat.ble (Bk args) 320 = true) : call AK (Nat.succ n) 5 args h = Bt [.cN (AB 8) 7, .t (AB 9)] (d5 (call AK n) (Av e0 0 args) h) := by
  have hb : AK.get 5 = some b5 := by kernel_rfl
  rw [BN hb]
  have hd : b5 = ⟨[.cN (AB 8) 7, .t (AB 9)], d5⟩ := by kernel_rfl
  rw [hd, BE hl]
def d6 : C :=
(AE (AC 4) (AF (kV (.int .i64 0)))
(AE (AC 6) (AS iLe .i64 (AB 1) (kV (.int .i64 0)))
(AO (AB 6)
(AE (AC 4) (AF (kV (.int .i64 0)))
Ak)
(AE (AC 9) (E4 .i64 (AB 0) (AB 1))
(AE (AC 0) (AF (AB 9))
(AE (AC 11) (AS iLt .i64 (AB 0) (kV (.int .i64 0)))
(As (AO (AB 11)
(AE (AC 14) (A9 .i64 (At .i64) (AB 0) (AB 1))
(AE (AC 0) (AF (AB 14))
AQ))
AQ)
(AE (AC 4) (AF (AB 0))
Ak))))))))
theorem U5 {n : Nat} {args : List Value} {h : Hp} (hl : Nat.ble (Bk args) 320 = true) : call AK (Nat.succ n) 6 args h = Bt [.t (AB 4)] (d6 (call AK n) (Av e0 0 args) h) := by
  have hb : AK.get 6 = some b6 := by kernel_rfl
  rw [BN hb]
  have hd : b6 = ⟨[.t (AB 4)], d6⟩ := by kernel_rfl
  rw [hd, BE hl]
def d7 : C :=
(AE (AC 1) (Bd (AB 0))
(AE (AC 2) (AF (kV (.slice none 0 0)))
(AE (AC 7) (AL 7 (AB 1))
(AE (AC 8) (AV 12 [(AB 7)])
(AE (AC 9) (BF (AB 8))
(cG (AB 9) false (AC 11) (AD 3 (AB 1))
(cG (AB 9) false (AC 12) (AH (AB 11))
(cG (AB 9) false (AC 13) (AS iNe .i64 (AB 12) (kV (.int .i64 1)))
(AE (AC 14) (AW (AB 9) (kV (.bool true)) (AB 13))
(AO (AB 14)
(AE (AC 2) (AF (kV (.slice none 0 0)))
Ak)
(AE (AC 3) (AF (kV (.slice none 0 0)))
(AE (AC 15) (AD 4 (AB 1))
(AE (AC 16) (AH (AB 15))
(AE (AC 17) (Am (AB 16))
(AE (AC 18) (AF (kV (.int .i64 0)))
(As (Ab 0 (Ay (AE (AC 19) (AS iLt .i64 (AB 18) (AB 17))
(AO (AB 19)
(As (Ab 1 (AE (AC 4) (AF (AB 18))
(AE (AC 22) (AL 7 (AB 1))
(AE (AC 24) (AV 14 [(AB 22), (AB 4)])
(AE (AC 25) (Ah 0 (AB 24))
(AE (AC 26) (Ah 1 (AB 24))
(AE (AC 5) (Au 3 Dh)
(cDo (AM 3 (AB 5) (AB 25))
(AE (AC 6) (AF (AB 26))
(AO (AB 6)
(AE (AC 29) (AL 3 (AB 5))
(AE (AC 30) (Ar 1 (BI GK.zero 1) [(0, 3, (AB 29))])
(AE (AC 31) (Bb 3 24 34 (AB 3) (AB 30))
(AE (AC 3) (AF (AB 31))
AQ))))
AQ))))))))))
(AE (AC 32) (A9 .i64 (At .i64) (AB 18) (kV (.int .i64 1)))
(AE (AC 18) (AF (AB 32))
AQ)))
(A3 0)))))
(AE (AC 2) (AF (AB 3))
Ak)))))))))))))))))
theorem U6 {n : Nat} {args : List Value} {h : Hp} (hl : Nat.ble (Bk args) 320 = true) : call AK (Nat.succ n) 7 args h = Bt [.t (AB 2)] (d7 (call AK n) (Av e0 0 args) h) := by
  have hb : AK.get 7 = some b7 := by kernel_rfl
  rw [BN hb]
  have hd : b7 = ⟨[.t (AB 2)], d7⟩ := by kernel_rfl
  rw [hd, BE hl]
def d10 : C :=
(AE (AC 3) (Bd (AB 0))
(AE (AC 4) (Bd (AB 1))
(AE (AC 5) (Bd (AB 2))
(AE (AC 6) (Au 7 DB)
(AE (AC 7) (AF (kV (.int .i64 0)))
(AE (AC 10) (AL 7 (AB 3))
(AE (AC 11) (AV 12 [(AB 10)])
(AE (AC 12) (BF (AB 11))
(cG (AB 12) false (AC 14) (AD 0 (AB 4))
(cG (AB 12) false (AC 15) (AH (AB 14))
(cG (AB 12) false (AC 16) (AS iLt .i64 (AB 15) (kV (.int .i64 0)))
(AE (AC 17) (AW (AB 12) (kV (.bool true)) (AB 16))
(cG (AB 17) false (AC 19) (AD 0 (AB 4))
(cG (AB 17) false (AC 20) (AH (AB 19))
(cG (AB 17) false (AC 21) (AD 4 (AB 3))
(cG (AB 17) false (AC 22) (AH (AB 21))
(cG (AB 17) false (AC 23) (Am (AB 22))
(cG (AB 17) false (AC 24) (AS iGe .i64 (AB 20) (AB 23))
(AE (AC 25) (AW (AB 17) (kV (.bool true)) (AB 24))
(AO (AB 25)
(AE (AC 26) (AL 7 (AB 3))
(cDo (AM 7 (AB 6) (AB 26))
(AE (AC 7) (AF (kV (.int .i64 160)))
Ak)))
(AE (AC 27) (AL 7 (AB 3))
(AE (AC 28) (AV 15 [(AB 27)])
(cDo (AM 7 (AB 3) (AB 28))
(AE (AC 30) (AL 7 (AB 3))
(AE (AC 31) (AD 0 (AB 4))
(AE (AC 32) (AH (AB 31))
(AE (AC 33) (AV 14 [(AB 30), (AB 32)])
(AE (AC 34) (Ah 0 (AB 33))
(AE (AC 35) (Ah 1 (AB 33))
(AE (AC 8) (Au 3 Dh)
(cDo (AM 3 (AB 8) (AB 34))
(AE (AC 9) (AF (AB 35))
(AE (AC 36) (AD 3 (AB 3))
(AE (AC 37) (AH (AB 36))
(AE (AC 38) (AS iNe .i64 (AB 37) (kV (.int .i64 1)))
(cG (AB 38) false (AC 40) (AF (AB 9))
(cG (AB 38) false (AC 41) (BF (AB 40))
(AE (AC 42) (AW (AB 38) (kV (.bool true)) (AB 41))
(cG (AB 42) false (AC 44) (AL 3 (AB 8))
(cG (AB 42) false (AC 45) (AL 3 (AB 4))
(cG (AB 42) false (AC 46) (Eo ⟨true, [.i .i64, .i .u8, .i .i64]⟩ true (AB 44) (AB 45))
(AE (AC 47) (AW (AB 42) (kV (.bool true)) (AB 46))
(AO (AB 47)
(AE (AC 48) (AL 7 (AB 3))
(cDo (AM 7 (AB 6) (AB 48))
(AE (AC 7) (AF (kV (.int .i64 0)))
Ak)))
(AE (AC 49) (AL 7 (AB 3))
(AE (AC 50) (AL 3 (AB 4))
(AE (AC 51) (AL 7 (AB 5))
(AE (AC 52) (AV 16 [(AB 49), (AB 50), (AB 51)])
(cDo (AM 7 (AB 3) (AB 52))
(As (Ab 0 (AE (AC 54) (AD 3 (AB 3))
(AE (AC 55) (AH (AB 54))
(AE (AC 56) (AS iNe .i64 (AB 55) (kV (.int .i64 1)))
(AE (AC 53) (AF (AB 56))
(AO (AB 53)
AQ
(AE (AC 58) (AL 7 (AB 3))
(AE (AC 59) (AV 17 [(AB 58)])
(AE (AC 57) (AF (AB 59))
(AO (AB 57)
(AE (AC 60) (AD 3 (AB 3))
(cDo (AM 1 (AB 60) (kV (.int .i64 2)))
AQ))
(AE (AC 62) (AL 7 (AB 3))
(AE (AC 63) (AV 18 [(AB 62)])
(AE (AC 61) (AF (AB 63))
(AO (AB 61)
(AE (AC 64) (AD 3 (AB 3))
(cDo (AM 1 (AB 64) (kV (.int .i64 3)))
AQ))
AQ))))))))))))))
(AE (AC 65) (AL 7 (AB 3))
(cDo (AM 7 (AB 6) (AB 65))
(AE (AC 7) (AF (kV (.int .i64 0)))
Ak))))))))))))))))))))))))))))))))))))))))))))))))))))
theorem L1 {n : Nat} {args : List Value} {h : Hp} (hl : Nat.ble (Bk args) 320 = true) : call AK (Nat.succ n) 10 args h = Bt [.cN (AB 6) 7, .t (AB 7)] (d10 (call AK n) (Av e0 0 args) h) := by
  have hb : AK.get 10 = some b10 := by kernel_rfl
  rw [BN hb]
  have hd : b10 = ⟨[.cN (AB 6) 7, .t (AB 7)], d10⟩ := by kernel_rfl
  rw [hd, BE hl]
def d12 : C :=
(AE (AC 1) (Bd (AB 0))
(AE (AC 2) (AF (kV (.bool false)))
(AE (AC 4) (AD 4 (AB 1))
(AE (AC 5) (AH (AB 4))
(AE (AC 6) (Am (AB 5))
(AE (AC 3) (AF (AB 6))
(AE (AC 7) (AD 0 (AB 1))
(AE (AC 8) (AH (AB 7))
(AE (AC 9) (AS iLt .i64 (AB 8) (kV (.int .i64 0)))
(cG (AB 9) false (AC 11) (AD 0 (AB 1))
(cG (AB 9) false (AC 12) (AH (AB 11))
(cG (AB 9) false (AC 13) (AS iGt .i64 (AB 12) (kV (.int .i64 1099511627776)))
(AE (AC 14) (AW (AB 9) (kV (.bool true)) (AB 13))
(cG (AB 14) false (AC 16) (AD 1 (AB 1))
(cG (AB 14) false (AC 17) (AH (AB 16))
(cG (AB 14) false (AC 18) (AS iLt .i64 (AB 17) (kV (.int .i64 0)))
(AE (AC 19) (AW (AB 14) (kV (.bool true)) (AB 18))
(cG (AB 19) false (AC 21) (AD 1 (AB 1))
(cG (AB 19) false (AC 22) (AH (AB 21))
(cG (AB 19) false (AC 23) (AS iGt .i64 (AB 22) (kV (.int .i64 1099511627776)))
(AE (AC 24) (AW (AB 19) (kV (.bool true)) (AB 23))
(cG (AB 24) false (AC 26) (AF (AB 3))
(cG (AB 24) false (AC 27) (AS iLt .i64 (AB 26) (kV (.int .i64 1)))
(AE (AC 28) (AW (AB 24) (kV (.bool true)) (AB 27))
(cG (AB 28) false (AC 30) (AF (AB 3))
(cG (AB 28) false (AC 31) (AS iGt .i64 (AB 30) (kV (.int .i64 255)))
(AE (AC 32) (AW (AB 28) (kV (.bool true)) (AB 31))
(cG (AB 32) false (AC 34) (AD 2 (AB 1))
(cG (AB 32) false (AC 35) (AH (AB 34))
(cG (AB 32) false (AC 36) (AS iLt .i64 (AB 35) (kV (.int .i64 1)))
(AE (AC 37) (AW (AB 32) (kV (.bool true)) (AB 36))
(cG (AB 37) false (AC 39) (AD 2 (AB 1))
(cG (AB 37) false (AC 40) (AH (AB 39))
(cG (AB 37) false (AC 41) (AF (AB 3))
(cG (AB 37) false (AC 42) (AS iGt .i64 (AB 40) (AB 41))
(AE (AC 43) (AW (AB 37) (kV (.bool true)) (AB 42))
(AO (AB 43)
(AE (AC 2) (AF (kV (.bool false)))
Ak)
(AE (AC 44) (AL 7 (AB 1))
(AE (AC 45) (Do (.func 22) [] [(AB 1)])
(AE (AC 46) (AV 21 [(AB 44), (AB 45)])
(AE (AC 47) (BF (AB 46))
(cG (AB 47) false (AC 49) (AL 7 (AB 1))
(cG (AB 47) false (AC 50) (AV 24 [(AB 49)])
(cG (AB 47) false (AC 51) (BF (AB 50))
(AE (AC 52) (AW (AB 47) (kV (.bool true)) (AB 51))
(AO (AB 52)
(AE (AC 2) (AF (kV (.bool false)))
Ak)
(AE (AC 53) (AD 3 (AB 1))
(AE (AC 54) (AH (AB 53))
(As (Ab 0 (AE (AC 56) (AS iEq .i64 (AB 54) (kV (.int .i64 1)))
(AE (AC 55) (AF (AB 56))
(AO (AB 55)
(AE (AC 57) (AL 7 (AB 1))
(AE (AC 58) (AV 17 [(AB 57)])
(AE (AC 59) (BF (AB 58))
(cG (AB 59) true (AC 61) (AL 7 (AB 1))
(cG (AB 59) true (AC 62) (AV 18 [(AB 61)])
(cG (AB 59) true (AC 63) (BF (AB 62))
(AE (AC 64) (AW (AB 59) (AB 63) (kV (.bool false)))
(AE (AC 2) (AF (AB 64))
Ak))))))))
(AE (AC 66) (AS iEq .i64 (AB 54) (kV (.int .i64 2)))
(AE (AC 65) (AF (AB 66))
(AO (AB 65)
(AE (AC 67) (AL 7 (AB 1))
(AE (AC 68) (AV 17 [(AB 67)])
(AE (AC 2) (AF (AB 68))
Ak)))
AQ)))))))
(AE (AC 69) (AD 3 (AB 1))
(AE (AC 70) (AH (AB 69))
(AE (AC 71) (AS iEq .i64 (AB 70) (kV (.int .i64 3)))
(cG (AB 71) true (AC 73) (AL 7 (AB 1))
(cG (AB 71) true (AC 74) (AV 17 [(AB 73)])
(cG (AB 71) true (AC 75) (BF (AB 74))
(AE (AC 76) (AW (AB 71) (AB 75) (kV (.bool false)))
(AE (AC 2) (AF (AB 76))
Ak)))))))))))))))))))))))))))))))))))))))))))))))))))))))))
theorem L2 {n : Nat} {args : List Value} {h : Hp} (hl : Nat.ble (Bk args) 320 = true) : call AK (Nat.succ n) 12 args h = Bt [.t (AB 2)] (d12 (call AK n) (Av e0 0 args) h) := by
  have hb : AK.get 12 = some b12 := by kernel_rfl
  rw [BN hb]
  have hd : b12 = ⟨[.t (AB 2)], d12⟩ := by kernel_rfl
  rw [hd, BE hl]
def d17 : C :=
(AE (AC 1) (Bd (AB 0))
(AE (AC 2) (AF (kV (.bool false)))
(AE (AC 3) (AL 7 (AB 1))
(AE (AC 4) (Do (.func 39) [] [(AB 1)])
(AE (AC 5) (AV 21 [(AB 3), (AB 4)])
(AE (AC 2) (AF (AB 5))
Ak))))))
theorem Wv {n : Nat} {args : List Value} {h : Hp} (hl : Nat.ble (Bk args) 320 = true) : call AK (Nat.succ n) 17 args h = Bt [.t (AB 2)] (d17 (call AK n) (Av e0 0 args) h) := by
  have hb : AK.get 17 = some b17 := by kernel_rfl
  rw [BN hb]
  have hd : b17 = ⟨[.t (AB 2)], d17⟩ := by kernel_rfl
  rw [hd, BE hl]
def d18 : C :=
(AE (AC 1) (Bd (AB 0))
(AE (AC 2) (AF (kV (.bool false)))
(AE (AC 3) (AD 1 (AB 1))
(AE (AC 4) (AH (AB 3))
(AE (AC 5) (AS iGt .i64 (AB 4) (kV (.int .i64 0)))
(cG (AB 5) true (AC 7) (AL 7 (AB 1))
(cG (AB 5) true (AC 8) (AV 32 [(AB 7)])
(cG (AB 5) true (AC 9) (BF (AB 8))
(AE (AC 10) (AW (AB 5) (AB 9) (kV (.bool false)))
(cG (AB 10) true (AC 12) (AL 7 (AB 1))
(cG (AB 10) true (AC 13) (AV 21 [(AB 12), (kV (.func (.func 40) #[] #[]))])
(AE (AC 14) (AW (AB 10) (AB 13) (kV (.bool false)))
(AE (AC 2) (AF (AB 14))
Ak)))))))))))))
theorem L3 {n : Nat} {args : List Value} {h : Hp} (hl : Nat.ble (Bk args) 320 = true) : call AK (Nat.succ n) 18 args h = Bt [.t (AB 2)] (d18 (call AK n) (Av e0 0 args) h) := by
  have hb : AK.get 18 = some b18 := by kernel_rfl
  rw [BN hb]
  have hd : b18 = ⟨[.t (AB 2)], d18⟩ := by kernel_rfl
  rw [hd, BE hl]
def d22 : C :=
(AE (AC 2) (Bd (AB 0))
(AE (AC 3) (AF (kV (.bool false)))
(AE (AC 4) (AL 7 (AB 1))
(AE (AC 5) (AL 3 (AB 2))
(AE (AC 6) (AV 23 [(AB 4), (AB 5)])
(AE (AC 3) (AF (AB 6))
Ak))))))
theorem Wz {n : Nat} {args : List Value} {h : Hp} (hl : Nat.ble (Bk args) 320 = true) : call AK (Nat.succ n) 22 args h = Bt [.t (AB 3)] (d22 (call AK n) (Av e0 0 args) h) := by
  have hb : AK.get 22 = some b22 := by kernel_rfl
  rw [BN hb]
  have hd : b22 = ⟨[.t (AB 3)], d22⟩ := by kernel_rfl
  rw [hd, BE hl]
def d31 : C :=
(AE (AC 4) (AF (kV (.bool false)))
(AE (AC 6) (EZ (AB 0))
(AE (AC 8) (EZ (AB 1))
(AE (AC 9) (HF bEq (AB 6) (AB 8))
(AE (AC 4) (AF (AB 9))
Ak)))))
theorem W8 {n : Nat} {args : List Value} {h : Hp} (hl : Nat.ble (Bk args) 320 = true) : call AK (Nat.succ n) 31 args h = Bt [.t (AB 4)] (d31 (call AK n) (Av e0 0 args) h) := by
  have hb : AK.get 31 = some b31 := by kernel_rfl
  rw [BN hb]
  have hd : b31 = ⟨[.t (AB 4)], d31⟩ := by kernel_rfl
  rw [hd, BE hl]
def d32 : C :=
(AE (AC 1) (Bd (AB 0))
(AE (AC 2) (AF (kV (.bool false)))
(AE (AC 3) (AD 5 (AB 1))
(AE (AC 4) (AH (AB 3))
(AE (AC 5) (Am (AB 4))
(AE (AC 6) (AD 2 (AB 1))
(AE (AC 7) (AH (AB 6))
(AE (AC 8) (AS iGe .i64 (AB 5) (AB 7))
(AE (AC 2) (AF (AB 8))
Ak)))))))))
theorem W9 {n : Nat} {args : List Value} {h : Hp} (hl : Nat.ble (Bk args) 320 = true) : call AK (Nat.succ n) 32 args h = Bt [.t (AB 2)] (d32 (call AK n) (Av e0 0 args) h) := by
  have hb : AK.get 32 = some b32 := by kernel_rfl
  rw [BN hb]
  have hd : b32 = ⟨[.t (AB 2)], d32⟩ := by kernel_rfl
  rw [hd, BE hl]
def d33 : C :=
(AE (AC 2) (AF (kV (.slice none 0 0)))
(AE (AC 4) (oEq RP.k false (AB 0) (kV (.slice none 0 0)))
(AO (AB 4)
(AE (AC 2) (AF (kV (.slice none 0 0)))
Ak)
(AE (AC 5) (Ar 0 (BI FA.zero 0) [])
(AE (AC 7) (Bb 3 40 56 (AB 5) (AB 0))
(AE (AC 2) (AF (AB 7))
Ak))))))
theorem XA {n : Nat} {args : List Value} {h : Hp} (hl : Nat.ble (Bk args) 320 = true) : call AK (Nat.succ n) 33 args h = Bt [.t (AB 2)] (d33 (call AK n) (Av e0 0 args) h) := by
  have hb : AK.get 33 = some b33 := by kernel_rfl
  rw [BN hb]
  have hd : b33 = ⟨[.t (AB 2)], d33⟩ := by kernel_rfl
  rw [hd, BE hl]
def d34 : C :=
(AE (AC 2) (AF (kV (.slice none 0 0)))
(AE (AC 4) (oEq PA.k false (AB 0) (kV (.slice none 0 0)))
(AO (AB 4)
(AE (AC 2) (AF (kV (.slice none 0 0)))
Ak)
(AE (AC 5) (Ar 0 (BI ty3.zero 0) [])
(AE (AC 7) (Bb 1 8 3 (AB 5) (AB 0))
(AE (AC 2) (AF (AB 7))
Ak))))))
theorem L4 {n : Nat} {args : List Value} {h : Hp} (hl : Nat.ble (Bk args) 320 = true) : call AK (Nat.succ n) 34 args h = Bt [.t (AB 2)] (d34 (call AK n) (Av e0 0 args) h) := by
  have hb : AK.get 34 = some b34 := by kernel_rfl
  rw [BN hb]
  have hd : b34 = ⟨[.t (AB 2)], d34⟩ := by kernel_rfl
  rw [hd, BE hl]
def d35 : C :=
(AE (AC 2) (AF (kV (.slice none 0 0)))
(AE (AC 4) (oEq PB.k false (AB 0) (kV (.slice none 0 0)))
(AO (AB 4)
(AE (AC 2) (AF (kV (.slice none 0 0)))
Ak)
(AE (AC 5) (Ar 0 (BI Ec.zero 0) [])
(AE (AC 7) (Bb 1 24 36 (AB 5) (AB 0))
(AE (AC 2) (AF (AB 7))
Ak))))))
theorem L5 {n : Nat} {args : List Value} {h : Hp} (hl : Nat.ble (Bk args) 320 = true) : call AK (Nat.succ n) 35 args h = Bt [.t (AB 2)] (d35 (call AK n) (Av e0 0 args) h) := by
  have hb : AK.get 35 = some b35 := by kernel_rfl
  rw [BN hb]
  have hd : b35 = ⟨[.t (AB 2)], d35⟩ := by kernel_rfl
  rw [hd, BE hl]
def d36 : C :=
(AE (AC 2) (AF (kV (.slice none 0 0)))
(AE (AC 4) (oEq Ec.k false (AB 0) (kV (.slice none 0 0)))
(AO (AB 4)
(AE (AC 2) (AF (kV (.slice none 0 0)))
Ak)
(AE (AC 5) (Ar 0 (BI ty5.zero 0) [])
(AE (AC 7) (Bb 1 1 5 (AB 5) (AB 0))
(AE (AC 2) (AF (AB 7))
Ak))))))
theorem Jr {n : Nat} {args : List Value} {h : Hp} (hl : Nat.ble (Bk args) 320 = true) : call AK (Nat.succ n) 36 args h = Bt [.t (AB 2)] (d36 (call AK n) (Av e0 0 args) h) := by
  have hb : AK.get 36 = some b36 := by kernel_rfl
  rw [BN hb]
  have hd : b36 = ⟨[.t (AB 2)], d36⟩ := by kernel_rfl
  rw [hd, BE hl]
def d39 : C :=
(AE (AC 2) (Bd (AB 0))
(AE (AC 3) (AF (kV (.bool false)))
(AE (AC 4) (AD 0 (AB 2))
(AE (AC 5) (AH (AB 4))
(AE (AC 6) (AS iEq .i64 (AB 5) (kV (.int .i64 2)))
(cG (AB 6) true (AC 8) (AD 2 (AB 2))
(cG (AB 6) true (AC 9) (AH (AB 8))
(cG (AB 6) true (AC 10) (Am (AB 9))
(cG (AB 6) true (AC 11) (AS iEq .i64 (AB 10) (kV (.int .i64 0)))
(AE (AC 12) (AW (AB 6) (AB 11) (kV (.bool false)))
(cG (AB 12) true (AC 14) (AD 1 (AB 2))
(cG (AB 12) true (AC 15) (AH (AB 14))
(cG (AB 12) true (AC 16) (AF (AB 15))
(cG (AB 16) false (AC 17) (AD 1 (AB 1))
(cG (AB 16) false (AC 18) (AH (AB 17))
(cG (AB 16) false (AC 19) (AS iEq .i64 (AB 18) (kV (.int .i64 0)))
(cG (AB 12) true (AC 20) (AW (AB 16) (kV (.bool true)) (AB 19))
(AE (AC 21) (AW (AB 12) (AB 20) (kV (.bool false)))
(AE (AC 3) (AF (AB 21))
Ak)))))))))))))))))))
theorem XC {n : Nat} {args : List Value} {h : Hp} (hl : Nat.ble (Bk args) 320 = true) : call AK (Nat.succ n) 39 args h = Bt [.t (AB 3)] (d39 (call AK n) (Av e0 0 args) h) := by
  have hb : AK.get 39 = some b39 := by kernel_rfl
  rw [BN hb]
  have hd : b39 = ⟨[.t (AB 3)], d39⟩ := by kernel_rfl
  rw [hd, BE hl]
def d40 : C :=
(AE (AC 1) (Bd (AB 0))
(AE (AC 2) (AF (kV (.bool false)))
(AE (AC 3) (AD 0 (AB 1))
(AE (AC 4) (AH (AB 3))
(AE (AC 5) (AS iNe .i64 (AB 4) (kV (.int .i64 0)))
(cG (AB 5) true (AC 7) (AD 0 (AB 1))
(cG (AB 5) true (AC 8) (AH (AB 7))
(cG (AB 5) true (AC 9) (AS iNe .i64 (AB 8) (kV (.int .i64 1)))
(AE (AC 10) (AW (AB 5) (AB 9) (kV (.bool false)))
(AE (AC 2) (AF (AB 10))
Ak))))))))))
theorem XD {n : Nat} {args : List Value} {h : Hp} (hl : Nat.ble (Bk args) 320 = true) : call AK (Nat.succ n) 40 args h = Bt [.t (AB 2)] (d40 (call AK n) (Av e0 0 args) h) := by
  have hb : AK.get 40 = some b40 := by kernel_rfl
  rw [BN hb]
  have hd : b40 = ⟨[.t (AB 2)], d40⟩ := by kernel_rfl
  rw [hd, BE hl]
def d41 : C :=
(AE (AC 4) (AF (kV (.bool false)))
(AE (AC 7) (AV 52 [(AB 0), (AB 1)])
(AE (AC 8) (AS iGe .i64 (AB 7) (kV (.int .i64 0)))
(AE (AC 4) (AF (AB 8))
Ak))))
theorem XE {n : Nat} {args : List Value} {h : Hp} (hl : Nat.ble (Bk args) 320 = true) : call AK (Nat.succ n) 41 args h = Bt [.t (AB 4)] (d41 (call AK n) (Av e0 0 args) h) := by
  have hb : AK.get 41 = some b41 := by kernel_rfl
  rw [BN hb]
  have hd : b41 = ⟨[.t (AB 4)], d41⟩ := by kernel_rfl
  rw [hd, BE hl]
def d42 : C :=
(AE (AC 2) (Bd (AB 0))
(AE (AC 4) (AF (kV (.bool false)))
(AE (AC 6) (Am (AB 1))
(AE (AC 7) (AS iLe .i64 (AB 6) (kV (.int .i64 65536)))
(cG (AB 7) true (AC 9) (AD 6 (AB 2))
(cG (AB 7) true (AC 10) (AH (AB 9))
(cG (AB 7) true (AC 11) (Am (AB 10))
(cG (AB 7) true (AC 12) (AS iEq .i64 (AB 11) (kV (.int .i64 0)))
(cG (AB 7) true (AC 13) (AF (AB 12))
(cG (AB 13) false (AC 14) (AF (AB 1))
(cG (AB 13) false (AC 15) (Am (AB 14))
(cG (AB 13) false (AC 16) (AD 6 (AB 2))
(cG (AB 13) false (AC 17) (AH (AB 16))
(cG (AB 13) false (AC 18) (A2 1 (AB 17) (kV (.int .i64 0)))
(cG (AB 13) false (AC 19) (AH (AB 18))
(cG (AB 13) false (AC 20) (Am (AB 19))
(cG (AB 13) false (AC 21) (AS iEq .i64 (AB 15) (AB 20))
(cG (AB 7) true (AC 22) (AW (AB 13) (kV (.bool true)) (AB 21))
(AE (AC 23) (AW (AB 7) (AB 22) (kV (.bool false)))
(AE (AC 4) (AF (AB 23))
Ak))))))))))))))))))))
theorem XF {n : Nat} {args : List Value} {h : Hp} (hl : Nat.ble (Bk args) 320 = true) : call AK (Nat.succ n) 42 args h = Bt [.t (AB 4)] (d42 (call AK n) (Av e0 0 args) h) := by
  have hb : AK.get 42 = some b42 := by kernel_rfl
  rw [BN hb]
  have hd : b42 = ⟨[.t (AB 4)], d42⟩ := by kernel_rfl
  rw [hd, BE hl]
end
end Go.Proofs.Ythcfmklkbakkpaa
set_option linter.unusedVariables false
set_option linter.unusedSimpArgs false
namespace Go.Proofs.Ythcfmklkbakkpaa
noncomputable section
open Go Go.RowKit Go.ChangeShapes
set_option maxRecDepth 100000
abbrev A6 : Value := .slice none 0 0
abbrev pt (b : Nat) : Value := .pointer (some ⟨b, 0, none⟩)
theorem cm {a b : Int} (h : b ≤ a) : iGe a b = true := (Jv a b).trans (decide_eq_true h)
theorem Py {a b : Int} (h : ¬ b ≤ a) : iGe a b = false := (Jv a b).trans (decide_eq_false h)
theorem VE {a b : Int} (h : a ≤ b) : iLe a b = true := (MR a b).trans (decide_eq_true h)
theorem Na {a b : Int} (h : ¬ a ≤ b) : iLe a b = false := (MR a b).trans (decide_eq_false h)
theorem Ku {a b : Int} (h : a < b) : iLt a b = true := (C7 a b).trans (decide_eq_true h)
theorem Ek {a b : Int} (h : ¬ a < b) : iLt a b = false := (C7 a b).trans (decide_eq_false h)
theorem Ga {a b : Int} (h : b < a) : iGt a b = true := (Pz a b).trans (decide_eq_true h)
theorem DD {a b : Int} (h : ¬ b < a) : iGt a b = false := (Pz a b).trans (decide_eq_false h)
theorem Cu {a b : Int} (h : a = b) : iEq a b = true := by rw [D8]; simpa using h
theorem Cj {a b : Int} (h : ¬ a = b) : iEq a b = false := by rw [D8]; simpa using h
theorem EO {h : Hp} {b b' el el' : Nat} {L L' : List Value} (r : h.Row b el L) (r' : h.Row b' el' L') (he : el ≠ el') : b ≠ b' := fun hb => by
  subst hb
  obtain ⟨_, e1, _⟩ := r
  obtain ⟨_, e2, _⟩ := r'
  rw [e1] at e2
  injection e2 with _ _ e3
  exact he e3
theorem F4 {a b : Int} (h : ¬ a = b) : iNe a b = true := by rw [Jw]; simpa using h
theorem Dv {a b : Int} (h : a = b) : iNe a b = false := by rw [Jw]; simpa using h
theorem GC {a b : Nat} (h : a < b) : iLt (a : Int) (b : Int) = true := by rw [C7]; simp; omega
theorem EP {a b : Nat} (h : b ≤ a) : iLt (a : Int) (b : Int) = false := by rw [C7]; simp; omega
theorem CY {h : Hp} {i : Nat} (hi : i < 9000000000000000000) : Jj .i64 (.int .i64 (i : Int)) (.int .i64 1) h = .ok (.int .i64 ((i + 1 : Nat) : Int)) h := by
  have : (i : Int) + 1 = ((i + 1 : Nat) : Int) := by omega
  rw [Fe, this, Cg (by omega)]
theorem BW {k : IntKind} {Z : List Int} : (ints k Z).length = Z.length := List.length_map ..
theorem Fl {k : IntKind} {Z : List Int} {i : Nat} (hi : i < Z.length) : (ints k Z).getD i noRes = .int k (Z.getD i 0) := by
  unfold ints
  rw [List.getD_eq_getElem?_getD, List.getElem?_map, List.getD_eq_getElem?_getD, List.getElem?_eq_getElem hi]; rfl
theorem Hp.Vals.int {h : Hp} {k : IntKind} {u : Value} {Z : List Int} (V : h.Vals u (ints k Z)) {i : Nat} (hi : i < Z.length) : ∃ a, Cv 1 u (.int .i64 (i : Int)) h = .ok (.pointer (some a)) h ∧ JN (.pointer (some a)) h = .ok (.int k (Z.getD i 0)) h := by
  obtain ⟨a, g1, g2⟩ := V.at (i := i) (by rw [BW]; exact hi)
  rw [Fl hi] at g2
  exact ⟨a, g1, g2⟩
theorem Hp.Vals.ilen {h : Hp} {k : IntKind} {u : Value} {Z : List Int} (V : h.Vals u (ints k Z)) : lenSR u h = .ok (.int .i64 (Z.length : Int)) h := by
  have := V.len; rwa [BW] at this
def siB : C := (AE (AC 13) (Am (AB 0))
(AE (AC 14) (AS iLt .i64 (AB 5) (AB 13))
(AO (AB 14)
(As (Ab 1 (BH (AE (AC 19) (A2 1 (AB 0) (AB 5))
(AE (AC 20) (AH (AB 19))
(AE (AC 23) (A2 1 (AB 1) (AB 5))
(AE (AC 24) (AH (AB 23))
(AE (AC 25) (AS iNe .i64 (AB 20) (AB 24))
(AO (AB 25)
(AE (AC 4) (AF (kV (.bool false)))
Ak)
AQ))))))))
(AE (AC 16) (A9 .i64 (At .i64) (AB 5) (kV (.int .i64 1)))
(AE (AC 5) (AF (AB 16))
AQ)))
(A3 0))))
def siE : C := (AE (AC 4) (AF (kV (.bool true)))
Ak)
theorem UJ {F : CallF} {h : Hp} {u v : Value} {zs : List Int} (V : h.Vals u (ints .i64 zs)) (U : h.Vals v (ints .i64 zs)) (hl : zs.length < 900000) {e : Env} (s0 : AB 0 e = u) (s1 : AB 1 e = v) (s5 : AB 5 e = .int .i64 0) :
    ∃ e' h', Ay siB F e h = .exit 0 e' h' ∧ (h' = h ∨ h' = h.marked) := by
  refine B8 (I := fun i e' h' => (h' = h ∨ h' = h.marked) ∧ AB 0 e' = u ∧ AB 1 e' = v ∧ AB 5 e' = .int .i64 (i : Int) ∧ i ≤ zs.length)
    (Q := fun x => ∃ e' h', x = .exit 0 e' h' ∧ (h' = h ∨ h' = h.marked)) zs.length (by omega) (fun i e' h' ⟨hh, t0, t1, t5, hi⟩ => ?_) ⟨.inl rfl, s0, s1, s5, Nat.zero_le _⟩
  have hm : h'.marked = h.marked := by rcases hh with rfl | rfl <;> rfl
  have hbl : h'.bl = h.bl := by rcases hh with rfl | rfl <;> rfl
  have V1 := V.same hbl
  by_cases hlt : i < zs.length
  · left
    have V2 : h.marked.Vals u (ints .i64 zs) := V.same rfl
    have U2 : h.marked.Vals v (ints .i64 zs) := U.same rfl
    obtain ⟨a, g1, g2⟩ := V2.int hlt
    obtain ⟨b, g3, g4⟩ := U2.int hlt
    have c1 : iLt (i : Int) (zs.length : Int) = true := by rw [C7]; simp; omega
    have c2 : iNe (zs.getD i 0) (zs.getD i 0) = false := by rw [Jw]; simp
    have a3 : Jj .i64 (.int .i64 (i : Int)) (.int .i64 1) h.marked = .ok (.int .i64 ((i + 1 : Nat) : Int)) h.marked := by
      have : (i : Int) + 1 = ((i + 1 : Nat) : Int) := by omega
      rw [Fe, this, Cg (by omega)]
    have hrun : ∃ e2, siB F e' h' = .norm e2 h.marked ∧ AB 0 e2 = u ∧ AB 1 e2 = v ∧ AB 5 e2 = .int .i64 ((i + 1 : Nat) : Int) := by
      unfold siB
      simp only [sT, Nat.reduceLT, Nat.reduceEqDiff, if_true, if_false, reduceIte, Ai, t0, V1.ilen, AZ, AY, t5, c1, Bc, hm, BG, g1, AP, g2, t1, g3, g4, c2, Bl, a3]
      exact ⟨_, rfl, by simp only [AG, Nat.reduceLT, Nat.reduceEqDiff, if_true, if_false, reduceIte]; exact t0, by simp only [AG, Nat.reduceLT, Nat.reduceEqDiff, if_true, if_false, reduceIte]; exact t1, by simp [AG]⟩
    obtain ⟨e2, r1, r2, r3, r4⟩ := hrun
    exact ⟨hlt, e2, h.marked, r1, .inr rfl, r2, r3, r4, hlt⟩
  · right
    have c1 : iLt (i : Int) (zs.length : Int) = false := by rw [C7]; simp; omega
    have hrun : ∃ e2, siB F e' h' = .exit 0 e2 h' := by
      unfold siB
      simp only [sT, Nat.reduceLT, Nat.reduceEqDiff, if_true, if_false, reduceIte, Ai, t0, V1.ilen, AZ, AY, t5, c1]
      exact ⟨_, rfl⟩
    obtain ⟨e2, r1⟩ := hrun
    rw [r1]
    exact ⟨rfl, e2, h', rfl, hh⟩
def siS : C := (As (Ab 0 (Ay (AE (AC 13) (Am (AB 0))
(AE (AC 14) (AS iLt .i64 (AB 5) (AB 13))
(AO (AB 14)
(As (Ab 1 (BH (AE (AC 19) (A2 1 (AB 0) (AB 5))
(AE (AC 20) (AH (AB 19))
(AE (AC 23) (A2 1 (AB 1) (AB 5))
(AE (AC 24) (AH (AB 23))
(AE (AC 25) (AS iNe .i64 (AB 20) (AB 24))
(AO (AB 25)
(AE (AC 4) (AF (kV (.bool false)))
Ak)
AQ))))))))
(AE (AC 16) (A9 .i64 (At .i64) (AB 5) (kV (.int .i64 1)))
(AE (AC 5) (AF (AB 16))
AQ)))
(A3 0))))))
(AE (AC 4) (AF (kV (.bool true)))
Ak))
theorem Ya : siS = As (Ab 0 (Ay siB)) siE := rfl
def SP : C := (AE (AC 4) (AF (kV (.bool false)))
(AE (AC 7) (Am (AB 0))
(AE (AC 9) (Am (AB 1))
(AE (AC 10) (AS iNe .i64 (AB 7) (AB 9))
(AO (AB 10)
(AE (AC 4) (AF (kV (.bool false)))
Ak)
(AE (AC 5) (AF (kV (.int .i64 0)))
siS))))))
def d19 : C := SP
theorem Ww {n : Nat} {args : List Value} {h : Hp} (hl : Nat.ble (Bk args) 320 = true) : call AK (Nat.succ n) 19 args h = Bt [.t (AB 4)] (d19 (call AK n) (Av e0 0 args) h) := by
  have hb : AK.get 19 = some b19 := by kernel_rfl
  rw [BN hb]
  have hd : b19 = ⟨[.t (AB 4)], d19⟩ := by kernel_rfl
  rw [hd, BE hl]
theorem XR : d19 = SP := rfl
theorem VH {n : Nat} {h : Hp} {u v : Value} {zs : List Int} (V : h.Vals u (ints .i64 zs)) (U : h.Vals v (ints .i64 zs)) (hl : zs.length < 900000) : ∃ h', call AK (n + 1) 19 [u, v] h = .ok (.bool true) h' ∧ (h' = h ∨ h' = h.marked) := by
  have c1 : iNe (zs.length : Int) (zs.length : Int) = false := by rw [Jw]; simp
  have pre : ∃ e1, SP (call AK n) (Av e0 0 [u, v]) h = siS (call AK n) e1 h ∧ AB 0 e1 = u ∧ AB 1 e1 = v ∧ AB 5 e1 = .int .i64 0 := by
    unfold SP
    simp only [Ac, Af, Nat.succ_eq_add_one, Nat.zero_add, Nat.reduceAdd, Br, Bh, Bs, Ba, BM, Bz, AG, Nat.reduceLT, Nat.reduceEqDiff, if_true, if_false, reduceIte, Ai, V.ilen, U.ilen, AZ, AY, c1]
    exact ⟨_, rfl, by simp [AG], by simp [AG], by simp [AG]⟩
  obtain ⟨e1, p1, p2, p3, p4⟩ := pre
  obtain ⟨e2, h', q1, q2⟩ := UJ (F := call AK n) V U hl p2 p3 p4
  refine ⟨h', ?_, q2⟩
  rw [Ww rfl, XR, p1, Ya]
  simp only [Be, BQ, q1, BJ, BB]
  unfold siE
  simp only [sT, Nat.reduceLT, Nat.reduceEqDiff, if_true, if_false, reduceIte, Ao, Ax]
theorem KR : ∀ l : List UInt8, bEq l l = true
  | [] => rfl
  | a :: l => by
    show (bif Nat.beq a.toNat a.toNat then bEq l l else false) = true
    rw [Nat.beq_refl, KR l]; rfl
theorem dK {n : Nat} {h : Hp} {u v : Value} {l : List Nat} (V : h.Vals u (l.map bv)) (U : h.Vals v (l.map bv)) : call AK (n + 1) 31 [u, v] h = .ok (.bool true) h := by
  rw [W8 rfl]
  unfold d31
  simp only [Ac, Af, Nat.succ_eq_add_one, Nat.zero_add, Nat.reduceAdd, sT, Nat.reduceLT, Nat.reduceEqDiff, if_true, if_false, reduceIte, On, V.bytes.str, U.bytes.str, Tx, SZ, KR, Ao, Ax]
theorem SX {zs : List Int} {i : Nat} (hlt : i < zs.length) : zs.drop i = zs.getD i 0 :: zs.drop (i + 1) := by
  rw [List.drop_eq_getElem_cons hlt, List.getD_eq_getElem?_getD, List.getElem?_eq_getElem hlt]; rfl
def GB (x : Int) : Nat → List Int → Int
  | _, [] => -1
  | i, z :: l => if x = z then (i : Int) else GB x (i + 1) l
theorem Nd (x : Int) : ∀ (zs : List Int) (i : Nat), (x ∉ zs ∧ GB x i zs = -1) ∨ (x ∈ zs ∧ ∃ k, k < zs.length ∧ GB x i zs = ((i + k : Nat) : Int) ∧ zs.getD k 0 = x)
  | [], i => .inl ⟨fun h => (by cases h), rfl⟩
  | z :: l, i => by
    unfold GB
    by_cases h : x = z
    · rw [if_pos h]
      exact .inr ⟨by rw [h]; exact List.mem_cons_self, 0, Nat.succ_pos _, rfl, h.symm⟩
    · rw [if_neg h]
      rcases Nd x l (i + 1) with ⟨h1, h2⟩ | ⟨h1, k, h2, h3, h4⟩
      · refine .inl ⟨fun hx => ?_, h2⟩
        rcases List.mem_cons.1 hx with hx | hx
        · exact h hx
        · exact h1 hx
      · exact .inr ⟨List.mem_cons_of_mem _ h1, k + 1, Nat.succ_lt_succ h2, by rw [h3]; congr 1; omega, h4⟩
theorem St (x : Int) (zs : List Int) : (0 ≤ GB x 0 zs) ↔ x ∈ zs := by
  rcases Nd x zs 0 with ⟨h1, h2⟩ | ⟨h1, k, _, h3, _⟩
  · rw [h2]; exact ⟨fun h => by omega, fun h => absurd h h1⟩
  · rw [h3]; exact ⟨fun _ => h1, fun _ => by omega⟩
theorem Sr (x : Int) (zs : List Int) : iGe (GB x 0 zs) 0 = decide (x ∈ zs) := by
  rw [Jv, decide_eq_decide]; exact St x zs
def ixB : C := (AE (AC 9) (AS iLt .i64 (AB 8) (AB 7))
(AO (AB 9)
(As (Ab 1 (AE (AC 5) (AF (AB 8))
(AE (AC 14) (A2 1 (AB 0) (AB 5))
(AE (AC 15) (AH (AB 14))
(AE (AC 16) (AS iEq .i64 (AB 1) (AB 15))
(AO (AB 16)
(AE (AC 4) (AF (AB 5))
Ak)
AQ))))))
(AE (AC 18) (A9 .i64 (At .i64) (AB 8) (kV (.int .i64 1)))
(AE (AC 8) (AF (AB 18))
AQ)))
(A3 0)))
def ixE : C := (AE (AC 4) (AF (kV (.int .i64 (-1))))
Ak)
def ixS : C := (As (Ab 0 (Ay (AE (AC 9) (AS iLt .i64 (AB 8) (AB 7))
(AO (AB 9)
(As (Ab 1 (AE (AC 5) (AF (AB 8))
(AE (AC 14) (A2 1 (AB 0) (AB 5))
(AE (AC 15) (AH (AB 14))
(AE (AC 16) (AS iEq .i64 (AB 1) (AB 15))
(AO (AB 16)
(AE (AC 4) (AF (AB 5))
Ak)
AQ))))))
(AE (AC 18) (A9 .i64 (At .i64) (AB 8) (kV (.int .i64 1)))
(AE (AC 8) (AF (AB 18))
AQ)))
(A3 0)))))
(AE (AC 4) (AF (kV (.int .i64 (-1))))
Ak))
theorem YC : ixS = As (Ab 0 (Ay ixB)) ixE := rfl
def SU : C := (AE (AC 4) (AF (kV (.int .i64 0)))
(AE (AC 7) (Am (AB 0))
(AE (AC 8) (AF (kV (.int .i64 0)))
ixS)))
def d52 : C := SU
theorem XG {n : Nat} {args : List Value} {h : Hp} (hl : Nat.ble (Bk args) 320 = true) : call AK (Nat.succ n) 52 args h = Bt [.t (AB 4)] (d52 (call AK n) (Av e0 0 args) h) := by
  have hb : AK.get 52 = some b52 := by kernel_rfl
  rw [BN hb]
  have hd : b52 = ⟨[.t (AB 4)], d52⟩ := by kernel_rfl
  rw [hd, BE hl]
theorem XY : d52 = SU := rfl
theorem Sv {F : CallF} {h : Hp} {u : Value} {zs : List Int} {x : Int} (V : h.Vals u (ints .i64 zs)) (hl : zs.length < 900000) {e : Env} (s0 : AB 0 e = u) (s1 : AB 1 e = .int .i64 x) (s7 : AB 7 e = .int .i64 (zs.length : Int)) (s8 : AB 8 e = .int .i64 0) :
    (∃ e', Ay ixB F e h = .exit 0 e' h ∧ GB x 0 zs = -1) ∨ (∃ e', Ay ixB F e h = .ret e' h ∧ AB 4 e' = .int .i64 (GB x 0 zs)) := by
  refine B8 (I := fun i e' h' => h' = h ∧ AB 0 e' = u ∧ AB 1 e' = .int .i64 x ∧ AB 7 e' = .int .i64 (zs.length : Int) ∧ AB 8 e' = .int .i64 (i : Int) ∧ i ≤ zs.length ∧ GB x 0 zs = GB x i (zs.drop i))
    (Q := fun y => (∃ e', y = .exit 0 e' h ∧ GB x 0 zs = -1) ∨ (∃ e', y = .ret e' h ∧ AB 4 e' = .int .i64 (GB x 0 zs))) zs.length (by omega) (fun i e' h' ⟨hh, t0, t1, t7, t8, hi, hr⟩ => ?_)
    ⟨rfl, s0, s1, s7, s8, Nat.zero_le _, rfl⟩
  subst hh
  by_cases hlt : i < zs.length
  · obtain ⟨a, g1, g2⟩ := V.int hlt
    have hd : zs.drop i = zs.getD i 0 :: zs.drop (i + 1) := by
      rw [List.drop_eq_getElem_cons hlt, List.getD_eq_getElem?_getD, List.getElem?_eq_getElem hlt]; rfl
    rw [hd] at hr
    generalize zs.getD i 0 = z at g2 hr
    have hr : GB x 0 zs = if x = z then (i : Int) else GB x (i + 1) (zs.drop (i + 1)) := hr
    have c1 : iLt (i : Int) (zs.length : Int) = true := by rw [C7]; simp; omega
    by_cases hx : x = z
    · right
      have c2 : iEq x z = true := by rw [D8]; simpa using hx
      have hrun : ∃ e2, ixB F e' h' = .ret e2 h' ∧ AB 4 e2 = .int .i64 (i : Int) := by
        unfold ixB
        simp only [sT, Nat.reduceLT, Nat.reduceEqDiff, if_true, if_false, reduceIte, AZ, AY, t8, t7, c1, BG, t0, g1, AP, g2, t1, c2]
        exact ⟨_, rfl, by simp [AG]⟩
      obtain ⟨e2, r1, r2⟩ := hrun
      rw [r1]
      refine ⟨rfl, .inr ⟨e2, rfl, ?_⟩⟩
      rw [r2, hr, if_pos hx]
    · left
      have c2 : iEq x z = false := by rw [D8]; simpa using hx
      have a3 : Jj .i64 (.int .i64 (i : Int)) (.int .i64 1) h' = .ok (.int .i64 ((i + 1 : Nat) : Int)) h' := by
        have : (i : Int) + 1 = ((i + 1 : Nat) : Int) := by omega
        rw [Fe, this, Cg (by omega)]
      have hrun : ∃ e2, ixB F e' h' = .norm e2 h' ∧ AB 0 e2 = u ∧ AB 1 e2 = .int .i64 x ∧ AB 7 e2 = .int .i64 (zs.length : Int) ∧ AB 8 e2 = .int .i64 ((i + 1 : Nat) : Int) := by
        unfold ixB
        simp only [sT, Nat.reduceLT, Nat.reduceEqDiff, if_true, if_false, reduceIte, AZ, AY, t8, t7, c1, BG, t0, g1, AP, g2, t1, c2, Bl, a3]
        exact ⟨_, rfl, by simp only [AG, Nat.reduceLT, Nat.reduceEqDiff, if_true, if_false, reduceIte]; exact t0, by simp only [AG, Nat.reduceLT, Nat.reduceEqDiff, if_true, if_false, reduceIte]; exact t1, by simp only [AG, Nat.reduceLT, Nat.reduceEqDiff, if_true, if_false, reduceIte]; exact t7, by simp [AG]⟩
      obtain ⟨e2, r1, r2, r3, r4, r5⟩ := hrun
      rw [if_neg hx] at hr
      exact ⟨hlt, e2, h', r1, rfl, r2, r3, r4, r5, hlt, hr⟩
  · right
    have c1 : iLt (i : Int) (zs.length : Int) = false := by rw [C7]; simp; omega
    have hrun : ∃ e2, ixB F e' h' = .exit 0 e2 h' := by
      unfold ixB
      simp only [sT, Nat.reduceLT, Nat.reduceEqDiff, if_true, if_false, reduceIte, AZ, AY, t8, t7, c1]
      exact ⟨_, rfl⟩
    obtain ⟨e2, r1⟩ := hrun
    rw [r1]
    refine ⟨rfl, .inl ⟨e2, rfl, ?_⟩⟩
    rw [hr, List.drop_of_length_le (by omega)]; rfl
theorem P2 {n : Nat} {h : Hp} {u : Value} {zs : List Int} {x : Int} (V : h.Vals u (ints .i64 zs)) (hl : zs.length < 900000) : call AK (n + 1) 52 [u, .int .i64 x] h = .ok (.int .i64 (GB x 0 zs)) h := by
  have pre : ∃ e1, SU (call AK n) (Av e0 0 [u, .int .i64 x]) h = ixS (call AK n) e1 h ∧ AB 0 e1 = u ∧ AB 1 e1 = .int .i64 x ∧ AB 7 e1 = .int .i64 (zs.length : Int) ∧ AB 8 e1 = .int .i64 0 := by
    unfold SU
    simp only [Ac, Af, Nat.succ_eq_add_one, Nat.zero_add, Nat.reduceAdd, Br, Bs, BM, Bz, AG, Nat.reduceLT, Nat.reduceEqDiff, if_true, if_false, reduceIte, Ai, V.ilen]
    exact ⟨_, rfl, by simp [AG], by simp [AG], by simp [AG], by simp [AG]⟩
  obtain ⟨e1, p1, p0, pp1, p7, p8⟩ := pre
  rw [XG rfl, XY, p1, YC]
  rcases Sv (F := call AK n) V hl p0 pp1 p7 p8 with ⟨e2, q1, q2⟩ | ⟨e2, q1, q2⟩
  · simp only [Be, BQ, q1, BJ, BB]
    unfold ixE
    simp only [sT, Nat.reduceLT, Nat.reduceEqDiff, if_true, if_false, reduceIte, Ao, Ax, q2]
  · simp only [Be, BQ, q1, C2, Ds, Ao, Ax, q2]
theorem HL {n : Nat} {h : Hp} {u : Value} {zs : List Int} {x : Int} (V : h.Vals u (ints .i64 zs)) (hl : zs.length < 900000) : call AK (n + 2) 41 [u, .int .i64 x] h = .ok (.bool (decide (x ∈ zs))) h := by
  have k1 := P2 (n := n) (x := x) V hl
  rw [XE rfl]
  unfold d41
  simp only [Ac, Af, Nat.succ_eq_add_one, Nat.zero_add, Nat.reduceAdd, sT, Nat.reduceLT, Nat.reduceEqDiff, if_true, if_false, reduceIte, Ap, Ae, Al, k1, AZ, AY, Sr, Ao, Ax]
theorem Da {e : Env} {h h' : Hp} {g : O} {n : Nat} {v : Value} (hv : J1 n (g e) h = .ok v h') : FN [.cN g n] e h = .ok v h := by
  have h1 : E6 e h (.cN g n) = .ok v h' := hv
  show (match E6 e h (.cN g n) with | .ok v _ => forceV v fun v => Hf h [v] | .no => .no) = _
  rw [h1]
  simp only [BR]; rfl
def Hp.VS (h : Hp) (S : Nat → Prop) (v : Value) (xs : List Value) : Prop := (v = A6 ∧ xs = []) ∨ ∃ b off c el L, v = .slice (some ⟨b, off, none⟩) xs.length c ∧ xs.length ≤ c ∧ h.Row b el L ∧ off + xs.length ≤ L.length ∧ (L.drop off).take xs.length = xs ∧ S b
section
variable {h h' : Hp} {S S' : Nat → Prop} {v : Value} {xs : List Value}
theorem Hp.VS.vals (o : h.VS S v xs) : h.Vals v xs := by
  rcases o with h1 | ⟨b, off, c, el, L, h1, h2, h3, h4, h5, _⟩
  · exact .inl h1
  · exact .inr ⟨b, off, c, el, L, h1, h3, h4, h5⟩
theorem Hp.VS.keep (o : h.VS S v xs) (hk : ∀ b el L, S b → h.Row b el L → h'.Row b el L) : h'.VS S v xs := by
  rcases o with h1 | ⟨b, off, c, el, L, h1, h2, h3, h4, h5, h6⟩
  · exact .inl h1
  · exact .inr ⟨b, off, c, el, L, h1, h2, hk _ _ _ h6 h3, h4, h5, h6⟩
theorem Hp.VS.ext (o : h.VS S v xs) (W : h.Wf) (x : h.Ext h') : h'.VS S v xs := o.keep fun _ _ _ _ r => r.ext W x
theorem Hp.VS.same (o : h.VS S v xs) (hb : h'.bl = h.bl) : h'.VS S v xs := o.keep fun _ _ _ _ r => r.same hb
theorem Hp.VS.mono (o : h.VS S v xs) (hs : ∀ b, S b → S' b) : h.VS S' v xs := by
  rcases o with h1 | ⟨b, off, c, el, L, h1, h2, h3, h4, h5, h6⟩
  · exact .inl h1
  · exact .inr ⟨b, off, c, el, L, h1, h2, h3, h4, h5, hs _ h6⟩
theorem Hp.VS.lt (o : h.VS S v xs) (W : h.Wf) : h.VS (fun b => S b ∧ b < h.next) v xs := by
  rcases o with h1 | ⟨b, off, c, el, L, h1, h2, h3, h4, h5, h6⟩
  · exact .inl h1
  · exact .inr ⟨b, off, c, el, L, h1, h2, h3, h4, h5, h6, h3.lt W⟩
theorem Hp.VS.one (o : h.VS S v xs) : cellsOf v = [v] ∧ Bn v = true ∧ known v = true := by
  rcases o with ⟨rfl, _⟩ | ⟨b, off, c, el, L, rfl, _⟩ <;> exact ⟨rfl, rfl, rfl⟩
theorem Hp.VS.cap (o : h.VS S v xs) : ∃ a c, v = .slice a xs.length c ∧ xs.length ≤ c := by
  rcases o with ⟨rfl, rfl⟩ | ⟨b, off, c, el, L, rfl, h2, _⟩
  · exact ⟨none, 0, rfl, Nat.le_refl _⟩
  · exact ⟨_, _, rfl, h2⟩
theorem Fv {l : List Value} (h : ∀ x ∈ l, Bn x = true) : Bj l = true := by
  induction l with
  | nil => rfl
  | cons a l ih =>
    show (bif Bn a then Bj l else false) = true
    rw [h a List.mem_cons_self, ih fun x hx => h x (List.mem_cons_of_mem _ hx)]; rfl
end
def Hp.Cl (h : Hp) (S : Nat → Prop) (en : Nat) (v : Value) (xs : List Value) : Prop := (v = A6 ∧ xs = []) ∨ ∃ b el, v = .slice (some ⟨b, 0, none⟩) xs.length xs.length ∧ h.Row b el xs ∧ (el = en + 1 ∨ el = 0 ∧ xs = []) ∧ S b ∧ 256 ≤ b
section
variable {F : CallF} {e : Env} {h h0 h' : Hp} {S S' : Nat → Prop} {en : Nat} {v u : Value} {xs ys : List Value}
theorem Hp.Cl.vs (o : h.Cl S en v xs) : h.VS S v xs := by
  rcases o with h1 | ⟨b, el, h1, h2, h3, h4, h5⟩
  · exact .inl h1
  · exact .inr ⟨b, 0, _, el, xs, h1, Nat.le_refl _, h2, by omega, by rw [List.drop_zero, List.take_length], h4⟩
theorem Hp.Cl.keep (o : h.Cl S en v xs) (hk : ∀ b el L, S b → h.Row b el L → h'.Row b el L) : h'.Cl S en v xs := by
  rcases o with h1 | ⟨b, el, h1, h2, h3, h4, h5⟩
  · exact .inl h1
  · exact .inr ⟨b, el, h1, hk _ _ _ h4 h2, h3, h4, h5⟩
theorem Hp.Cl.ext (o : h.Cl S en v xs) (W : h.Wf) (x : h.Ext h') : h'.Cl S en v xs := o.keep fun _ _ _ _ r => r.ext W x
theorem Hp.Cl.same (o : h.Cl S en v xs) (hb : h'.bl = h.bl) : h'.Cl S en v xs := o.keep fun _ _ _ _ r => r.same hb
theorem Hp.Cl.mono (o : h.Cl S en v xs) (hs : ∀ b, S b → S' b) : h.Cl S' en v xs := by
  rcases o with h1 | ⟨b, el, h1, h2, h3, h4, h5⟩
  · exact .inl h1
  · exact .inr ⟨b, el, h1, h2, h3, hs _ h4, h5⟩
theorem Ej {es eb b n : Nat} {cs : List Value} (x0 : h0.Ext h) (r : h.Row b 0 []) (hs : ∀ k : List Value → R, BL h es u n k = k cs) (hlv : lenV u = .ok n) (hlen : cs.length = n * es) (hn : 0 < n) (ha : Bj cs = true) (hm : (n + 1) * (eb + 1) ≤ 1099511627776) :
    ∃ h', FK es eb en (.slice (some ⟨b, 0, none⟩) 0 0) u h = .ok (.slice (some ⟨h.next, 0, none⟩) n n) h' ∧ h0.Ext h' ∧ h'.Row h.next (en + 1) cs ∧ h'.next = h.next + 1 ∧ h.Ext h' ∧ h'.mark = h.mark ∧ h'.low = h.low ∧ h'.high = h.high := by
  have W := x0.wf
  obtain ⟨cc, hcc, hl⟩ := r.rowOf
  obtain ⟨t, h2, h3⟩ := Ep cs cc [] 0 hl (.inr rfl)
  have h3 : t.Is cs := by simpa using h3
  refine ⟨h.push (.cells t cs.length (en + 1)), ?_, x0.push _, ⟨t, by rw [W.push_get, if_pos rfl], h3⟩, rfl, (Hp.Ext.refl W).push _, rfl, rfl, rfl⟩
  unfold FK Eu
  simp only [hlv, hs, A0, Nat.add_eq, Nat.zero_add]
  have e1 : Nat.ble n 0 = false := by
    cases e : Nat.ble n 0
    · rfl
    · have := Az.1 e; omega
  have e2 : Nat.ble (Nat.mul (Nat.succ n) (Nat.succ eb)) J5 = true := Az.2 (S9 hm)
  rw [e1]
  simp only [e2, cond_true, ha]
  unfold IJ
  have hcc : rowOf h b = .ok cc 0 0 := hcc
  have e3 : Nat.beq 0 (Nat.mul 0 es) = true := A1.2 (Nat.zero_mul es).symm
  simp only [hcc, e3, h2]
  unfold FG
  simp only [hcc, Bf, Nat.add_eq, Nat.zero_add]
  unfold CU
  rw [A0, Em W]; rfl
theorem Ge {es eb b : Nat} (W : h.Wf) (h256 : 256 ≤ b) (r : h.Row b 0 []) (hs : ∀ k : List Value → R, BL h es u 0 k = k []) (hlv : lenV u = .ok 0) :
    FK es eb en (.slice (some ⟨b, 0, none⟩) 0 0) u h = .ok (.slice (some ⟨b, 0, none⟩) 0 0) (h.wr b 0 []) := by
  unfold FK Eu
  simp only [hlv, hs, A0, Nat.add_eq]
  have e1 : Nat.ble 0 0 = true := rfl
  have e0 : 0 + 0 = 0 := rfl
  simp only [e0, e1]
  have e2 : Et ⟨b, 0, none⟩ (Nat.mul 0 es) = ⟨b, 0, none⟩ := by
    rw [show Nat.mul 0 es = 0 from Nat.zero_mul es]; rfl
  rw [e2, r.store W h256 (by simp) rfl]
theorem Hp.Row.srcE {es b el off n c sl : Nat} {l : List Value} (r : h.Row b el l) (ho : off + n * es ≤ l.length) {k : List Value → R} : BL h es (.slice (some ⟨b, off, none⟩) sl c) n k = k ((l.drop off).take (n * es)) := by
  obtain ⟨cc, hc, hl⟩ := r.rowOf
  unfold BL
  simp only [hc]
  have e : Nat.mul n es = n * es := rfl
  rw [e]
  simp only [Nat.add_eq]
  rw [Az.2 ho]
  simp only [cond_true, EM, List.append_nil, Is.rowL hl off _ ho]
theorem Hi {t el : Nat} {k : TK} {g : O} {a : Addr} {n c : Nat} (hk : k = .slice el) (hg : g e = .slice (some a) n c) : oEq k false g (kV (.slice none 0 0)) F e h = .ok (.bool false) h := by
  subst hk
  show (match eqV (.slice el) (g e) (.slice none 0 0) with | some r => okB (false != r) h | none => .no) = _
  rw [hg]
  exact FW
theorem J7 {t el : Nat} {k : TK} {g : O} (hk : k = .slice el) (hg : g e = .slice none 0 0) : oEq k false g (kV (.slice none 0 0)) F e h = .ok (.bool true) h := by
  subst hk
  show (match eqV (.slice el) (g e) (.slice none 0 0) with | some r => okB (false != r) h | none => .no) = _
  rw [hg]
  exact FW
theorem IC {t : List Value} (W : h.Wf) : Ar 0 (BI t 0) [] F e h = .ok (.slice (some ⟨h.next, 0, none⟩) 0 0) (h.pushRow 0 []) := by
  have : BI t 0 = [] := rfl
  rw [this, DM, Cr, D3 W]; rfl
end
theorem VJ : PA.k = .slice 3 := by kernel_rfl
theorem Pd {n : Nat} {h : Hp} (W : h.Wf) {u : Value} {xs : List Value} (V : h.Vals u xs) (ha : Bj xs = true) (hl : xs.length ≤ 1000000) :
    ∃ h' v, call AK (n + 1) 34 [u] h = .ok v h' ∧ h.Ext h' ∧ h'.Cl (fun b => h.next ≤ b ∧ b < h'.next) 3 v xs := by
  rcases V with ⟨rfl, rfl⟩ | ⟨b, off, c, el, L, h1, h2, h3, h4⟩
  · have ne : ∀ e : Env, AB 0 e = .slice none 0 0 → oEq PA.k false (AB 0) (kV (.slice none 0 0)) (call AK n) e h = .ok (.bool true) h := fun e he => J7 (t := 0) VJ he
    refine ⟨h, A6, ?_, .refl W, .inl ⟨rfl, rfl⟩⟩
    rw [L4 rfl]
    unfold d34
    simp only [Ac, Af, Nat.succ_eq_add_one, Nat.zero_add, Nat.reduceAdd, sT, Nat.reduceLT, Nat.reduceEqDiff, if_true, if_false, reduceIte, ne, Ao, Ax]
  · have V : h.Vals u xs := .inr ⟨b, off, c, el, L, h1, h2, h3, h4⟩
    have x1 := (Hp.Ext.refl W).pushRow 0 []
    have R := Hp.Row.new W 0 []
    have es := fun (e : Env) (t : List Value) => IC (F := call AK n) (e := e) (t := t) W
    have n1 : (h.pushRow 0 []).next = h.next + 1 := rfl
    generalize h.pushRow 0 [] = g at x1 R es n1
    have ne : ∀ e : Env, AB 0 e = u → oEq PA.k false (AB 0) (kV (.slice none 0 0)) (call AK n) e h = .ok (.bool false) h := fun e he => Hi (t := 0) VJ (he.trans h1)
    have V1 := V.ext W x1
    have big := W.big
    rcases Nat.eq_zero_or_pos xs.length with hz | hz
    · obtain rfl : xs = [] := List.eq_nil_of_length_eq_zero hz
      have ap : FK 1 8 3 (.slice (some ⟨h.next, 0, none⟩) 0 0) u g = .ok (.slice (some ⟨h.next, 0, none⟩) 0 0) (g.wr h.next 0 []) := Ge x1.wf big R (fun k => V1.src rfl k) V1.lenV
      have R2 := R.wr_self x1.wf (off := 0) (vs := []) (Nat.le_refl _)
      refine ⟨_, .slice (some ⟨h.next, 0, none⟩) 0 0, ?_, R.wr_ext x1 (Nat.le_refl _) (off := 0) (vs := []) (Nat.le_refl _), .inr ⟨h.next, 0, rfl, R2, .inr ⟨rfl, rfl⟩, ⟨Nat.le_refl _, ?_⟩, big⟩⟩
      · rw [L4 rfl]
        unfold d34
        simp only [Ac, Af, Nat.succ_eq_add_one, Nat.zero_add, Nat.reduceAdd, sT, Nat.reduceLT, Nat.reduceEqDiff, if_true, if_false, reduceIte, ne, es, CC, ap, Ao, Ax]
      · have := R.wr_next (off := 0) (vs := []) (Nat.le_refl _)
        omega
    · obtain ⟨h2, a1, a2, a3, a4, a5⟩ := Ej (eb := 8) (en := 3) x1 R (es := 1) (fun k => V1.src rfl k) V1.lenV (by omega) hz ha (by omega)
      refine ⟨h2, _, ?_, a2, .inr ⟨g.next, 3 + 1, rfl, a3, .inl rfl, ⟨by omega, by omega⟩, by omega⟩⟩
      rw [L4 rfl]
      unfold d34
      simp only [Ac, Af, Nat.succ_eq_add_one, Nat.zero_add, Nat.reduceAdd, sT, Nat.reduceLT, Nat.reduceEqDiff, if_true, if_false, reduceIte, ne, es, CC, a1, Ao, Ax]
theorem RQ : Ec.k = .slice 5 := by kernel_rfl
theorem Pc {n : Nat} {h : Hp} (W : h.Wf) {u : Value} {xs : List Value} (V : h.Vals u xs) (ha : Bj xs = true) (hl : xs.length ≤ 1000000) :
    ∃ h' v, call AK (n + 1) 36 [u] h = .ok v h' ∧ h.Ext h' ∧ h'.Cl (fun b => h.next ≤ b ∧ b < h'.next) 5 v xs := by
  rcases V with ⟨rfl, rfl⟩ | ⟨b, off, c, el, L, h1, h2, h3, h4⟩
  · have ne : ∀ e : Env, AB 0 e = .slice none 0 0 → oEq Ec.k false (AB 0) (kV (.slice none 0 0)) (call AK n) e h = .ok (.bool true) h := fun e he => J7 (t := 0) RQ he
    refine ⟨h, A6, ?_, .refl W, .inl ⟨rfl, rfl⟩⟩
    rw [Jr rfl]
    unfold d36
    simp only [Ac, Af, Nat.succ_eq_add_one, Nat.zero_add, Nat.reduceAdd, sT, Nat.reduceLT, Nat.reduceEqDiff, if_true, if_false, reduceIte, ne, Ao, Ax]
  · have V : h.Vals u xs := .inr ⟨b, off, c, el, L, h1, h2, h3, h4⟩
    have x1 := (Hp.Ext.refl W).pushRow 0 []
    have R := Hp.Row.new W 0 []
    have es := fun (e : Env) (t : List Value) => IC (F := call AK n) (e := e) (t := t) W
    have n1 : (h.pushRow 0 []).next = h.next + 1 := rfl
    generalize h.pushRow 0 [] = g at x1 R es n1
    have ne : ∀ e : Env, AB 0 e = u → oEq Ec.k false (AB 0) (kV (.slice none 0 0)) (call AK n) e h = .ok (.bool false) h := fun e he => Hi (t := 0) RQ (he.trans h1)
    have V1 := V.ext W x1
    have big := W.big
    rcases Nat.eq_zero_or_pos xs.length with hz | hz
    · obtain rfl : xs = [] := List.eq_nil_of_length_eq_zero hz
      have ap : FK 1 1 5 (.slice (some ⟨h.next, 0, none⟩) 0 0) u g = .ok (.slice (some ⟨h.next, 0, none⟩) 0 0) (g.wr h.next 0 []) := Ge x1.wf big R (fun k => V1.src rfl k) V1.lenV
      have R2 := R.wr_self x1.wf (off := 0) (vs := []) (Nat.le_refl _)
      refine ⟨_, .slice (some ⟨h.next, 0, none⟩) 0 0, ?_, R.wr_ext x1 (Nat.le_refl _) (off := 0) (vs := []) (Nat.le_refl _), .inr ⟨h.next, 0, rfl, R2, .inr ⟨rfl, rfl⟩, ⟨Nat.le_refl _, ?_⟩, big⟩⟩
      · rw [Jr rfl]
        unfold d36
        simp only [Ac, Af, Nat.succ_eq_add_one, Nat.zero_add, Nat.reduceAdd, sT, Nat.reduceLT, Nat.reduceEqDiff, if_true, if_false, reduceIte, ne, es, CC, ap, Ao, Ax]
      · have := R.wr_next (off := 0) (vs := []) (Nat.le_refl _)
        omega
    · obtain ⟨h2, a1, a2, a3, a4, a5⟩ := Ej (eb := 1) (en := 5) x1 R (es := 1) (fun k => V1.src rfl k) V1.lenV (by omega) hz ha (by omega)
      refine ⟨h2, _, ?_, a2, .inr ⟨g.next, 5 + 1, rfl, a3, .inl rfl, ⟨by omega, by omega⟩, by omega⟩⟩
      rw [Jr rfl]
      unfold d36
      simp only [Ac, Af, Nat.succ_eq_add_one, Nat.zero_add, Nat.reduceAdd, sT, Nat.reduceLT, Nat.reduceEqDiff, if_true, if_false, reduceIte, ne, es, CC, a1, Ao, Ax]
theorem VK : PB.k = .slice 36 := by kernel_rfl
theorem XI {n : Nat} {h : Hp} (W : h.Wf) {u : Value} {xs : List Value} (V : h.Vals u xs) (ha : Bj xs = true) (hl : xs.length ≤ 1000000) :
    ∃ h' v, call AK (n + 1) 35 [u] h = .ok v h' ∧ h.Ext h' ∧ h'.Cl (fun b => h.next ≤ b ∧ b < h'.next) 36 v xs := by
  rcases V with ⟨rfl, rfl⟩ | ⟨b, off, c, el, L, h1, h2, h3, h4⟩
  · have ne : ∀ e : Env, AB 0 e = .slice none 0 0 → oEq PB.k false (AB 0) (kV (.slice none 0 0)) (call AK n) e h = .ok (.bool true) h := fun e he => J7 (t := 0) VK he
    refine ⟨h, A6, ?_, .refl W, .inl ⟨rfl, rfl⟩⟩
    rw [L5 rfl]
    unfold d35
    simp only [Ac, Af, Nat.succ_eq_add_one, Nat.zero_add, Nat.reduceAdd, sT, Nat.reduceLT, Nat.reduceEqDiff, if_true, if_false, reduceIte, ne, Ao, Ax]
  · have V : h.Vals u xs := .inr ⟨b, off, c, el, L, h1, h2, h3, h4⟩
    have x1 := (Hp.Ext.refl W).pushRow 0 []
    have R := Hp.Row.new W 0 []
    have es := fun (e : Env) (t : List Value) => IC (F := call AK n) (e := e) (t := t) W
    have n1 : (h.pushRow 0 []).next = h.next + 1 := rfl
    generalize h.pushRow 0 [] = g at x1 R es n1
    have ne : ∀ e : Env, AB 0 e = u → oEq PB.k false (AB 0) (kV (.slice none 0 0)) (call AK n) e h = .ok (.bool false) h := fun e he => Hi (t := 0) VK (he.trans h1)
    have V1 := V.ext W x1
    have big := W.big
    rcases Nat.eq_zero_or_pos xs.length with hz | hz
    · obtain rfl : xs = [] := List.eq_nil_of_length_eq_zero hz
      have ap : FK 1 24 36 (.slice (some ⟨h.next, 0, none⟩) 0 0) u g = .ok (.slice (some ⟨h.next, 0, none⟩) 0 0) (g.wr h.next 0 []) := Ge x1.wf big R (fun k => V1.src rfl k) V1.lenV
      have R2 := R.wr_self x1.wf (off := 0) (vs := []) (Nat.le_refl _)
      refine ⟨_, .slice (some ⟨h.next, 0, none⟩) 0 0, ?_, R.wr_ext x1 (Nat.le_refl _) (off := 0) (vs := []) (Nat.le_refl _), .inr ⟨h.next, 0, rfl, R2, .inr ⟨rfl, rfl⟩, ⟨Nat.le_refl _, ?_⟩, big⟩⟩
      · rw [L5 rfl]
        unfold d35
        simp only [Ac, Af, Nat.succ_eq_add_one, Nat.zero_add, Nat.reduceAdd, sT, Nat.reduceLT, Nat.reduceEqDiff, if_true, if_false, reduceIte, ne, es, CC, ap, Ao, Ax]
      · have := R.wr_next (off := 0) (vs := []) (Nat.le_refl _)
        omega
    · obtain ⟨h2, a1, a2, a3, a4, a5⟩ := Ej (eb := 24) (en := 36) x1 R (es := 1) (fun k => V1.src rfl k) V1.lenV (by omega) hz ha (by omega)
      refine ⟨h2, _, ?_, a2, .inr ⟨g.next, 36 + 1, rfl, a3, .inl rfl, ⟨by omega, by omega⟩, by omega⟩⟩
      rw [L5 rfl]
      unfold d35
      simp only [Ac, Af, Nat.succ_eq_add_one, Nat.zero_add, Nat.reduceAdd, sT, Nat.reduceLT, Nat.reduceEqDiff, if_true, if_false, reduceIte, ne, es, CC, a1, Ao, Ax]
end
end Go.Proofs.Ythcfmklkbakkpaa
set_option linter.unusedVariables false
set_option linter.unusedSimpArgs false
namespace Go.Proofs.Ythcfmklkbakkpaa
noncomputable section
open Go Go.RowKit Go.ChangeShapes
set_option maxRecDepth 100000
section
variable {h : Hp}
theorem Bw (W : h.Wf) (v : Value) (hk : known v = true := by rfl) : ∃ h1, (∀ (F : CallF) (e : Env) (g : O), g e = v → Bd g F e h = .ok (pt h.next) h1) ∧ h1.Row h.next 0 (cellsOf v) ∧ h.Ext h1 ∧ h1.next = h.next + 1 :=
  ⟨h.pushRow 0 (cellsOf v), fun F e g he => by rw [TP, he, Rx W hk], Hp.Row.new W 0 _, (Hp.Ext.refl W).pushRow 0 _, rfl⟩
theorem Bq (W : h.Wf) {n : Nat} {t : VT} {Z : List Value} (hz : B5 .mt 0 Z = some t) (hn : Z.length = n) :
    ∃ h1, (∀ (F : CallF) (e : Env), Au n t F e h = .ok (pt h.next) h1) ∧ h1.Row h.next 0 Z ∧ h.Ext h1 ∧ h1.next = h.next + 1 :=
  ⟨h.push (.cells t n 0), fun F e => JS W, Hp.Row.alloc W hz hn, (Hp.Ext.refl W).push _, rfl⟩
theorem Aw {h0 : Hp} (x0 : h0.Ext h) {b off n : Nat} {L : List Value} {el : Nat} (r : h.Row b el L) (hb : h0.next ≤ b) (h256 : 256 ≤ b) (v : Value) (hn : (cellsOf v).length = n) (ho : off + n ≤ L.length) (ha : Bj (cellsOf v) = true) :
    ∃ h1, storeR n (.pointer (some ⟨b, off, none⟩)) v h = .ok noRes h1 ∧ h1.Row b el (over L off (cellsOf v)) ∧ h0.Ext h1 ∧ h1.next = h.next ∧ ∀ b' el' L', b' ≠ b → h.Row b' el' L' → h1.Row b' el' L' :=
  ⟨h.wr b off (cellsOf v), r.storeR x0.wf h256 hn (by omega) ha, r.wr_self x0.wf (by omega), r.wr_ext x0 hb (by omega), r.wr_next (by omega), fun b' el' L' hne r' => r.wr_other x0.wf (by omega) r' hne⟩
end
structure MM where
  kd : Int
  com : Bool
  ext : List Int
structure MD where
  st : Int
  ver : Int
  need : Int
  ph : Int
  marks : List MM
  which : List Int
  shards : List (List Nat)
def mm0 : MM := ⟨0, false, []⟩
def markL (m : MM) (u : Value) : List Value := [.int .i64 m.kd, .bool m.com, u]
def CP (m : MM) (u : Value) : Value := .agg ⟨markL m u⟩
def flatM : List MM → List Value → List Value
  | m :: ms, u :: us => .int .i64 m.kd :: .bool m.com :: u :: flatM ms us
  | _, _ => []
theorem DC : ∀ {ms : List MM} {us : List Value}, us.length = ms.length → (flatM ms us).length = ms.length * 3
  | [], _, _ => by unfold flatM; simp
  | m :: ms, [], h => by cases h
  | m :: ms, u :: us, h => by
    unfold flatM
    simp only [List.length_cons] at h ⊢
    rw [DC (ms := ms) (us := us) (by omega)]; omega
theorem D5 : ∀ {ms : List MM} {us : List Value} {i : Nat}, us.length = ms.length → i < ms.length → (flatM ms us).drop (i * 3) = markL (ms.getD i mm0) (us.getD i noRes) ++ flatM (ms.drop (i + 1)) (us.drop (i + 1))
  | [], _, _, _, hi => absurd hi (Nat.not_lt_zero _)
  | m :: ms, [], _, h, _ => by cases h
  | m :: ms, u :: us, 0, h, hi => rfl
  | m :: ms, u :: us, i + 1, h, hi => by
    simp only [List.length_cons] at h hi
    have e : (i + 1) * 3 = i * 3 + 3 := by omega
    rw [e]
    show (flatM ms us).drop (i * 3) = _
    rw [D5 (ms := ms) (us := us) (i := i) (by omega) (by omega)]; rfl
def mendL (m : MD) (um uw us : Value) : List Value := [.int .i64 m.st, .int .i64 m.ver, .int .i64 m.need, .int .i64 m.ph, um, uw, us]
def mendV (m : MD) (um uw us : Value) : Value := .agg ⟨mendL m um uw us⟩
def Hp.Marks (h : Hp) (S : Nat → Prop) (um : Value) (ms : List MM) : Prop := ∃ b el us, um = .slice (some ⟨b, 0, none⟩) ms.length ms.length ∧ h.Row b el (flatM ms us) ∧ us.length = ms.length ∧ S b ∧ ∀ i, i < ms.length → h.VS S (us.getD i noRes) (ints .i64 (ms.getD i mm0).ext)
def Hp.Shs (h : Hp) (S : Nat → Prop) (u : Value) (ls : List (List Nat)) : Prop := ∃ ws, h.VS S u ws ∧ ws.length = ls.length ∧ ∀ i, i < ls.length → h.VS S (ws.getD i noRes) ((ls.getD i []).map bv)
structure Hp.Md (h : Hp) (S : Nat → Prop) (m : MD) (um uw us : Value) : Prop where
  marks : h.Marks S um m.marks
  which : h.VS S uw (ints .i64 m.which)
  shards : h.Shs S us m.shards
section
variable {h h' : Hp} {S S' : Nat → Prop} {um uw us : Value} {m : MD} {ms : List MM}
theorem Hp.Marks.keep (o : h.Marks S um ms) (hk : ∀ b el L, S b → h.Row b el L → h'.Row b el L) : h'.Marks S um ms := by
  obtain ⟨b, el, us, h1, h2, h3, h4, h5⟩ := o
  exact ⟨b, el, us, h1, hk _ _ _ h4 h2, h3, h4, fun i hi => (h5 i hi).keep hk⟩
theorem Hp.Shs.keep {ls : List (List Nat)} (o : h.Shs S us ls) (hk : ∀ b el L, S b → h.Row b el L → h'.Row b el L) : h'.Shs S us ls := by
  obtain ⟨ws, h1, h2, h3⟩ := o
  exact ⟨ws, h1.keep hk, h2, fun i hi => (h3 i hi).keep hk⟩
theorem Hp.Md.keep (o : h.Md S m um uw us) (hk : ∀ b el L, S b → h.Row b el L → h'.Row b el L) : h'.Md S m um uw us := ⟨o.marks.keep hk, o.which.keep hk, o.shards.keep hk⟩
theorem Hp.Md.ext (o : h.Md S m um uw us) (W : h.Wf) (x : h.Ext h') : h'.Md S m um uw us := o.keep fun _ _ _ _ r => r.ext W x
theorem Hp.Md.same (o : h.Md S m um uw us) (hb : h'.bl = h.bl) : h'.Md S m um uw us := o.keep fun _ _ _ _ r => r.same hb
theorem Hp.Md.mono (o : h.Md S m um uw us) (hs : ∀ b, S b → S' b) : h.Md S' m um uw us := by
  obtain ⟨⟨b, el, us, h1, h2, h3, h4, h5⟩, w, ⟨ws, k1, k2, k3⟩⟩ := o
  exact ⟨⟨b, el, us, h1, h2, h3, hs _ h4, fun i hi => (h5 i hi).mono hs⟩, w.mono hs, ⟨ws, k1.mono hs, k2, fun i hi => (k3 i hi).mono hs⟩⟩
theorem Hp.Md.lt (o : h.Md S m um uw us) (W : h.Wf) : h.Md (fun b => S b ∧ b < h.next) m um uw us := by
  obtain ⟨⟨b, el, us, h1, h2, h3, h4, h5⟩, w, ⟨ws, k1, k2, k3⟩⟩ := o
  exact ⟨⟨b, el, us, h1, h2, h3, ⟨h4, h2.lt W⟩, fun i hi => (h5 i hi).lt W⟩, w.lt W, ⟨ws, k1.lt W, k2, fun i hi => (k3 i hi).lt W⟩⟩
theorem Hp.Marks.len (o : h.Marks S um ms) {g : Hp} : lenSR um g = .ok (.int .i64 (ms.length : Int)) g := by
  obtain ⟨b, el, us, rfl, _⟩ := o
  exact B1
theorem Hp.Shs.len {ls : List (List Nat)} (o : h.Shs S us ls) {g : Hp} : lenSR us g = .ok (.int .i64 (ls.length : Int)) g := by
  obtain ⟨ws, h1, h2, _⟩ := o
  rw [← h2]
  obtain ⟨a, c, rfl, _⟩ := h1.cap
  exact B1
theorem Hp.VS.ilen {k : IntKind} {Z : List Int} {u : Value} (V : h.VS S u (ints k Z)) {g : Hp} : lenSR u g = .ok (.int .i64 (Z.length : Int)) g := by
  obtain ⟨a, c, rfl, _⟩ := V.cap
  rw [BW]; exact B1
theorem Hp.VS.blen {l : List Nat} {u : Value} (V : h.VS S u (l.map bv)) {g : Hp} : lenSR u g = .ok (.int .i64 (l.length : Int)) g := by
  obtain ⟨a, c, rfl, _⟩ := V.cap
  rw [List.length_map]; exact B1
theorem Hp.Marks.one (o : h.Marks S um ms) : cellsOf um = [um] ∧ Bn um = true ∧ known um = true := by
  obtain ⟨b, el, us, rfl, _⟩ := o
  exact ⟨rfl, rfl, rfl⟩
theorem Hp.Shs.one {ls : List (List Nat)} (o : h.Shs S us ls) : cellsOf us = [us] ∧ Bn us = true ∧ known us = true := by
  obtain ⟨ws, h1, _⟩ := o
  exact h1.one
theorem Hp.Md.all (o : h.Md S m um uw us) : Bj (mendL m um uw us) = true := by
  refine Fv fun x hx => ?_
  simp only [mendL, List.mem_cons, List.not_mem_nil, or_false] at hx
  rcases hx with rfl | rfl | rfl | rfl | rfl | rfl | rfl
  · rfl
  · rfl
  · rfl
  · rfl
  · exact o.marks.one.2.1
  · exact o.which.one.2.1
  · exact o.shards.one.2.1
theorem Hp.Marks.at (o : h.Marks S um ms) {i : Nat} (hi : i < ms.length) : ∃ b u, Cv 3 um (.int .i64 (i : Int)) h = .ok (.pointer (some ⟨b, i * 3, none⟩)) h ∧ loadN 3 ⟨b, i * 3, none⟩ h = .ok (CP (ms.getD i mm0) u) h ∧ load1 ⟨b, i * 3 + 2, none⟩ h = .ok u h ∧ h.VS S u (ints .i64 (ms.getD i mm0).ext) := by
  obtain ⟨b, el, us, rfl, h2, h3, h4, h5⟩ := o
  have hl := DC h3
  have hd := D5 h3 hi
  refine ⟨b, us.getD i noRes, ?_, ?_, ?_, h5 i hi⟩
  · have := B6 (h := h) (n := ms.length) (c := ms.length) (es := 3) (b := b) (off := 0) (k := .i64) hi
    rwa [Nat.zero_add] at this
  · rw [h2.loadN (by omega), hd]; rfl
  · rw [h2.load1 (by omega)]
    have e := congrArg (fun l => l[2]?) hd
    simp only [List.getElem?_drop, markL, List.cons_append, List.nil_append, List.getElem?_cons_succ, List.getElem?_cons_zero] at e
    rw [List.getD_eq_getElem?_getD, e]; rfl
theorem H6 {k : MM} {u : Value} : cellsOf (CP k u) = markL k u := rfl
theorem An {r : Nat} (R : h.Row r 0 (mendL m um uw us)) : load1 ⟨r, 0, none⟩ h = .ok (.int .i64 m.st) h ∧ load1 ⟨r, 1, none⟩ h = .ok (.int .i64 m.ver) h ∧ load1 ⟨r, 2, none⟩ h = .ok (.int .i64 m.need) h ∧ load1 ⟨r, 3, none⟩ h = .ok (.int .i64 m.ph) h ∧ load1 ⟨r, 4, none⟩ h = .ok um h ∧ load1 ⟨r, 5, none⟩ h = .ok uw h ∧ load1 ⟨r, 6, none⟩ h = .ok us h ∧ loadN 7 ⟨r, 0, none⟩ h = .ok (mendV m um uw us) h :=
  ⟨R.load1 (off := 0) (by show 0 < 7; omega), R.load1 (off := 1) (by show 1 < 7; omega), R.load1 (off := 2) (by show 2 < 7; omega), R.load1 (off := 3) (by show 3 < 7; omega), R.load1 (off := 4) (by show 4 < 7; omega), R.load1 (off := 5) (by show 5 < 7; omega), R.load1 (off := 6) (by show 6 < 7; omega), R.loadN (off := 0) (n := 7) (by show 0 + 7 ≤ 7; omega)⟩
theorem CD {r : Nat} {k : MM} {u : Value} (R : h.Row r 0 (markL k u)) : load1 ⟨r, 0, none⟩ h = .ok (.int .i64 k.kd) h ∧ load1 ⟨r, 1, none⟩ h = .ok (.bool k.com) h ∧ load1 ⟨r, 2, none⟩ h = .ok u h ∧ loadN 3 ⟨r, 0, none⟩ h = .ok (CP k u) h :=
  ⟨R.load1 (off := 0) (by show 0 < 3; omega), R.load1 (off := 1) (by show 1 < 3; omega), R.load1 (off := 2) (by show 2 < 3; omega), R.loadN (off := 0) (n := 3) (by show 0 + 3 ≤ 3; omega)⟩
theorem HB {k : MM} {u : Value} (hu : Bn u = true) : Bj (markL k u) = true := by
  refine Fv fun x hx => ?_
  simp only [markL, List.mem_cons, List.not_mem_nil, or_false] at hx
  rcases hx with rfl | rfl | rfl <;> first | rfl | exact hu
theorem A5 {L vs : List Value} (hl : L.length = vs.length) : over L 0 vs = vs := Qs hl
end
theorem Fy : B5 .mt 0 [.int .i64 0, .bool false, .slice none 0 0] = some F1 := by kernel_rfl
theorem D0 : B5 .mt 0 [.int .i64 0, .int .i64 0, .int .i64 0, .int .i64 0, .slice none 0 0, .slice none 0 0, .slice none 0 0] = some DB := by kernel_rfl
theorem FD : B5 .mt 0 [.int .i64 0, .int .u8 0, .int .i64 0] = some Dh := by kernel_rfl
theorem G4 {n : Nat} {h : Hp} (W : h.Wf) {S : Nat → Prop} {m : MD} {um uw us : Value} (M : h.Md S m um uw us) : ∃ h', call AK (n + 1) 32 [mendV m um uw us] h = .ok (.bool (decide (m.need ≤ (m.which.length : Int)))) h' ∧ h.Ext h' := by
  obtain ⟨h1, bx, R, x1, n1⟩ := Bw W (mendV m um uw us)
  obtain ⟨l0, l1, l2, l3, l4, l5, l6, l7⟩ := An R
  have ln := M.which.ilen (g := h1)
  refine ⟨h1, ?_, x1⟩
  rw [W9 rfl]
  unfold d32
  simp only [Ac, Af, Nat.succ_eq_add_one, Nat.zero_add, Nat.reduceAdd, sT, Nat.reduceLT, Nat.reduceEqDiff, if_true, if_false, reduceIte, bx, AJ, AN, AP, AX, l5, l2, Ai, ln, AZ, AY, Jv, Ao, Ax]
def fitsM (m : MD) (l : List Nat) : Bool := decide (l.length ≤ 65536) && (decide (m.shards = []) || decide (l.length = (m.shards.headD []).length))
theorem Ki {n : Nat} {h : Hp} (W : h.Wf) {S : Nat → Prop} {m : MD} {um uw us u : Value} {l : List Nat} (M : h.Md S m um uw us) (V : ∀ g : Hp, lenSR u g = .ok (.int .i64 (l.length : Int)) g) : ∃ h', call AK (n + 1) 42 [mendV m um uw us, u] h = .ok (.bool (fitsM m l)) h' ∧ h.Ext h' := by
  obtain ⟨h1, bx, R, x1, n1⟩ := Bw W (mendV m um uw us)
  obtain ⟨l0, l1, l2, l3, l4, l5, l6, l7⟩ := An R
  have ln := M.shards.len (g := h1)
  have lu := V h1
  refine ⟨h1, ?_, x1⟩
  rw [XF rfl]
  unfold d42 fitsM
  by_cases c1 : l.length ≤ 65536
  · have c1' : iLe (l.length : Int) 65536 = true := VE (by omega)
    rw [decide_eq_true c1]
    cases hs : m.shards with
    | nil =>
      rw [hs] at ln
      have c2 : iEq (([] : List (List Nat)).length : Int) 0 = true := rfl
      simp only [Ac, Af, Nat.succ_eq_add_one, Nat.zero_add, Nat.reduceAdd, sT, Nat.reduceLT, Nat.reduceEqDiff, if_true, if_false, reduceIte, gD, bx, AJ, AN, AP, AX, l6, Ai, ln, lu, AZ, AY, c1', c2, Ao, Ax]
      rfl
    | cons s ss =>
      rw [hs] at ln
      have c2 : iEq ((s :: ss).length : Int) 0 = false := Cj (by simp only [List.length_cons]; omega)
      obtain ⟨ws, w1, w2, w3⟩ := (M.ext W x1).shards
      obtain ⟨a, g1, g2⟩ := w1.vals.at (i := 0) (by rw [w2, hs]; simp)
      have w4 := (w3 0 (by rw [hs]; simp)).blen (g := h1)
      rw [hs] at w4
      have w4 : lenSR (ws.getD 0 noRes) h1 = .ok (.int .i64 (s.length : Int)) h1 := w4
      have c3 : iEq (l.length : Int) (s.length : Int) = decide (l.length = s.length) := by
        rw [D8]
        by_cases h1 : l.length = s.length
        · rw [decide_eq_true h1, h1]; simp
        · rw [decide_eq_false h1]; simp; omega
      have g1 : Cv 1 us (.int .i64 0) h1 = .ok (.pointer (some a)) h1 := g1
      simp only [Ac, Af, Nat.succ_eq_add_one, Nat.zero_add, Nat.reduceAdd, sT, Nat.reduceLT, Nat.reduceEqDiff, if_true, if_false, reduceIte, gD, bx, AJ, AN, AP, l6, AX, Ai, ln, lu, AZ, AY, c1', c2, BG, g1]
      rw [AX] at g2
      simp only [Ac, Af, Nat.succ_eq_add_one, Nat.zero_add, Nat.reduceAdd, sT, Nat.reduceLT, Nat.reduceEqDiff, if_true, if_false, reduceIte, gD, g2, Ai, w4, AZ, AY, c3, Ao, Ax]
      simp
  · have c1' : iLe (l.length : Int) 65536 = false := Na (by omega)
    rw [decide_eq_false c1]
    simp only [Ac, Af, Nat.succ_eq_add_one, Nat.zero_add, Nat.reduceAdd, sT, Nat.reduceLT, Nat.reduceEqDiff, if_true, if_false, reduceIte, gD, bx, Ai, lu, AZ, AY, c1', Ao, Ax]
    rfl
theorem Sb {n : Nat} {h : Hp} (W : h.Wf) {S : Nat → Prop} {m : MD} {um uw us u : Value} {l : List Nat} (M : h.Md S m um uw us) (V : h.Vals u (l.map bv)) : ∃ h', call AK (n + 1) 42 [mendV m um uw us, u] h = .ok (.bool (fitsM m l)) h' ∧ h.Ext h' :=
  Ki W M fun g => by
    obtain ⟨a, c, hu⟩ := V.shape
    rw [hu, List.length_map]; exact B1
def KM (m : MD) (k : MM) : Bool := (decide (k.kd = 2) && decide (k.ext = [])) && (k.com || decide (m.ver = 0))
theorem NZ {a b : Int} : iEq a b = decide (a = b) := by
  by_cases h : a = b
  · rw [Cu h, decide_eq_true h]
  · rw [Cj h, decide_eq_false h]
theorem TG {l : List Int} : decide (l = []) = decide (l.length = 0) := by
  cases l <;> simp
theorem PE {n : Nat} {h : Hp} (W : h.Wf) {S S' : Nat → Prop} {m : MD} {um uw us u : Value} {r : Nat} {k : MM} (R : h.Row r 0 (mendL m um uw us)) (V : h.VS S' u (ints .i64 k.ext)) : ∃ h', call AK (n + 1) 39 [CP k u, pt r] h = .ok (.bool (KM m k)) h' ∧ h.Ext h' := by
  obtain ⟨h1, bx, Rk, x1, n1⟩ := Bw W (CP k u)
  obtain ⟨k0, k1, k2, k3⟩ := CD Rk
  obtain ⟨l0, l1, l2, l3, l4, l5, l6, l7⟩ := An (R.ext W x1)
  have ln := V.ilen (g := h1)
  refine ⟨h1, ?_, x1⟩
  rw [XC rfl]
  unfold d39 KM
  rw [TG]
  by_cases c1 : k.kd = 2
  · rw [decide_eq_true c1]
    by_cases c2 : k.ext.length = 0
    · rw [decide_eq_true c2]
      have c2' : iEq (k.ext.length : Int) 0 = true := Cu (by omega)
      cases hc : k.com
      · rw [hc] at k1
        simp only [Ac, Af, Nat.succ_eq_add_one, Nat.zero_add, Nat.reduceAdd, sT, Nat.reduceLT, Nat.reduceEqDiff, if_true, if_false, reduceIte, gD, bx, AJ, AN, AP, AX, k0, k1, k2, l1, Ai, ln, AZ, AY, Cu c1, c2', NZ, Ao, Ax]
        rfl
      · rw [hc] at k1
        simp only [Ac, Af, Nat.succ_eq_add_one, Nat.zero_add, Nat.reduceAdd, sT, Nat.reduceLT, Nat.reduceEqDiff, if_true, if_false, reduceIte, gD, bx, AJ, AN, AP, AX, k0, k1, k2, l1, Ai, ln, AZ, AY, Cu c1, c2', NZ, Ao, Ax]
        rfl
    · rw [decide_eq_false c2]
      have c2' : iEq (k.ext.length : Int) 0 = false := Cj (by omega)
      simp only [Ac, Af, Nat.succ_eq_add_one, Nat.zero_add, Nat.reduceAdd, sT, Nat.reduceLT, Nat.reduceEqDiff, if_true, if_false, reduceIte, gD, bx, AJ, AN, AP, AX, k0, k1, k2, l1, Ai, ln, AZ, AY, Cu c1, c2', Ao, Ax]
      rfl
  · rw [decide_eq_false c1]
    simp only [Ac, Af, Nat.succ_eq_add_one, Nat.zero_add, Nat.reduceAdd, sT, Nat.reduceLT, Nat.reduceEqDiff, if_true, if_false, reduceIte, gD, bx, AJ, AN, AP, AX, k0, k1, k2, l1, Ai, ln, AZ, AY, Cj c1, Ao, Ax]
    rfl
def JX (k : MM) : Bool := decide (¬ k.kd = 0) && decide (¬ k.kd = 1)
theorem Px {n : Nat} {h : Hp} (W : h.Wf) {u : Value} {k : MM} : ∃ h', call AK (n + 1) 40 [CP k u] h = .ok (.bool (JX k)) h' ∧ h.Ext h' := by
  obtain ⟨h1, bx, Rk, x1, n1⟩ := Bw W (CP k u)
  obtain ⟨k0, k1, k2, k3⟩ := CD Rk
  refine ⟨h1, ?_, x1⟩
  rw [XD rfl]
  unfold d40 JX
  by_cases c1 : k.kd = 0
  · rw [decide_eq_false (not_not_intro c1)]
    simp only [Ac, Af, Nat.succ_eq_add_one, Nat.zero_add, Nat.reduceAdd, sT, Nat.reduceLT, Nat.reduceEqDiff, if_true, if_false, reduceIte, gD, bx, AJ, AN, AP, AX, k0, AZ, AY, Dv c1, Ao, Ax]
    rfl
  · rw [decide_eq_true c1]
    by_cases c2 : k.kd = 1
    · rw [decide_eq_false (not_not_intro c2)]
      simp only [Ac, Af, Nat.succ_eq_add_one, Nat.zero_add, Nat.reduceAdd, sT, Nat.reduceLT, Nat.reduceEqDiff, if_true, if_false, reduceIte, gD, bx, AJ, AN, AP, AX, k0, AZ, AY, F4 c1, Dv c2, Ao, Ax]
      rfl
    · rw [decide_eq_true c2]
      simp only [Ac, Af, Nat.succ_eq_add_one, Nat.zero_add, Nat.reduceAdd, sT, Nat.reduceLT, Nat.reduceEqDiff, if_true, if_false, reduceIte, gD, bx, AJ, AN, AP, AX, k0, AZ, AY, F4 c1, F4 c2, Ao, Ax]
      rfl
def evB : C := (AE (AC 11) (AS iLt .i64 (AB 10) (AB 9))
(AO (AB 11)
(As (Ab 1 (AE (AC 12) (A2 3 (AB 8) (AB 10))
(AE (AC 13) (AL 3 (AB 12))
(AE (AC 6) (Au 3 F1)
(cDo (AM 3 (AB 6) (AB 13))
(AE (AC 15) (AL 3 (AB 6))
(AE (AC 16) (Cy (AB 1) [(AB 15)])
(AE (AC 17) (BF (AB 16))
(AO (AB 17)
(AE (AC 4) (AF (kV (.bool false)))
Ak)
AQ)))))))))
(AE (AC 18) (A9 .i64 (At .i64) (AB 10) (kV (.int .i64 1)))
(AE (AC 10) (AF (AB 18))
AQ)))
(A3 0)))
def evE : C := (AE (AC 4) (AF (kV (.bool true)))
Ak)
def evS : C := (As (Ab 0 (Ay (AE (AC 11) (AS iLt .i64 (AB 10) (AB 9))
(AO (AB 11)
(As (Ab 1 (AE (AC 12) (A2 3 (AB 8) (AB 10))
(AE (AC 13) (AL 3 (AB 12))
(AE (AC 6) (Au 3 F1)
(cDo (AM 3 (AB 6) (AB 13))
(AE (AC 15) (AL 3 (AB 6))
(AE (AC 16) (Cy (AB 1) [(AB 15)])
(AE (AC 17) (BF (AB 16))
(AO (AB 17)
(AE (AC 4) (AF (kV (.bool false)))
Ak)
AQ)))))))))
(AE (AC 18) (A9 .i64 (At .i64) (AB 10) (kV (.int .i64 1)))
(AE (AC 10) (AF (AB 18))
AQ)))
(A3 0)))))
(AE (AC 4) (AF (kV (.bool true)))
Ak))
theorem Xf : evS = As (Ab 0 (Ay evB)) evE := rfl
def SR : C := (AE (AC 2) (Bd (AB 0))
(AE (AC 4) (AF (kV (.bool false)))
(AE (AC 7) (AD 4 (AB 2))
(AE (AC 8) (AH (AB 7))
(AE (AC 9) (Am (AB 8))
(AE (AC 10) (AF (kV (.int .i64 0)))
evS))))))
def d21 : C := SR
theorem Wy {n : Nat} {args : List Value} {h : Hp} (hl : Nat.ble (Bk args) 320 = true) : call AK (Nat.succ n) 21 args h = Bt [.t (AB 4)] (d21 (call AK n) (Av e0 0 args) h) := by
  have hb : AK.get 21 = some b21 := by kernel_rfl
  rw [BN hb]
  have hd : b21 = ⟨[.t (AB 4)], d21⟩ := by kernel_rfl
  rw [hd, BE hl]
theorem XT : d21 = SR := rfl
theorem aq {p : MM → Bool} {ms : List MM} (h : ∀ j, j < ms.length → p (ms.getD j mm0) = true) : ms.all p = true := by
  rw [List.all_eq_true]
  intro x hx
  obtain ⟨i, hi, rfl⟩ := List.mem_iff_getElem.1 hx
  have := h i hi
  rwa [List.getD_eq_getElem?_getD, List.getElem?_eq_getElem hi] at this
theorem KO {p : MM → Bool} {ms : List MM} {j : Nat} (hj : j < ms.length) (h : p (ms.getD j mm0) = false) : ms.all p = false := by
  rw [List.all_eq_false]
  refine ⟨ms[j], List.getElem_mem hj, ?_⟩
  rw [List.getD_eq_getElem?_getD, List.getElem?_eq_getElem hj] at h
  have h : p ms[j] = false := h
  rw [h]; exact Bool.false_ne_true
theorem MJ {F : CallF} {h : Hp} (W : h.Wf) {S : Nat → Prop} {um : Value} {ms : List MM} (M : h.Marks S um ms) (p : MM → Bool) {g : Nat} {caps : List Value}
    (H : ∀ i u h2, i < ms.length → h.Ext h2 → h2.VS S u (ints .i64 (ms.getD i mm0).ext) → ∃ h3, F g (CP (ms.getD i mm0) u :: caps) h2 = .ok (.bool (p (ms.getD i mm0))) h3 ∧ h2.Ext h3)
    (hl : ms.length ≤ 255) {e : Env} (s1 : AB 1 e = .func (.func g) ⟨[]⟩ ⟨caps⟩) (s8 : AB 8 e = um) (s9 : AB 9 e = .int .i64 (ms.length : Int)) (s10 : AB 10 e = .int .i64 ((0 : Nat) : Int)) :
    ∃ e' h', h.Ext h' ∧ ((ms.all p = true ∧ Ay evB F e h = .exit 0 e' h') ∨ (ms.all p = false ∧ Ay evB F e h = .ret e' h' ∧ AB 4 e' = .bool false)) := by
  refine B8 (I := fun i e' h' => h.Ext h' ∧ AB 1 e' = .func (.func g) ⟨[]⟩ ⟨caps⟩ ∧ AB 8 e' = um ∧ AB 9 e' = .int .i64 (ms.length : Int) ∧ AB 10 e' = .int .i64 (i : Int) ∧ i ≤ ms.length ∧ ∀ j, j < i → p (ms.getD j mm0) = true)
    (Q := fun x => ∃ e' h', h.Ext h' ∧ ((ms.all p = true ∧ x = .exit 0 e' h') ∨ (ms.all p = false ∧ x = .ret e' h' ∧ AB 4 e' = .bool false))) ms.length (by omega) (fun i e' h' ⟨x, t1, t8, t9, t10, hi, hp⟩ => ?_) ⟨.refl W, s1, s8, s9, s10, Nat.zero_le _, fun j hj => absurd hj (Nat.not_lt_zero _)⟩
  by_cases hlt : i < ms.length
  · have c1 := GC hlt
    obtain ⟨b, u, a1, a2, a3, a4⟩ := (M.keep fun _ _ _ _ r => r.ext W x).at hlt
    obtain ⟨h1, al, Z, x1, n1⟩ := Bq x.wf (n := 3) Fy rfl
    have big := x.wf.big
    obtain ⟨h2, st, Z2, x2, n2, _⟩ := Aw x1 Z (Nat.le_refl _) big (CP (ms.getD i mm0) u) (n := 3) (off := 0) rfl (Nat.le_refl _) (HB a4.one.2.1)
    rw [A5 (by rfl)] at Z2
    obtain ⟨_, _, _, ld⟩ := CD Z2
    obtain ⟨h3, r1, r2⟩ := H i u h2 hlt (x.trans x2) (a4.ext x.wf x2)
    cases hb : p (ms.getD i mm0)
    · right
      rw [hb] at r1
      have hrun : ∃ e2, evB F e' h' = .ret e2 h3 ∧ AB 4 e2 = .bool false := by
        unfold evB
        simp only [sT, Nat.reduceLT, Nat.reduceEqDiff, if_true, if_false, reduceIte, AZ, AY, t10, t9, c1, BG, t8, a1, Aa, AU, a2, al, Ad, st, ld, JT, Ae, Al, t1, Iz, List.nil_append, List.cons_append, r1, BP, BO, Bool.not_false]
        exact ⟨_, rfl, by simp [AG]⟩
      obtain ⟨e2, q1, q2⟩ := hrun
      rw [q1]
      exact ⟨rfl, e2, h3, (x.trans x2).trans r2, .inr ⟨KO hlt hb, rfl, q2⟩⟩
    · left
      rw [hb] at r1
      have a := CY (h := h3) (i := i) (by omega)
      have hrun : ∃ e2, evB F e' h' = .norm e2 h3 ∧ AB 1 e2 = AB 1 e' ∧ AB 8 e2 = AB 8 e' ∧ AB 9 e2 = AB 9 e' ∧ AB 10 e2 = .int .i64 ((i + 1 : Nat) : Int) := by
        unfold evB
        simp only [sT, Nat.reduceLT, Nat.reduceEqDiff, if_true, if_false, reduceIte, AZ, AY, t10, t9, c1, BG, t8, a1, Aa, AU, a2, al, Ad, st, ld, JT, Ae, Al, t1, Iz, List.nil_append, List.cons_append, r1, BP, BO, Bool.not_true, Bl, a]
        exact ⟨_, rfl, by simp only [AG, Nat.reduceLT, Nat.reduceEqDiff, if_true, if_false, reduceIte]; exact t1, by simp only [AG, Nat.reduceLT, Nat.reduceEqDiff, if_true, if_false, reduceIte]; exact t8, by simp only [AG, Nat.reduceLT, Nat.reduceEqDiff, if_true, if_false, reduceIte]; exact t9, by simp [AG]⟩
      obtain ⟨e2, q1, q2, q3, q4, q5⟩ := hrun
      exact ⟨hlt, e2, h3, q1, (x.trans x2).trans r2, q2.trans t1, q3.trans t8, q4.trans t9, q5, hlt, fun j hj => by
        rcases Nat.lt_or_ge j i with hj2 | hj2
        · exact hp j hj2
        · obtain rfl : j = i := by omega
          exact hb⟩
  · right
    have c1 := EP (a := i) (b := ms.length) (by omega)
    have hrun : ∃ e2, evB F e' h' = .exit 0 e2 h' := by
      unfold evB
      simp only [sT, Nat.reduceLT, Nat.reduceEqDiff, if_true, if_false, reduceIte, AZ, AY, t10, t9, c1]
      exact ⟨_, rfl⟩
    obtain ⟨e2, q1⟩ := hrun
    rw [q1]
    exact ⟨rfl, e2, h', x, .inl ⟨aq fun j hj => hp j (by omega), rfl⟩⟩
theorem ID {n : Nat} {h : Hp} (W : h.Wf) {S : Nat → Prop} {m : MD} {um uw us : Value} (M : h.Md S m um uw us) (p : MM → Bool) {g : Nat} {caps : List Value}
    (H : ∀ i u h2, i < m.marks.length → h.Ext h2 → h2.VS S u (ints .i64 (m.marks.getD i mm0).ext) → ∃ h3, call AK n g (CP (m.marks.getD i mm0) u :: caps) h2 = .ok (.bool (p (m.marks.getD i mm0))) h3 ∧ h2.Ext h3)
    (hl : m.marks.length ≤ 255) : ∃ h', call AK (n + 1) 21 [mendV m um uw us, .func (.func g) ⟨[]⟩ ⟨caps⟩] h = .ok (.bool (m.marks.all p)) h' ∧ h.Ext h' := by
  obtain ⟨h1, bx, R, x1, n1⟩ := Bw W (mendV m um uw us)
  obtain ⟨l0, l1, l2, l3, l4, l5, l6, l7⟩ := An R
  have M1 := M.ext W x1
  have ln := M1.marks.len (g := h1)
  have pre : ∃ e1, SR (call AK n) (Av e0 0 [mendV m um uw us, .func (.func g) ⟨[]⟩ ⟨caps⟩]) h = evS (call AK n) e1 h1 ∧ AB 1 e1 = .func (.func g) ⟨[]⟩ ⟨caps⟩ ∧ AB 8 e1 = um ∧ AB 9 e1 = .int .i64 (m.marks.length : Int) ∧ AB 10 e1 = .int .i64 ((0 : Nat) : Int) := by
    unfold SR
    simp only [Ac, Af, Nat.succ_eq_add_one, Nat.zero_add, Nat.reduceAdd, Br, Bs, AG, Nat.reduceLT, Nat.reduceEqDiff, if_true, if_false, reduceIte, BM, Bz, bx, AJ, AN, AP, AX, l4, Ai, ln]
    exact ⟨_, rfl, by simp [AG], by simp [AG], by simp [AG], by simp only [AG, Nat.reduceLT, Nat.reduceEqDiff, if_true, if_false, reduceIte]; rfl⟩
  obtain ⟨e1, p1, p2, p3, p4, p5⟩ := pre
  obtain ⟨e2, h2, y, q⟩ := MJ (F := call AK n) x1.wf M1.marks p (fun i u h2 hi x V => H i u h2 hi (x1.trans x) V) hl p2 p3 p4 p5
  refine ⟨h2, ?_, x1.trans y⟩
  rw [Wy rfl, XT, p1, Xf]
  rcases q with ⟨q0, q1⟩ | ⟨q0, q1, q2⟩
  · rw [q0]
    simp only [Be, BQ, q1, BJ, BB]
    unfold evE
    simp only [sT, Nat.reduceLT, Nat.reduceEqDiff, if_true, if_false, reduceIte, Ao, Ax]
  · rw [q0]
    simp only [Be, BQ, q1, C2, Ds, Ao, Ax, q2]
def wholeP (m : MD) : Bool := m.marks.all (KM m)
theorem Jh {n : Nat} {h : Hp} (W : h.Wf) {S : Nat → Prop} {m : MD} {um uw us : Value} (M : h.Md S m um uw us) (hl : m.marks.length ≤ 255) : ∃ h', call AK (n + 3) 17 [mendV m um uw us] h = .ok (.bool (wholeP m)) h' ∧ h.Ext h' := by
  obtain ⟨h1, bx, R, x1, n1⟩ := Bw W (mendV m um uw us)
  obtain ⟨l0, l1, l2, l3, l4, l5, l6, l7⟩ := An R
  obtain ⟨h2, k1, x2⟩ := ID (n := n + 1) x1.wf (M.ext W x1) (KM m) (g := 39) (caps := [pt h.next]) (fun i u h2 hi x V => PE (n := n) (S := S) x.wf (R.ext x1.wf x) V) hl
  refine ⟨h2, ?_, x1.trans x2⟩
  rw [Wv rfl]
  unfold d17
  simp only [Ac, Af, Nat.succ_eq_add_one, Nat.zero_add, Nat.reduceAdd, sT, Nat.reduceLT, Nat.reduceEqDiff, if_true, if_false, reduceIte, bx, Aa, AU, l7, Gg, Ap, Ae, Al, k1, Ao, Ax]
  rfl
def hopeP (m : MD) : Bool := (decide (0 < m.ver) && decide (¬ m.need ≤ (m.which.length : Int))) && m.marks.all JX
theorem Ks {n : Nat} {h : Hp} (W : h.Wf) {S : Nat → Prop} {m : MD} {um uw us : Value} (M : h.Md S m um uw us) (hl : m.marks.length ≤ 255) : ∃ h', call AK (n + 3) 18 [mendV m um uw us] h = .ok (.bool (hopeP m)) h' ∧ h.Ext h' := by
  obtain ⟨h1, bx, R, x1, n1⟩ := Bw W (mendV m um uw us)
  obtain ⟨l0, l1, l2, l3, l4, l5, l6, l7⟩ := An R
  obtain ⟨h2, k1, x2⟩ := G4 (n := n + 1) x1.wf (M.ext W x1)
  obtain ⟨_, _, _, _, _, _, _, l7'⟩ := An (R.ext x1.wf x2)
  obtain ⟨h3, k2, x3⟩ := ID (n := n + 1) x2.wf ((M.ext W x1).ext x1.wf x2) JX (g := 40) (caps := []) (fun i u h2 hi x V => Px (n := n) x.wf) hl
  unfold hopeP
  by_cases c1 : 0 < m.ver
  · rw [decide_eq_true c1]
    by_cases c2 : m.need ≤ (m.which.length : Int)
    · rw [decide_eq_true c2] at k1
      rw [decide_eq_false (not_not_intro c2)]
      refine ⟨h2, ?_, x1.trans x2⟩
      rw [L3 rfl]
      unfold d18
      simp only [Ac, Af, Nat.succ_eq_add_one, Nat.zero_add, Nat.reduceAdd, sT, Nat.reduceLT, Nat.reduceEqDiff, if_true, if_false, reduceIte, gD, bx, AJ, AN, AP, AX, l1, AZ, AY, Ga c1, Aa, AU, l7, Ap, Ae, Al, k1, BP, BO, Bool.not_true, Ao, Ax]
      rfl
    · rw [decide_eq_false c2] at k1
      rw [decide_eq_true c2]
      refine ⟨h3, ?_, (x1.trans x2).trans x3⟩
      rw [L3 rfl]
      unfold d18
      simp only [Ac, Af, Nat.succ_eq_add_one, Nat.zero_add, Nat.reduceAdd, sT, Nat.reduceLT, Nat.reduceEqDiff, if_true, if_false, reduceIte, gD, bx, AJ, AN, AP, AX, l1, AZ, AY, Ga c1, Aa, AU, l7, l7', Ap, Ae, Al, k1, BP, BO, Bool.not_false, k2, Ao, Ax]
      rfl
  · rw [decide_eq_false c1]
    refine ⟨h1, ?_, x1⟩
    rw [L3 rfl]
    unfold d18
    simp only [Ac, Af, Nat.succ_eq_add_one, Nat.zero_add, Nat.reduceAdd, sT, Nat.reduceLT, Nat.reduceEqDiff, if_true, if_false, reduceIte, gD, bx, AJ, AN, AP, AX, l1, AZ, AY, DD c1, Ao, Ax]
    rfl
end
end Go.Proofs.Ythcfmklkbakkpaa
