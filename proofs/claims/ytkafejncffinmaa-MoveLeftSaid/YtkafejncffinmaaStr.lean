/-
  Operations on bits and strings.
-/
import Derived.Test.YtkafejncffinmaaPure
import Derived.WideShapes
import Derived.Sort.Walk0
namespace Go.Proofs.Ytkafejncffinmaa
open Go

section
variable {P : Program} {ty : TTy} {φ : Phi} {E : Nat → Prop} {h h' : Hp} {w : World} {F : CallF} {e : Env} {v : Value}

def topBits : IntKind → Nat
  | .i8 => 7 | .i16 => 15 | .i32 => 31 | .i64 => 63 | .u8 => 8 | .u16 => 16 | .u32 => 32 | .u64 => 64
theorem topOf_is (k : IntKind) : topOf k + 1 = 2 ^ topBits k := by cases k <;> rfl
theorem topBits_le (k : IntKind) : topBits k ≤ k.bits := by cases k <;> decide
theorem ofInt_nat {k : IntKind} {a : Nat} (ha : a ≤ topOf k) : (BitVec.ofInt k.bits (a : Int)).toNat = a := by
  have h1 := topOf_is k
  have h2 : 2 ^ topBits k ≤ 2 ^ k.bits := Nat.pow_le_pow_right (by omega) (topBits_le k)
  rw [BitVec.ofInt_natCast, BitVec.toNat_ofNat, Nat.mod_eq_of_lt (by omega)]
theorem natV_rel {x : O} {x' : Value} (hx : RelV φ (x e) x') {n : Nat} (h : natV (x e) = .ok n) : ∃ k, x' = .int k n := by
  obtain ⟨k, hk⟩ := natV_ok h
  rw [hk] at hx; exact ⟨k, hx.int_inv⟩
theorem natK_rel {k : IntKind} {x : O} {x' : Value} (hx : RelV φ (x e) x') {n : Nat} (h : natK k (x e) = .ok n) : x' = .int k n := by
  rw [natK_ok h] at hx; exact hx.int_inv
theorem oBit_ok (H : RelW ty φ E h w) {f : Nat → Nat → Nat} {op : BinOp} (hop : (f = Nat.land ∧ op = .and) ∨ (f = Nat.lor ∧ op = .or) ∨ (f = Nat.xor ∧ op = .xor))
    {k : IntKind} {x y : O} {x' y' : Value} {t : TypeId} {X Y : Operand} (hx : RelV φ (x e) x') (hy : RelV φ (y e) y') (hr : oBit f k x y F e h = .ok v h') : Gives ty φ E h w v h' ((binRun op t X Y x' y').run P w) := by
  unfold oBit bitF at hr
  split at hr
  case h_2 => cases hr
  rename_i a h1
  split at hr
  case h_2 => cases hr
  rename_i b h2
  obtain ⟨ha, hr⟩ := bif_ok hr
  obtain ⟨hb, hr⟩ := bif_ok hr
  obtain rfl := natK_rel hx h1; obtain rfl := natK_rel hy h2
  obtain ⟨rfl, rfl⟩ := okI_ok hr
  have ha := nat_ble.1 ha; have hb := nat_ble.1 hb
  have ea := ofInt_nat ha; have eb := ofInt_nat hb
  have ht := topOf_is k
  have key : (binRun op t X Y (.int k a) (.int k b)).run P w = .ok (.int k (.ofNat (f a b))) w := by
    unfold binRun
    rw [Sem.run_bind, guard_int, Result.andThen_ok]
    rcases hop with ⟨rfl, rfl⟩ | ⟨rfl, rfl⟩ | ⟨rfl, rfl⟩ <;>
      simp only [binOp, ne_eq, not_true_eq_false, if_false, Op.intBits, Sem.run_pure, BitVec.toNat_and, BitVec.toNat_or, BitVec.toNat_xor, ea, eb]
    · have : a &&& b ≤ topOf k := Nat.le_trans Nat.and_le_left ha
      rw [wrap_small k _ this]; rfl
    · have : a ||| b < 2 ^ topBits k := Nat.or_lt_two_pow (by omega) (by omega)
      rw [wrap_small k _ (by omega)]; rfl
    · have : a ^^^ b < 2 ^ topBits k := Nat.xor_lt_two_pow (by omega) (by omega)
      rw [wrap_small k _ (by omega)]; rfl
  rw [key]; exact .same H (.int _ _)
theorem guard_sh (op : BinOp) (hop : op = .shl ∨ op = .shr) (t : TypeId) (X Y : Operand) (a b : Value) : (eqGuard op t X Y a b).run P w = .ok () w := by
  rcases hop with rfl | rfl <;> rfl
theorem oShl_ok (H : RelW ty φ E h w) {k : IntKind} {x y : O} {x' y' : Value} {t : TypeId} {X Y : Operand} (hx : RelV φ (x e) x') (hy : RelV φ (y e) y') (hr : oShl k x y F e h = .ok v h') :
    Gives ty φ E h w v h' ((binRun .shl t X Y x' y').run P w) := by
  unfold oShl shlF at hr
  split at hr
  case h_2 => cases hr
  rename_i a h1
  split at hr
  case h_2 => cases hr
  rename_i b h2
  obtain rfl := natK_rel hx h1; obtain ⟨q, rfl⟩ := natV_rel hy h2
  obtain ⟨rfl, rfl⟩ := okI_ok hr
  have key : (binRun .shl t X Y (.int k a) (.int q b)).run P w = .ok (.int k (k.wrap (.ofNat (a * 2 ^ (min b k.bits))))) w := by
    unfold binRun
    rw [Sem.run_bind, guard_sh _ (.inl rfl), Result.andThen_ok]
    have : ¬ ((b : Int) < 0) := by omega
    simp only [binOp, Op.shift, this, if_false, Sem.run_pure, Int.toNat_natCast]
    simp
  rw [key, wrapF_is, minN_is]; exact .same H (.int _ _)
theorem oShr_ok (H : RelW ty φ E h w) {k : IntKind} {x y : O} {x' y' : Value} {t : TypeId} {X Y : Operand} (hx : RelV φ (x e) x') (hy : RelV φ (y e) y') (hr : oShr k x y F e h = .ok v h') :
    Gives ty φ E h w v h' ((binRun .shr t X Y x' y').run P w) := by
  unfold oShr shrF at hr
  split at hr
  case h_2 => cases hr
  rename_i a h1
  split at hr
  case h_2 => cases hr
  rename_i b h2
  obtain rfl := natK_rel hx h1; obtain ⟨q, rfl⟩ := natV_rel hy h2
  obtain ⟨rfl, rfl⟩ := okI_ok hr
  have key : (binRun .shr t X Y (.int k a) (.int q b)).run P w = .ok (.int k (.ofNat (a / 2 ^ (min b k.bits)))) w := by
    unfold binRun
    rw [Sem.run_bind, guard_sh _ (.inr rfl), Result.andThen_ok]
    have : ¬ ((b : Int) < 0) := by omega
    simp only [binOp, Op.shift, this, if_false, Sem.run_pure, Int.toNat_natCast]
    congr 2
    have e2 : ((2 : Int) ^ min b k.bits) = ((2 ^ min b k.bits : Nat) : Int) := by simp
    rw [e2, Int.fdiv_eq_ediv_of_nonneg _ (Int.natCast_nonneg _)]; rfl
  rw [key, minN_is]; exact .same H (.int _ _)

theorem bEq_is : ∀ x y : List UInt8, bEq x y = (x == y)
  | [], [] => rfl
  | [], _ :: _ => rfl
  | _ :: _, [] => rfl
  | a :: x, b :: y => by
    have ih := bEq_is x y
    unfold bEq
    rw [ih, List.cons_beq_cons]
    cases hab : Nat.beq a.toNat b.toNat with
    | true =>
      have : a = b := UInt8.toNat_inj.1 (nat_beq.1 hab)
      simp [this]
    | false =>
      have : a ≠ b := fun h => by rw [h] at hab; rw [Nat.beq_refl] at hab; cases hab
      simp [this]
theorem bLt_is : ∀ x y : List UInt8, bLt x y = Op.bytesLess x y
  | [], [] => rfl
  | [], _ :: _ => rfl
  | _ :: _, [] => rfl
  | a :: x, b :: y => by
    have ih := bLt_is x y
    unfold bLt Op.bytesLess
    rw [ih]
    cases hlt : Nat.blt a.toNat b.toNat with
    | true =>
      have : a < b := UInt8.lt_iff_toNat_lt.2 (nat_blt.1 hlt)
      simp [this]
    | false =>
      have : ¬ a < b := fun h => by rw [nat_blt.2 (UInt8.lt_iff_toNat_lt.1 h)] at hlt; cases hlt
      cases hab : Nat.beq a.toNat b.toNat with
      | true =>
        have : a = b := UInt8.toNat_inj.1 (nat_beq.1 hab)
        simp [this]
      | false =>
        have h2 : a ≠ b := fun h => by rw [h] at hab; rw [Nat.beq_refl] at hab; cases hab
        simp [this, h2]
theorem str2 {f : List UInt8 → List UInt8 → Bool} {x y : O} {x' y' : Value} (hx : RelV φ (x e) x') (hy : RelV φ (y e) y') (hr : oStr f x y F e h = .ok v h') :
    ∃ a b, x' = .string a ∧ y' = .string b ∧ v = .bool (f a.data.toList b.data.toList) ∧ h' = h := by
  unfold oStr strF at hr
  split at hr
  case h_2 => cases hr
  rename_i a h1
  split at hr
  case h_2 => cases hr
  rename_i b h2
  rw [h1] at hx; rw [h2] at hy
  obtain ⟨r1, r2⟩ := okB_ok hr
  exact ⟨a, b, hx.string_inv, hy.string_inv, r1, r2⟩
theorem oStr_ok (H : RelW ty φ E h w) {f : List UInt8 → List UInt8 → Bool} {op : BinOp}
    (hop : (f = bEq ∧ op = .eql) ∨ (f = (fun a b => !bEq a b) ∧ op = .neq) ∨ (f = bLt ∧ op = .lss) ∨ (f = (fun a b => bLt b a) ∧ op = .gtr) ∨ (f = (fun a b => !bLt b a) ∧ op = .leq) ∨ (f = (fun a b => !bLt a b) ∧ op = .geq))
    {x y : O} {x' y' : Value} {t : TypeId} {X Y : Operand} (hx : RelV φ (x e) x') (hy : RelV φ (y e) y') (hr : oStr f x y F e h = .ok v h') : Gives ty φ E h w v h' ((binRun op t X Y x' y').run P w) := by
  obtain ⟨a, b, rfl, rfl, rfl, rfl⟩ := str2 hx hy hr
  have key : (binRun op t X Y (.string a) (.string b)).run P w = .ok (.bool (f a.data.toList b.data.toList)) w := by
    unfold binRun
    rw [Sem.run_bind, guard_str, Result.andThen_ok]
    rcases hop with ⟨rfl, rfl⟩ | ⟨rfl, rfl⟩ | ⟨rfl, rfl⟩ | ⟨rfl, rfl⟩ | ⟨rfl, rfl⟩ | ⟨rfl, rfl⟩ <;>
      simp only [binOp, Op.stringOp, Sem.run_pure, Result.ok.injEq, Value.bool.injEq, and_true, bEq_is, bLt_is, ByteArray.toList_eq]
    all_goals
      rw [bytesLess_eq, bytesLess_eq, Bool.eq_iff_iff]
      simp only [Bool.not_eq_true', Bool.or_eq_false_iff, Bool.or_eq_true, decide_eq_true_iff, decide_eq_false_iff_not, beq_iff_eq, beq_eq_false_iff_ne]
    · constructor
      · rintro ⟨h1, h2⟩
        rcases Std.lt_trichotomy a.data.toList b.data.toList with h | h | h
        · exact absurd h h1
        · exact absurd h h2
        · exact h
      · intro h
        exact ⟨fun h2 => absurd (Std.lt_trans h h2) (Std.lt_irrefl), fun h2 => by rw [h2] at h; exact Std.lt_irrefl h⟩
    · constructor
      · rintro (h1 | h1) h
        · exact Std.lt_irrefl (Std.lt_trans h h1)
        · rw [h1] at h; exact Std.lt_irrefl h
      · intro h1
        rcases Std.lt_trichotomy a.data.toList b.data.toList with h | h | h
        · exact .inl h
        · exact .inr h
        · exact absurd h h1
  rw [key]; exact .same H (.bool _)
theorem data_ext {a : ByteArray} {l : List UInt8} (h : a.data.toList = l) : a = ⟨⟨l⟩⟩ := by
  cases a; rename_i d; cases d; simp at h; rw [h]
theorem oCat_ok (H : RelW ty φ E h w) {x y : O} {x' y' : Value} {t : TypeId} {X Y : Operand} (hx : RelV φ (x e) x') (hy : RelV φ (y e) y') (hr : oCat x y F e h = .ok v h') :
    Gives ty φ E h w v h' ((binRun .add t X Y x' y').run P w) := by
  unfold oCat catF at hr
  split at hr
  case h_2 => cases hr
  rename_i a h1
  split at hr
  case h_2 => cases hr
  rename_i b h2
  rw [h1] at hx; rw [h2] at hy
  obtain rfl := hx.string_inv; obtain rfl := hy.string_inv
  obtain ⟨hb, hr⟩ := bif_ok hr
  cases hr
  have hb := nat_ble.1 hb
  rw [lenL_is, lenL_is] at hb
  have key : (binRun .add t X Y (.string a) (.string b)).run P w = .ok (.string (a ++ b)) w := by
    unfold binRun
    rw [Sem.run_bind, guard_str, Result.andThen_ok]
    have e1 : a.size = a.data.toList.length := rfl
    have e2 : b.size = b.data.toList.length := rfl
    have : ¬ ((a.size + b.size : Nat) : Int) > IntKind.i64.max := by
      rw [e1, e2]
      have h1 : IntKind.i64.max = 9223372036854775807 := by decide
      have h2 : most = 1099511627776 := rfl
      rw [h1]; rw [h2] at hb
      have h3 : a.data.toList.length + b.data.toList.length ≤ 1099511627776 := hb
      omega
    simp only [binOp, Op.stringOp, this, if_false, Sem.run_pure]
  rw [key, ← data_ext (a := a ++ b) (l := a.data.toList ++ b.data.toList) (by simp)]
  exact .same H (.string _)
theorem oCpl_ok (H : RelW ty φ E h w) {x : O} {x' : Value} (hx : RelV φ (x e) x') (hr : oCpl x F e h = .ok v h') : Gives ty φ E h w v h' ((Op.unary .xor x').run P w) := by
  unfold oCpl at hr
  split at hr
  · rename_i n hn
    obtain rfl := natK_rel hx hn
    obtain ⟨hb, hr⟩ := bif_ok hr
    have hb := nat_ble.1 hb
    obtain ⟨rfl, rfl⟩ := okI_ok hr
    have key : (Op.unary .xor (.int .u8 n)).run P w = .ok (.int .u8 (.ofNat (255 - n))) w := by
      simp only [Op.unary, Op.intBits, Sem.run_pure, BitVec.toNat_xor]
      have ea := ofInt_nat (k := .u8) hb
      have e1 : (BitVec.ofInt IntKind.u8.bits (if IntKind.u8.signed then -1 else IntKind.u8.max)).toNat = 255 := by decide
      rw [e1, ea]
      have e2 : 255 ^^^ n = 255 - n := by
        have : ∀ n : Fin 256, 255 ^^^ n.val = 255 - n.val := by decide +kernel
        exact this ⟨n, by omega⟩
      rw [e2, wrap_small .u8 (255 - n) (by show _ ≤ 255; omega)]; rfl
    rw [key]; exact .same H (.int _ _)
  · cases hr
end
end Go.Proofs.Ytkafejncffinmaa
