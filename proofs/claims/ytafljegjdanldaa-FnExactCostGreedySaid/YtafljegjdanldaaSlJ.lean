/- Rules for sets of bits. -/
import Derived.Test.YtafljegjdanldaaSlI
namespace Go.Proofs.Ytafljegjdanldaa
open Go.RowKit

section
variable {P : Program} {env : List (Nat × Value)} {w : World} {ty : TypeId} {x y : Operand} {kx ky : IntKind} {t t' : TypeId} {a b : Int}

theorem run_shift {ρ : Operand → Value} {op : BinOp} (hx : ρ x = .int kx a) (hy : ρ y = .int ky b) (hop : op = .shl ∨ op = .shr) {v : Value} {d : Option Tmp} {pos : String} {aft : Array Edge}
    (hrun : (Op.shift op kx a ky b).run P w = .ok v w) :
    (execOp ρ ⟨d, .binOp op t x y t', ty, pos, aft, none⟩).run P w = .ok (.value v) w := by
  have he : (eqGuard op t x y (ρ x) (ρ y)).run P w = .ok () w := by
    rw [hx, hy]
    rcases hop with rfl | rfl <;> simp [eqGuard]
  have hb : (binOp op t (ρ x) (ρ y)).run P w = .ok v w := by
    rw [hx, hy]
    rcases hop with rfl | rfl <;> simpa [binOp] using hrun
  simp [execOp, he, hb]

theorem u16_in {n : Nat} (h : n < 65536) : IntKind.u16.wrap (n : Int) = (n : Int) := by
  simp only [IntKind.wrap_u16]
  omega
theorem bv_nat {n : Nat} (h : n < 65536) : (BitVec.ofNat 16 n).toNat = n := by rw [BitVec.toNat_ofNat]; omega

theorem ov_shr16 {m n : Nat} (hx : ev env x = some (.int .u16 (m : Int))) (hy : ev env y = some (.int .i64 (n : Int))) (hn : n ≤ 16) : OpV P env w (.binOp .shr t x y t') ty (.int .u16 ((m / 2 ^ n : Nat) : Int)) :=
  fun _ _ _ ρ hρ => run_shift (hρ.1 x _ hx) (hρ.1 y _ hy) (.inr rfl) (by
    have h1 : min (n : Int).toNat IntKind.u16.bits = n := by simp [IntKind.bits]; omega
    have h2 : ¬ (n : Int) < 0 := by omega
    simp only [Op.shift, if_neg h2, h1, Sem.run_pure]
    rw [Int.fdiv_eq_ediv_of_nonneg _ (by exact_mod_cast Nat.zero_le _)]
    norm_cast)
theorem ov_shl16 {m n : Nat} (hx : ev env x = some (.int .u16 (m : Int))) (hy : ev env y = some (.int .i64 (n : Int))) (hn : n ≤ 16) (hm : m * 2 ^ n < 65536) : OpV P env w (.binOp .shl t x y t') ty (.int .u16 ((m * 2 ^ n : Nat) : Int)) :=
  fun _ _ _ ρ hρ => run_shift (hρ.1 x _ hx) (hρ.1 y _ hy) (.inl rfl) (by
    have h1 : min (n : Int).toNat IntKind.u16.bits = n := by simp [IntKind.bits]; omega
    have h2 : ¬ (n : Int) < 0 := by omega
    simp only [Op.shift, if_neg h2, h1, Sem.run_pure]
    rw [show ((m : Int) * 2 ^ n) = ((m * 2 ^ n : Nat) : Int) by push_cast; rfl, u16_in hm])
theorem ov_and16 {m n : Nat} (hx : ev env x = some (.int .u16 (m : Int))) (hy : ev env y = some (.int .u16 (n : Int))) (hm : m < 65536) (hn : n < 65536) : OpV P env w (.binOp .and t x y t') ty (.int .u16 ((m &&& n : Nat) : Int)) :=
  fun _ _ _ ρ hρ => run_bin (hρ.1 x _ hx) (hρ.1 y _ hy) (by decide) (by
    have h3 : m &&& n < 65536 := Nat.lt_of_le_of_lt Nat.and_le_left hm
    show Result.ok (Value.int .u16 (IntKind.u16.wrap (((BitVec.ofInt 16 (m : Int)) &&& (BitVec.ofInt 16 (n : Int))).toNat : Int))) w = _
    rw [BitVec.ofInt_natCast, BitVec.ofInt_natCast, BitVec.toNat_and, bv_nat hm, bv_nat hn, u16_in h3])
theorem ov_or16 {m n : Nat} (hx : ev env x = some (.int .u16 (m : Int))) (hy : ev env y = some (.int .u16 (n : Int))) (hm : m < 65536) (hn : n < 65536) : OpV P env w (.binOp .or t x y t') ty (.int .u16 ((m ||| n : Nat) : Int)) :=
  fun _ _ _ ρ hρ => run_bin (hρ.1 x _ hx) (hρ.1 y _ hy) (by decide) (by
    have h3 : m ||| n < 65536 := Nat.or_lt_two_pow (n := 16) hm hn
    show Result.ok (Value.int .u16 (IntKind.u16.wrap (((BitVec.ofInt 16 (m : Int)) ||| (BitVec.ofInt 16 (n : Int))).toNat : Int))) w = _
    rw [BitVec.ofInt_natCast, BitVec.ofInt_natCast, BitVec.toNat_or, bv_nat hm, bv_nat hn, u16_in h3])
end

/-- The front of a row of one's own. -/
theorem IRow.front {X : Heaplet} {e : TypeId} {v : Value} {xs : List Int} {n : Nat} (hX : IRow X e v xs) (hn : n ≤ xs.length) : IRow X e (reslice v 0 n 1) (xs.take n) := by
  have h1 := Row.reslice hX (lo := 0) (hi := n) (by omega) hn
  unfold IRow
  rw [List.length_take, Nat.min_eq_left hn, List.map_take]
  simpa using h1

/-! sets of nodes -/
theorem bit_has (m a : Nat) : (!decide ((((m / 2 ^ a) &&& 1 : Nat) : Int) = 0)) = m.testBit a := by
  rw [Nat.testBit, Nat.shiftRight_eq_div_pow, Nat.and_comm]
  by_cases h : 1 &&& m / 2 ^ a = 0
  · simp [h]
  · have h1 : ¬ ((1 &&& m / 2 ^ a : Nat) : Int) = 0 := by omega
    rw [decide_eq_false h1]
    have h2 : ((1 &&& m / 2 ^ a) != 0) = true := by simpa using h
    rw [h2]; rfl
theorem bit_with (m a b : Nat) : (m ||| 2 ^ a).testBit b = (m.testBit b || decide (b = a)) := by
  rw [Nat.testBit_or, Nat.testBit_two_pow]
  by_cases h : a = b
  · subst h; simp
  · have : ¬ b = a := fun h2 => h h2.symm
    simp [h, this]
theorem pow_lt16 {a : Nat} (ha : a < 10) : 1 * 2 ^ a < 65536 := by
  rw [Nat.one_mul]
  exact Nat.lt_of_lt_of_le (Nat.pow_lt_pow_right (by omega) ha) (by omega)
theorem bit_lt {m a : Nat} (hm : m < 1024) (ha : a < 10) : m ||| 2 ^ a < 1024 := Nat.or_lt_two_pow (n := 10) hm (Nat.lt_of_lt_of_le (Nat.pow_lt_pow_right (by omega) ha) (Nat.le_refl _))
end Go.Proofs.Ytafljegjdanldaa
