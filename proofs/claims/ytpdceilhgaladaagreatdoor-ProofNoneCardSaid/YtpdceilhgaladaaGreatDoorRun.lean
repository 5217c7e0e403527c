/- What the single operations come to, over any program. -/
import Derived.Test.YtpdceilhgaladaaGreatDoorVc
namespace Go.Vc
open Go.RowKit

section
variable {P : Program} {w w' : World} {K : Value → World → Prop} {Kp : List PanicEntry → World → Prop} {v : Value}

theorem Do_of {s : Sem Value} (h : s.run P w = .ok v w') (hk : K v w') : Do P s w K Kp := ⟨by rw [h]; exact hk⟩
theorem Do_ok {s : Sem Value} (h : s.run P w = .ok v w') : Do P s w K Kp = K v w' := propext ⟨fun ⟨x⟩ => by rw [h] at x; exact x, Do_of h⟩
theorem DoU_of {s : Sem Unit} {K : World → Prop} (h : s.run P w = .ok () w') (hk : K w') : DoU P s w K Kp := ⟨by rw [h]; exact hk⟩
theorem DoU_ok {s : Sem Unit} {K : World → Prop} (h : s.run P w = .ok () w') : DoU P s w K Kp = K w' := propext ⟨fun ⟨x⟩ => by rw [h] at x; exact x, DoU_of h⟩
theorem DoN_of {s : Sem Next} (h : s.run P w = .ok (.value v) w') (hk : K v w') : DoN P s w K Kp := ⟨by rw [h]; exact hk⟩
theorem DoN_ok {s : Sem Next} (h : s.run P w = .ok (.value v) w') : DoN P s w K Kp = K v w' := propext ⟨fun ⟨x⟩ => by rw [h] at x; exact x, DoN_of h⟩
theorem PureQ_of {A : World → Prop} {s : Sem Value} {K : Value → Prop} (h : ∀ w, s.run P w = .ok v w) (hk : K v) : PureQ P A s K := ⟨v, fun w _ => h w, hk⟩
theorem PureQ_at {A : World → Prop} {s : Sem Value} {K : Value → Prop} (h : ∀ w, A w → s.run P w = .ok v w) (hk : K v) : PureQ P A s K := ⟨v, h, hk⟩
theorem PureN_of {A : World → Prop} {s : Sem Next} {K : Value → Prop} (h : ∀ w, s.run P w = .ok (.value v) w) (hk : K v) : PureN P A s K := ⟨v, fun w _ => h w, hk⟩
theorem CallS_of {f : FuncId} {args : Array Value} {R R' : Ending → World → Prop} (h : Calls P f args w R) (hk : ∀ e w', R e w' → R' e w') : CallS P f args w R' := ⟨h.mono hk⟩
/-- A call that returns: what is known of its value and of the world behind it. -/
theorem CallS_ret {f : FuncId} {args : Array Value} {R : Value → World → Prop} (h : Calls P f args w fun e w' => ∃ v, e = .returned v ∧ R v w') (hk : ∀ v w', R v w' → K v w') : CallS P f args w (retK K Kp) :=
  ⟨h.mono fun e w' ⟨v, he, hr⟩ => by subst he; exact hk v w' hr⟩
theorem retK_of {R : Value → World → Prop} {e : Ending} (h : ∃ v, e = .returned v ∧ R v w) (hk : ∀ v w, R v w → K v w) : retK K Kp e w := by
  obtain ⟨v, rfl, hr⟩ := h; exact hk _ _ hr
theorem CondV_bool {b : Bool} {A B : Prop} : CondV (.bool b) A B = SplitB b A B := rfl
theorem CondV_true {A B : Prop} : CondV (.bool true) A B = A := rfl
theorem CondV_false {A B : Prop} : CondV (.bool false) A B = B := rfl
theorem SplitB_true {A B : Prop} : SplitB true A B = A := rfl
theorem SplitB_false {A B : Prop} : SplitB false A B = B := rfl
theorem BoolV_bool {b : Bool} {F : Bool → Prop} : BoolV (.bool b) F = F b := rfl
end

/-! ### Numbers -/
def u64 (x : UInt64) : Value := .int .u64 x.toNat
def u8 (x : UInt8) : Value := .int .u8 x.toNat
abbrev i64 (x : Int) : Value := .int .i64 x
def rotr (x : UInt64) (n : Nat) : UInt64 := UInt64.ofNat (x.toNat / 2 ^ n) ||| UInt64.ofNat (x.toNat * 2 ^ (64 - n))
def shr (x : UInt64) (n : Nat) : UInt64 := UInt64.ofNat (x.toNat / 2 ^ n)
def shl (x : UInt64) (n : Nat) : UInt64 := UInt64.ofNat (x.toNat * 2 ^ n)

theorem wrap_u64 (n : Int) : IntKind.u64.wrap n = n % 18446744073709551616 := by simp [IntKind.wrap, IntKind.bits, IntKind.signed]
theorem wrap_u8' (n : Int) : IntKind.u8.wrap n = n % 256 := by simp [IntKind.wrap, IntKind.bits, IntKind.signed]
theorem wrap_i64_in {n : Int} (h1 : -9223372036854775808 ≤ n) (h2 : n < 9223372036854775808) : IntKind.i64.wrap n = n := by
  have e : IntKind.i64.wrap n = if n % 18446744073709551616 ≥ 9223372036854775808 then n % 18446744073709551616 - 18446744073709551616 else n % 18446744073709551616 := by
    simp [IntKind.wrap, IntKind.bits, IntKind.signed]
  rw [e]
  split <;> omega
theorem u64_lt (x : UInt64) : x.toNat < 18446744073709551616 := x.toNat_lt
theorem u8_lt (x : UInt8) : x.toNat < 256 := x.toNat_lt
theorem u64_wrap (n : Nat) : Value.int .u64 (IntKind.u64.wrap n) = u64 (UInt64.ofNat n) := by
  unfold u64
  rw [wrap_u64]
  congr 1
theorem u8_wrap (n : Nat) : Value.int .u8 (IntKind.u8.wrap n) = u8 (UInt8.ofNat n) := by
  unfold u8
  rw [wrap_u8']
  congr 1
theorem ofInt_u64 (x : UInt64) : BitVec.ofInt 64 (x.toNat : Int) = x.toBitVec := by
  apply BitVec.eq_of_toNat_eq
  rw [BitVec.toNat_ofInt]
  have := u64_lt x
  simp
  omega
theorem u64_bits (x : BitVec 64) : Value.int .u64 (IntKind.u64.wrap (x.toNat : Int)) = u64 (UInt64.ofBitVec x) := by
  unfold u64
  rw [wrap_u64]
  have := x.isLt
  congr 1
  simp
  omega

section
variable {P : Program} {w : World} {t yt : TypeId}

/-! ### Integer operations, whatever the kind -/
theorem run_add (k : IntKind) (a b : Int) (w : World) : (binOp .add t (.int k a) (.int k b)).run P w = .ok (.int k (k.wrap (a + b))) w := by cases k <;> rfl
theorem run_sub (k : IntKind) (a b : Int) (w : World) : (binOp .sub t (.int k a) (.int k b)).run P w = .ok (.int k (k.wrap (a - b))) w := by cases k <;> rfl
theorem run_mul (k : IntKind) (a b : Int) (w : World) : (binOp .mul t (.int k a) (.int k b)).run P w = .ok (.int k (k.wrap (a * b))) w := by cases k <;> rfl
theorem run_lss (k : IntKind) (a b : Int) (w : World) : (binOp .lss t (.int k a) (.int k b)).run P w = .ok (.bool (decide (a < b))) w := by cases k <;> rfl
theorem run_leq (k : IntKind) (a b : Int) (w : World) : (binOp .leq t (.int k a) (.int k b)).run P w = .ok (.bool (decide (a ≤ b))) w := by cases k <;> rfl
theorem run_gtr (k : IntKind) (a b : Int) (w : World) : (binOp .gtr t (.int k a) (.int k b)).run P w = .ok (.bool (decide (b < a))) w := by cases k <;> rfl
theorem run_geq (k : IntKind) (a b : Int) (w : World) : (binOp .geq t (.int k a) (.int k b)).run P w = .ok (.bool (decide (b ≤ a))) w := by cases k <;> rfl
theorem run_eql (k : IntKind) (a b : Int) (x y : Operand) (w : World) : (do eqGuard .eql t x y (.int k a) (.int k b); binOp .eql t (.int k a) (.int k b) : Sem Value).run P w = .ok (.bool (a == b)) w := by cases k <;> rfl
theorem run_neq (k : IntKind) (a b : Int) (x y : Operand) (w : World) : (do eqGuard .neq t x y (.int k a) (.int k b); binOp .neq t (.int k a) (.int k b) : Sem Value).run P w = .ok (.bool (a != b)) w := by cases k <;> rfl
theorem run_rem (k : IntKind) (a b : Int) (hb : b ≠ 0) (w : World) : (binOp .rem t (.int k a) (.int k b)).run P w = .ok (.int k (a.tmod b)) w := by
  have : (Op.intDiv .rem k a b).run P w = .ok (.int k (a.tmod b)) w := by simp only [Op.intDiv, if_neg hb]; rfl
  cases k <;> exact this
theorem run_quo (k : IntKind) (a b : Int) (hb : b ≠ 0) (w : World) : (binOp .quo t (.int k a) (.int k b)).run P w = .ok (.int k (k.wrap (a.tdiv b))) w := by
  have : (Op.intDiv .quo k a b).run P w = .ok (.int k (k.wrap (a.tdiv b))) w := by simp only [Op.intDiv, if_neg hb]; rfl
  cases k <;> exact this
theorem run_neg (k : IntKind) (a : Int) (w : World) : (Op.unary .neg (.int k a)).run P w = .ok (.int k (k.wrap (0 - a))) w := rfl
theorem run_not (b : Bool) (w : World) : (Op.unary .not (.bool b)).run P w = .ok (.bool (!b)) w := rfl
theorem run_conv {s d : TypeId} {ds : TypeDesc} {k : IntKind} (hs : P.underlying s = some ds) (hd : P.underlying d = some (.int k)) (k0 : IntKind) (a : Int) (w : World) : (convert s d (.int k0 a)).run P w = .ok (.int k (k.wrap a)) w := by
  simp [convert, underlying, program, hs, hd, Sem.run, bind, Sem.bind, pure, Conv.intToInt]
theorem run_shl (k yk : IntKind) (a n : Int) (hn : 0 ≤ n) (w : World) : (binOp .shl t (.int k a) (.int yk n)).run P w = .ok (.int k (k.wrap (a * 2 ^ min n.toNat k.bits))) w := by
  have : (Op.shift .shl k a yk n).run P w = .ok (.int k (k.wrap (a * 2 ^ min n.toNat k.bits))) w := by simp only [Op.shift, if_neg (by omega : ¬ n < 0)]; rfl
  exact this
theorem run_shr (k yk : IntKind) (a n : Int) (hn : 0 ≤ n) (w : World) : (binOp .shr t (.int k a) (.int yk n)).run P w = .ok (.int k (a.fdiv (2 ^ min n.toNat k.bits))) w := by
  have : (Op.shift .shr k a yk n).run P w = .ok (.int k (a.fdiv (2 ^ min n.toNat k.bits))) w := by simp only [Op.shift, if_neg (by omega : ¬ n < 0)]; rfl
  exact this

/-! ### On 64-bit words and bytes -/
theorem run_u64_add (x y : UInt64) (w : World) : (binOp .add t (u64 x) (u64 y)).run P w = .ok (u64 (x + y)) w := by
  have := run_add (P := P) (t := t) .u64 x.toNat y.toNat w
  rw [show (x.toNat : Int) + y.toNat = ((x.toNat + y.toNat : Nat) : Int) by omega, u64_wrap] at this
  have e : UInt64.ofNat (x.toNat + y.toNat) = x + y := by apply UInt64.toNat_inj.1; simp
  rw [e] at this; exact this
theorem run_bits_and (a b : Int) (w : World) : (binOp .and t (.int .u64 a) (.int .u64 b)).run P w = .ok (.int .u64 (IntKind.u64.wrap ((BitVec.ofInt 64 a &&& BitVec.ofInt 64 b).toNat : Int))) w := rfl
theorem run_u64_and (x y : UInt64) (w : World) : (binOp .and t (u64 x) (u64 y)).run P w = .ok (u64 (x &&& y)) w := by
  have : (Op.intBits .and .u64 x.toNat y.toNat).run P w = .ok (u64 (x &&& y)) w := by
    show Result.ok (Value.int .u64 (IntKind.u64.wrap ((BitVec.ofInt 64 x.toNat &&& BitVec.ofInt 64 y.toNat).toNat : Int))) w = _
    rw [ofInt_u64, ofInt_u64, u64_bits]; rfl
  exact this
theorem run_u64_or (x y : UInt64) (w : World) : (binOp .or t (u64 x) (u64 y)).run P w = .ok (u64 (x ||| y)) w := by
  have : (Op.intBits .or .u64 x.toNat y.toNat).run P w = .ok (u64 (x ||| y)) w := by
    show Result.ok (Value.int .u64 (IntKind.u64.wrap ((BitVec.ofInt 64 x.toNat ||| BitVec.ofInt 64 y.toNat).toNat : Int))) w = _
    rw [ofInt_u64, ofInt_u64, u64_bits]; rfl
  exact this
theorem run_u64_xor (x y : UInt64) (w : World) : (binOp .xor t (u64 x) (u64 y)).run P w = .ok (u64 (x ^^^ y)) w := by
  have : (Op.intBits .xor .u64 x.toNat y.toNat).run P w = .ok (u64 (x ^^^ y)) w := by
    show Result.ok (Value.int .u64 (IntKind.u64.wrap ((BitVec.ofInt 64 x.toNat ^^^ BitVec.ofInt 64 y.toNat).toNat : Int))) w = _
    rw [ofInt_u64, ofInt_u64, u64_bits]; rfl
  exact this
theorem run_u64_not (x : UInt64) (w : World) : (Op.unary .xor (u64 x)).run P w = .ok (u64 (~~~x)) w := by
  have e : (IntKind.u64.max : Int) = ((UInt64.ofNat 18446744073709551615).toNat : Int) := by decide
  have : (Op.intBits .xor .u64 IntKind.u64.max x.toNat).run P w = .ok (u64 (~~~x)) w := by
    show Result.ok (Value.int .u64 (IntKind.u64.wrap ((BitVec.ofInt 64 IntKind.u64.max ^^^ BitVec.ofInt 64 x.toNat).toNat : Int))) w = _
    rw [e, ofInt_u64, ofInt_u64, u64_bits]
    congr 2
  exact this
theorem run_u64_shr (x : UInt64) (yk : IntKind) (n : Int) (h0 : 0 ≤ n) (h1 : n ≤ 64) (w : World) : (binOp .shr t (u64 x) (.int yk n)).run P w = .ok (u64 (shr x n.toNat)) w := by
  have := run_shr (P := P) (t := t) .u64 yk x.toNat n h0 w
  rw [show min n.toNat IntKind.u64.bits = n.toNat by simp [IntKind.bits]; omega] at this
  have e : (x.toNat : Int).fdiv (2 ^ n.toNat) = ((x.toNat / 2 ^ n.toNat : Nat) : Int) := by
    rw [Int.fdiv_eq_ediv_of_nonneg _ (Int.pow_nonneg (by decide))]; norm_cast
  rw [e] at this
  have e2 : Value.int .u64 ((x.toNat / 2 ^ n.toNat : Nat) : Int) = u64 (shr x n.toNat) := by
    unfold u64 shr
    have := Nat.div_le_self x.toNat (2 ^ n.toNat)
    have := u64_lt x
    rw [UInt64.toNat_ofNat', Nat.mod_eq_of_lt (by omega)]
  rw [e2] at this; exact this
theorem run_u64_shl (x : UInt64) (yk : IntKind) (n : Int) (h0 : 0 ≤ n) (h1 : n ≤ 64) (w : World) : (binOp .shl t (u64 x) (.int yk n)).run P w = .ok (u64 (shl x n.toNat)) w := by
  have := run_shl (P := P) (t := t) .u64 yk x.toNat n h0 w
  rw [show min n.toNat IntKind.u64.bits = n.toNat by simp [IntKind.bits]; omega] at this
  rw [show (x.toNat : Int) * 2 ^ n.toNat = ((x.toNat * 2 ^ n.toNat : Nat) : Int) by simp, u64_wrap] at this
  exact this
theorem run_u8_to_u64 {s d : TypeId} {ds : TypeDesc} (hs : P.underlying s = some ds) (hd : P.underlying d = some (.int .u64)) (x : UInt8) (w : World) : (convert s d (u8 x)).run P w = .ok (u64 (UInt64.ofNat x.toNat)) w := by
  have := run_conv hs hd .u8 x.toNat w
  rw [u64_wrap] at this; exact this
theorem run_u64_to_u8 {s d : TypeId} {ds : TypeDesc} (hs : P.underlying s = some ds) (hd : P.underlying d = some (.int .u8)) (x : UInt64) (w : World) : (convert s d (u64 x)).run P w = .ok (u8 (UInt8.ofNat x.toNat)) w := by
  have := run_conv hs hd .u64 x.toNat w
  rw [u8_wrap] at this; exact this
end
end Go.Vc
