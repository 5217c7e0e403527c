/- PRINTED BY gen.py (a program of this claim): what each function comes to, operation by operation. -/
import Derived.Test.YtpdceilhgaladaaGreatDoorProg
import Derived.Test.YtpdceilhgaladaaGreatDoorRng
import Derived.KernelRfl
set_option maxRecDepth 100000
namespace Go.Proofs.YtpdceilhgaladaaGreatDoor
open Go.Vc

/-- buttress/shard.Of -/
def V_shard_Of (R : Ending → World → Prop) (a0 : Value) (w : World) : Prop :=
 CallS Tryz.prog 44 #[a0] w (retK (fun x4 w1 =>
 DoN Tryz.prog (nilS x4) w1 (fun x5 w2 =>
 Do Tryz.prog (Instr.fieldAt 104 x5 0) w2 (fun x6 w3 =>
 Do Tryz.prog (Instr.indexAt 102 x6 (Value.int IntKind.i64 0)) w3 (fun x7 w4 =>
 Do Tryz.prog (Instr.loadAt 5 x7) w4 (fun x8 w5 =>
 Do Tryz.prog (binOp .shr 5 x8 (Value.int IntKind.u64 6)) w5 (fun x9 w6 =>
 Do Tryz.prog (convert 5 3 x9) w6 (fun x10 w7 =>
 R (.returned x10) w7) (pkR R)) (pkR R)) (pkR R)) (pkR R)) (pkR R)) (pkR R)) (pkR R))
theorem vc_shard_Of {R : Ending → World → Prop} {a0 : Value} {w : World} (h : V_shard_Of R a0 w) : Calls Tryz.prog 15 #[a0] w R :=
  calls_of_vc (args := [a0]) (fun _ => ([], [])) (fun _ => none) (fun _ => none) Tryz.func15 (bodyC_some (by kernel_rfl)) rfl (by kernel_rfl) (by kernel_rfl) (by kernel_rfl) (by kernel_rfl) (Eq.mpr (by kernel_rfl) h)

/-- buttress/shard.Bits -/
def V_shard_Bits (R : Ending → World → Prop) (a0 : Value) (w : World) : Prop :=
 Do Tryz.prog (Instr.alloc 140 true (.tuple #[])) w (fun x3 w1 =>
 CallS Tryz.prog 44 #[a0] w1 (retK (fun x6 w2 =>
 DoN Tryz.prog (nilS x6) w2 (fun x7 w3 =>
 Do Tryz.prog (Instr.fieldAt 104 x7 0) w3 (fun x8 w4 =>
 CallS Tryz.prog 78 #[x8, (Value.int IntKind.i64 2)] w4 (retK (fun x9 w5 =>
 RangeF Tryz.prog x9 1 (fun l1 Rec1 y1 w6 R1 =>
 w6.heap[l1]? = some (Rec1 .ready none) ∧
 Do Tryz.prog (Instr.buildSlice 22 1 #[(0, (y1 0))]) (w6.putObj l1 (Rec1 .busy none)) (fun x12 w7 =>
 CallS Tryz.prog 79 #[x3, x12] w7 (retK (fun _x13 w8 =>
 R1 .normal w8) (fun _ _ => False))) (fun _ _ => False)) w5 (fun d1 w9 =>
 CallS Tryz.prog 80 #[x3] w9 (retK (fun x14 w12 =>
 EndV Tryz.prog (fun w R => R (.returned x14) w) R [d1] .returning w12) (fun c w => EndV Tryz.prog (fun w R => False) R [d1] (.panicking c) w))) (fun d1 w10 => EndV Tryz.prog (fun w R => R (.returned (Value.string (ByteArray.mk #[]))) w) R [d1] .returning w10) (fun id1 d1 w11 => (if id1 = 0 then CallS Tryz.prog 80 #[x3] w11 (retK (fun x14_1 w13 =>
 EndV Tryz.prog (fun w R => R (.returned x14_1) w) R [d1] .returning w13) (fun c w => EndV Tryz.prog (fun w R => False) R [d1] (.panicking c) w)) else False)) (fun c d1 w => (fun c w => EndV Tryz.prog (fun w R => False) R [d1] (.panicking c) w) c w)) (pkR R))) (pkR R)) (pkR R)) (pkR R))) (pkR R)
theorem vc_shard_Bits {R : Ending → World → Prop} {a0 : Value} {w : World} (h : V_shard_Bits R a0 w) : Calls Tryz.prog 42 #[a0] w R :=
  calls_of_vcT (args := [a0]) (fun _ => ([], [])) (fun _ => none) (fun _ => none) Tryz.func42 (bodyC_some (by kernel_rfl)) rfl (by kernel_rfl) (by kernel_rfl) (by kernel_rfl) (Eq.mpr (by kernel_rfl) h)

/-- buttress/shard.of -/
def V_shard_of (R : Ending → World → Prop) (a0 : Value) (w : World) : Prop :=
 Do Tryz.prog (Instr.alloc 104 true (.tuple #[])) w (fun x3 w1 =>
 ∃ (E1 : World → World → Prop) (Φ1 : Nat → Value → World → Prop), Pre E1 ∧ (∀ i v w w', E1 w w' → Φ1 i v w → Φ1 i v w') ∧
 PureQ Tryz.prog (fun z => E1 w1.drew z ∧ Facts Φ1 [] z) (Instr.fieldAt 104 x3 0) (fun x4 =>
 PureQ Tryz.prog (fun z => E1 w1.drew z ∧ Facts Φ1 [] z) (Instr.sliceAt 102 x4 none none none) (fun x5 =>
 (∀ w2 : World, E1 w1.drew w2 → Facts Φ1 [] w2 → Do Tryz.prog (Instr.buildSlice 22 1 #[(0, (Value.int IntKind.u8 6))]) w2 (fun x6 w3 =>
 E1 w2 w3 ∧ Φ1 2 x6 w3) (fun _ _ => False)) ∧ ∀ x6_1 : Value,
 (∀ w4 : World, E1 w1.drew w4 → Facts Φ1 [] w4 → Do Tryz.prog (convert 9 22 a0) w4 (fun x8 w5 =>
 E1 w4 w5 ∧ Φ1 4 x8 w5) (fun _ _ => False)) ∧ ∀ x8_1 : Value,
 (∀ w6 : World, E1 w1.drew w6 → Facts Φ1 [(4, x8_1), (2, x6_1)] w6 → Do Tryz.prog (Instr.buildSlice 55 2 #[(0, x6_1), (1, x8_1)]) w6 (fun x9 w7 =>
 E1 w6 w7 ∧ Φ1 5 x9 w7) (fun _ _ => False)) ∧ ∀ x9_1 : Value,
 (∀ w8 : World, E1 w1.drew w8 → Facts Φ1 [(5, x9_1), (4, x8_1), (2, x6_1)] w8 → CallS Tryz.prog 63 #[x9_1] w8 (retK (fun x10 w9 =>
 E1 w8 w9 ∧ Φ1 6 x10 w9) (fun _ _ => False))) ∧ ∀ x10_1 : Value,
 ∀ w10 : World, E1 w1.drew w10 → Facts Φ1 [(6, x10_1), (5, x9_1), (4, x8_1), (2, x6_1)] w10 →
 DoN Tryz.prog (builtin .copy #[22, 22] 3 #[false, false] #[x5, x10_1]) w10 (fun _x11 w11 =>
 R (.returned x3) w11) (pkR R)))) (pkR R)
theorem vc_shard_of {R : Ending → World → Prop} {a0 : Value} {w : World} (h : V_shard_of R a0 w) : Calls Tryz.prog 44 #[a0] w R :=
  calls_of_vc (args := [a0]) (fun _ => ([], [])) (fun _ => none) (fun _ => none) Tryz.func44 (bodyC_some (by kernel_rfl)) rfl (by kernel_rfl) (by kernel_rfl) (by kernel_rfl) (by kernel_rfl) (Eq.mpr (by kernel_rfl) h)

/-- (*buttress/shard.bytes).bits -/
def V_shard_bytes_bits (R : Ending → World → Prop) (a0 a1 : Value) (w : World) : Prop :=
 Do Tryz.prog (Instr.box 185 a0) w (fun x2 w1 =>
 Do Tryz.prog (Instr.box 3 a1) w1 (fun x3 w2 =>
 Do Tryz.prog (Instr.makeFunc (Fn.func 116) #[] #[x3, x2]) w2 (fun x5 w3 =>
 R (.returned x5) w3) (pkR R)) (pkR R)) (pkR R)
theorem vc_shard_bytes_bits {R : Ending → World → Prop} {a0 a1 : Value} {w : World} (h : V_shard_bytes_bits R a0 a1 w) : Calls Tryz.prog 78 #[a0, a1] w R :=
  calls_of_vc (args := [a0, a1]) (fun _ => ([], [])) (fun _ => none) (fun _ => none) Tryz.func78 (bodyC_some (by kernel_rfl)) rfl (by kernel_rfl) (by kernel_rfl) (by kernel_rfl) (by kernel_rfl) (Eq.mpr (by kernel_rfl) h)

/-- (*buttress/shard.bytes).bits$1 -/
def V_shard_bytes_bits_S1 (R : Ending → World → Prop) (a0 a1 a2 : Value) (w : World) : Prop :=
 Do Tryz.prog (Instr.loadAt 3 a1) w (fun x5 w1 =>
 ∃ I1 : Nat → List Value → World → Prop, (∃ m, I1 m [x5] w1) ∧
 ∀ m1 (x4 : Value) (_j1 : Env) (w2 : World), I1 m1 [x4] w2 →
 Do Tryz.prog (binOp .lss 3 x4 (Value.int IntKind.i64 512)) w2 (fun x7 w3 =>
 CondV x7 (
 Do Tryz.prog (Instr.loadAt 185 a2) w3 (fun x11 w4 =>
 Do Tryz.prog (binOp .quo 3 x4 (Value.int IntKind.i64 8)) w4 (fun x13 w5 =>
 DoN Tryz.prog (nilS x11) w5 (fun x14 w6 =>
 Do Tryz.prog (Instr.indexAt 102 x14 x13) w6 (fun x15 w7 =>
 Do Tryz.prog (Instr.loadAt 5 x15) w7 (fun x16 w8 =>
 Do Tryz.prog (binOp .rem 3 x4 (Value.int IntKind.i64 8)) w8 (fun x18 w9 =>
 Do Tryz.prog (binOp .sub 3 (Value.int IntKind.i64 7) x18) w9 (fun x19 w10 =>
 Do Tryz.prog (binOp .shr 5 x16 x19) w10 (fun x20 w11 =>
 Do Tryz.prog (binOp .and 5 x20 (Value.int IntKind.u8 1)) w11 (fun x21 w12 =>
 CallV Tryz.prog a0 [x21] w12 (fun x22 w13 =>
 Do Tryz.prog (Op.unary .not x22) w13 (fun x23 w14 =>
 CondV x23 (
 R (.returned (.tuple #[])) w14) (
 Do Tryz.prog (binOp .add 3 x4 (Value.int IntKind.i64 1)) w14 (fun x9 w15 =>
 Nxt I1 m1 [x9] w15) (pkR R))) (pkR R)) (pkR R)) (pkR R)) (pkR R)) (pkR R)) (pkR R)) (pkR R)) (pkR R)) (pkR R)) (pkR R)) (pkR R)) (
 R (.returned (.tuple #[])) w3)) (pkR R)) (pkR R)
theorem vc_shard_bytes_bits_S1 {R : Ending → World → Prop} {a0 a1 a2 : Value} {w : World} (h : V_shard_bytes_bits_S1 R a0 a1 a2 w) : Calls Tryz.prog 116 #[a0, a1, a2] w R :=
  calls_of_vc (args := [a0, a1, a2]) (fun k => match k with | 1 => ([4], [4, 6, 7, 8, 9, 10, 11, 12, 13, 14, 15, 16, 17, 18, 19, 20, 21, 22, 23]) | _ => ([], [])) (fun _ => none) (fun _ => none) Tryz.func116 (bodyC_some (by kernel_rfl)) rfl (by kernel_rfl) (by kernel_rfl) (by kernel_rfl) (by kernel_rfl) (Eq.mpr (by kernel_rfl) h)

/-- buttress/shard.sign -/
def V_shard_sign (R : Ending → World → Prop) (a0 a1 : Value) (w : World) : Prop :=
 DoN Tryz.prog (builtin .len #[22] 3 #[false] #[a1]) w (fun x7 w1 =>
 ∃ I1 : Nat → List Value → World → Prop, (∃ m, I1 m [(Value.int IntKind.i64 0)] w1) ∧
 ∀ m1 (x8 : Value) (_j1 : Env) (w2 : World), I1 m1 [x8] w2 →
 Do Tryz.prog (binOp .lss 3 x8 x7) w2 (fun x9 w3 =>
 CondV x9 (
 Do Tryz.prog (Instr.indexAt 22 a1 x8) w3 (fun x10 w4 =>
 Do Tryz.prog (Instr.loadAt 5 x10) w4 (fun x11 w5 =>
 Do Tryz.prog (binOp .add 5 (Value.int IntKind.u8 48) x11) w5 (fun x14 w6 =>
 CallS Tryz.prog 117 #[a0, x14] w6 (retK (fun _x15 w7 =>
 Do Tryz.prog (binOp .add 3 x8 (Value.int IntKind.i64 1)) w7 (fun x16 w8 =>
 Nxt I1 m1 [x16] w8) (pkR R)) (pkR R))) (pkR R)) (pkR R)) (pkR R)) (
 R (.returned (.tuple #[])) w3)) (pkR R)) (pkR R)
theorem vc_shard_sign {R : Ending → World → Prop} {a0 a1 : Value} {w : World} (h : V_shard_sign R a0 a1 w) : Calls Tryz.prog 79 #[a0, a1] w R :=
  calls_of_vc (args := [a0, a1]) (fun k => match k with | 1 => ([8], [5, 8, 9, 10, 11, 12, 13, 14, 15, 16]) | _ => ([], [])) (fun _ => none) (fun _ => none) Tryz.func79 (bodyC_some (by kernel_rfl)) rfl (by kernel_rfl) (by kernel_rfl) (by kernel_rfl) (by kernel_rfl) (Eq.mpr (by kernel_rfl) h)

/-- (*strings.Builder).String -/
def V_strings_Builder_String (R : Ending → World → Prop) (a0 : Value) (w : World) : Prop :=
 ∃ (E1 : World → World → Prop) (Φ1 : Nat → Value → World → Prop), Pre E1 ∧ (∀ i v w w', E1 w w' → Φ1 i v w → Φ1 i v w') ∧
 PureN Tryz.prog (fun z => E1 w.drew z ∧ Facts Φ1 [] z) (nilS a0) (fun x4 =>
 PureQ Tryz.prog (fun z => E1 w.drew z ∧ Facts Φ1 [] z) (Instr.fieldAt 140 x4 1) (fun x5 =>
 PureQ Tryz.prog (fun z => E1 w.drew z ∧ Facts Φ1 [] z) (Instr.loadAt 22 x5) (fun x6 =>
 PureN Tryz.prog (fun z => E1 w.drew z ∧ Facts Φ1 [] z) (builtin .unsafeSliceData #[22] 190 #[false] #[x6]) (fun x7 =>
 PureN Tryz.prog (fun z => E1 w.drew z ∧ Facts Φ1 [] z) (nilS a0) (fun x9 =>
 PureQ Tryz.prog (fun z => E1 w.drew z ∧ Facts Φ1 [] z) (Instr.fieldAt 140 x9 1) (fun x10 =>
 PureQ Tryz.prog (fun z => E1 w.drew z ∧ Facts Φ1 [] z) (Instr.loadAt 22 x10) (fun x11 =>
 PureN Tryz.prog (fun z => E1 w.drew z ∧ Facts Φ1 [] z) (builtin .len #[22] 3 #[false] #[x11]) (fun x12 =>
 ∀ w1 : World, E1 w.drew w1 → Facts Φ1 [] w1 →
 DoN Tryz.prog (builtin .unsafeString #[190, 3] 9 #[false, false] #[x7, x12]) w1 (fun x13 w2 =>
 R (.returned x13) w2) (pkR R)))))))))
theorem vc_strings_Builder_String {R : Ending → World → Prop} {a0 : Value} {w : World} (h : V_strings_Builder_String R a0 w) : Calls Tryz.prog 80 #[a0] w R :=
  calls_of_vc (args := [a0]) (fun _ => ([], [])) (fun _ => none) (fun _ => none) Tryz.func80 (bodyC_some (by kernel_rfl)) rfl (by kernel_rfl) (by kernel_rfl) (by kernel_rfl) (by kernel_rfl) (Eq.mpr (by kernel_rfl) h)

/-- (*strings.Builder).WriteByte -/
def V_strings_Builder_WriteByte (R : Ending → World → Prop) (a0 a1 : Value) (w : World) : Prop :=
 CallS Tryz.prog 150 #[a0] w (retK (fun _x6 w1 =>
 DoN Tryz.prog (nilS a0) w1 (fun x9 w2 =>
 Do Tryz.prog (Instr.fieldAt 140 x9 1) w2 (fun x10 w3 =>
 Do Tryz.prog (Instr.loadAt 22 x10) w3 (fun x11 w4 =>
 Do Tryz.prog (Instr.buildSlice 22 1 #[(0, a1)]) w4 (fun x13 w5 =>
 DoN Tryz.prog (builtin .append #[22, 22] 22 #[false, false] #[x11, x13]) w5 (fun x14 w6 =>
 DoN Tryz.prog (nilS a0) w6 (fun x15 w7 =>
 Do Tryz.prog (Instr.fieldAt 140 x15 1) w7 (fun x16 w8 =>
 DoU Tryz.prog (Instr.storeAt 22 x16 x14) w8 (fun w9 =>
 R (.returned Value.nilIface) w9) (pkR R)) (pkR R)) (pkR R)) (pkR R)) (pkR R)) (pkR R)) (pkR R)) (pkR R)) (pkR R))
theorem vc_strings_Builder_WriteByte {R : Ending → World → Prop} {a0 a1 : Value} {w : World} (h : V_strings_Builder_WriteByte R a0 a1 w) : Calls Tryz.prog 117 #[a0, a1] w R :=
  calls_of_vc (args := [a0, a1]) (fun _ => ([], [])) (fun _ => none) (fun _ => none) Tryz.func117 (bodyC_some (by kernel_rfl)) rfl (by kernel_rfl) (by kernel_rfl) (by kernel_rfl) (by kernel_rfl) (Eq.mpr (by kernel_rfl) h)

/-- (*strings.Builder).copyCheck -/
def V_strings_Builder_copyCheck (R : Ending → World → Prop) (a0 : Value) (w : World) : Prop :=
 DoN Tryz.prog (nilS a0) w (fun x3 w1 =>
 Do Tryz.prog (Instr.fieldAt 140 x3 0) w1 (fun x4 w2 =>
 Do Tryz.prog (Instr.loadAt 138 x4) w2 (fun x5 w3 =>
 Do Tryz.prog ((do eqGuard .eql 138 (Operand.tmp 5) (Operand.const (Value.pointer Option.none)) x5 (Value.pointer Option.none); binOp .eql 138 x5 (Value.pointer Option.none) : Sem Value)) w3 (fun x6 w4 =>
 CondV x6 (
 Do Tryz.prog (convert 138 245 a0) w4 (fun x9 w5 =>
 DoN Tryz.prog (callFunc 176 #[x9]) w5 (fun x10 w6 =>
 Do Tryz.prog (convert 245 138 x10) w6 (fun x11 w7 =>
 DoN Tryz.prog (nilS a0) w7 (fun x12 w8 =>
 Do Tryz.prog (Instr.fieldAt 140 x12 0) w8 (fun x13 w9 =>
 DoU Tryz.prog (Instr.storeAt 138 x13 x11) w9 (fun w10 =>
 R (.returned (.tuple #[])) w10) (pkR R)) (pkR R)) (pkR R)) (pkR R)) (pkR R)) (pkR R)) (
 DoN Tryz.prog (nilS a0) w4 (fun x15 w11 =>
 Do Tryz.prog (Instr.fieldAt 140 x15 0) w11 (fun x16 w12 =>
 Do Tryz.prog (Instr.loadAt 138 x16) w12 (fun x17 w13 =>
 Do Tryz.prog ((do eqGuard .neq 138 (Operand.tmp 17) (Operand.tmp 18) x17 a0; binOp .neq 138 x17 a0 : Sem Value)) w13 (fun x19 w14 =>
 CondV x19 (
 False) (
 R (.returned (.tuple #[])) w14)) (pkR R)) (pkR R)) (pkR R)) (pkR R))) (pkR R)) (pkR R)) (pkR R)) (pkR R)
theorem vc_strings_Builder_copyCheck {R : Ending → World → Prop} {a0 : Value} {w : World} (h : V_strings_Builder_copyCheck R a0 w) : Calls Tryz.prog 150 #[a0] w R :=
  calls_of_vc (args := [a0]) (fun _ => ([], [])) (fun _ => none) (fun _ => none) Tryz.func150 (bodyC_some (by kernel_rfl)) rfl (by kernel_rfl) (by kernel_rfl) (by kernel_rfl) (by kernel_rfl) (Eq.mpr (by kernel_rfl) h)

end Go.Proofs.YtpdceilhgaladaaGreatDoor
