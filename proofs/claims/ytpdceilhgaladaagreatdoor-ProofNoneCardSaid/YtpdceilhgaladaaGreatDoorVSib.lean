/- PRINTED BY gen.py (a program of this claim): what each function comes to, operation by operation. -/
import Derived.Test.YtpdceilhgaladaaGreatDoorProg
import Derived.Test.YtpdceilhgaladaaGreatDoorRng
import Derived.KernelRfl
set_option maxRecDepth 100000
namespace Go.Proofs.YtpdceilhgaladaaGreatDoor
open Go.Vc

/-- buttress/wire.Join -/
def V_wire_Join (R : Ending → World → Prop) (a0 : Value) (w : World) : Prop :=
 CallS Tryz.prog 115 #[a0] w (retK (fun x4 w1 =>
 R (.returned x4) w1) (pkR R))
theorem vc_wire_Join {R : Ending → World → Prop} {a0 : Value} {w : World} (h : V_wire_Join R a0 w) : Calls Tryz.prog 77 #[a0] w R :=
  calls_of_vc (args := [a0]) (fun _ => ([], [])) (fun _ => none) (fun _ => none) Tryz.func77 (bodyC_some (by kernel_rfl)) rfl (by kernel_rfl) (by kernel_rfl) (by kernel_rfl) (by kernel_rfl) (Eq.mpr (by kernel_rfl) h)

/-- buttress/wire.Bytes -/
def V_wire_Bytes (R : Ending → World → Prop) (a0 : Value) (w : World) : Prop :=
 DoN Tryz.prog (builtin .len #[22] 3 #[false] #[a0]) w (fun x4 w1 =>
 CallS Tryz.prog 113 #[x4] w1 (retK (fun x5 w2 =>
 Do Tryz.prog (Instr.buildSlice 55 2 #[(0, x5), (1, a0)]) w2 (fun x7 w3 =>
 CallS Tryz.prog 77 #[x7] w3 (retK (fun x8 w4 =>
 R (.returned x8) w4) (pkR R))) (pkR R)) (pkR R))) (pkR R)
theorem vc_wire_Bytes {R : Ending → World → Prop} {a0 : Value} {w : World} (h : V_wire_Bytes R a0 w) : Calls Tryz.prog 102 #[a0] w R :=
  calls_of_vc (args := [a0]) (fun _ => ([], [])) (fun _ => none) (fun _ => none) Tryz.func102 (bodyC_some (by kernel_rfl)) rfl (by kernel_rfl) (by kernel_rfl) (by kernel_rfl) (by kernel_rfl) (Eq.mpr (by kernel_rfl) h)

/-- buttress/wire.Number -/
def V_wire_Number (R : Ending → World → Prop) (a0 : Value) (w : World) : Prop :=
 Do Tryz.prog (Instr.makeSlice 22 (Value.int IntKind.i64 8) (Value.int IntKind.i64 8)) w (fun x5 w1 =>
 DoN Tryz.prog (builtin .len #[22] 3 #[false] #[x5]) w1 (fun x7 w2 =>
 ∃ I1 : Nat → List Value → World → Prop, (∃ m, I1 m [(Value.int IntKind.i64 0)] w2) ∧
 ∀ m1 (x8 : Value) (_j1 : Env) (w3 : World), I1 m1 [x8] w3 →
 Do Tryz.prog (binOp .lss 3 x8 x7) w3 (fun x9 w4 =>
 CondV x9 (
 Do Tryz.prog (binOp .sub 3 (Value.int IntKind.i64 7) x8) w4 (fun x13 w5 =>
 Do Tryz.prog (convert 3 191 a0) w5 (fun x15 w6 =>
 Do Tryz.prog (binOp .mul 3 (Value.int IntKind.i64 8) x8) w6 (fun x17 w7 =>
 Do Tryz.prog (binOp .shr 191 x15 x17) w7 (fun x18 w8 =>
 Do Tryz.prog (convert 191 5 x18) w8 (fun x19 w9 =>
 Do Tryz.prog (Instr.indexAt 22 x5 x13) w9 (fun x20 w10 =>
 DoU Tryz.prog (Instr.storeAt 5 x20 x19) w10 (fun w11 =>
 Do Tryz.prog (binOp .add 3 x8 (Value.int IntKind.i64 1)) w11 (fun x21 w12 =>
 Nxt I1 m1 [x21] w12) (pkR R)) (pkR R)) (pkR R)) (pkR R)) (pkR R)) (pkR R)) (pkR R)) (pkR R)) (
 R (.returned x5) w4)) (pkR R)) (pkR R)) (pkR R)
theorem vc_wire_Number {R : Ending → World → Prop} {a0 : Value} {w : World} (h : V_wire_Number R a0 w) : Calls Tryz.prog 113 #[a0] w R :=
  calls_of_vc (args := [a0]) (fun k => match k with | 3 => ([8], [4, 8, 9, 10, 11, 12, 13, 14, 15, 16, 17, 18, 19, 20, 21]) | _ => ([], [])) (fun _ => none) (fun _ => none) Tryz.func113 (bodyC_some (by kernel_rfl)) rfl (by kernel_rfl) (by kernel_rfl) (by kernel_rfl) (by kernel_rfl) (Eq.mpr (by kernel_rfl) h)

/-- slices.Concat[[]byte,byte] -/
def V_slices_Concat_byte_byte (R : Ending → World → Prop) (a0 : Value) (w : World) : Prop :=
 DoN Tryz.prog (builtin .len #[55] 3 #[false] #[a0]) w (fun x10 w1 =>
 ∃ I1 : Nat → List Value → World → Prop, (∃ m, I1 m [(Value.int IntKind.i64 0), (Value.int IntKind.i64 0)] w1) ∧
 ∀ m1 (x3 : Value) (x11 : Value) (_j1 : Env) (w2 : World), I1 m1 [x3, x11] w2 →
 Do Tryz.prog (binOp .lss 3 x11 x10) w2 (fun x12 w3 =>
 CondV x12 (
 Do Tryz.prog (Instr.indexAt 55 a0 x11) w3 (fun x13 w4 =>
 Do Tryz.prog (Instr.loadAt 22 x13) w4 (fun x14 w5 =>
 DoN Tryz.prog (builtin .len #[22] 3 #[false] #[x14]) w5 (fun x17 w6 =>
 Do Tryz.prog (binOp .add 3 x3 x17) w6 (fun x18 w7 =>
 Do Tryz.prog (binOp .lss 3 x18 (Value.int IntKind.i64 0)) w7 (fun x20 w8 =>
 CondV x20 (
 Do Tryz.prog (Instr.makeInterface 9 (Value.string (ByteArray.mk #[108, 101, 110, 32, 111, 117, 116, 32, 111, 102, 32, 114, 97, 110, 103, 101]))) w8 (fun x21 w9 =>
 Do Tryz.prog (Instr.panic x21) w9 (fun _u w10 =>
 Do Tryz.prog (binOp .add 3 x11 (Value.int IntKind.i64 1)) w10 (fun x22 w11 =>
 Nxt I1 m1 [x18, x22] w11) (pkR R)) (pkR R)) (pkR R)) (
 Do Tryz.prog (binOp .add 3 x11 (Value.int IntKind.i64 1)) w8 (fun x22_1 w12 =>
 Nxt I1 m1 [x18, x22_1] w12) (pkR R))) (pkR R)) (pkR R)) (pkR R)) (pkR R)) (pkR R)) (
 CallS Tryz.prog 149 #[(Value.slice Option.none 0 0), x3] w3 (retK (fun x24 w13 =>
 DoN Tryz.prog (builtin .len #[55] 3 #[false] #[a0]) w13 (fun x26 w14 =>
 ∃ I2 : Nat → List Value → World → Prop, (∃ m, I2 m [x24, (Value.int IntKind.i64 0)] w14) ∧
 ∀ m2 (x6 : Value) (x27 : Value) (_j2 : Env) (w15 : World), I2 m2 [x6, x27] w15 →
 Do Tryz.prog (binOp .lss 3 x27 x26) w15 (fun x28 w16 =>
 CondV x28 (
 Do Tryz.prog (Instr.indexAt 55 a0 x27) w16 (fun x29 w17 =>
 Do Tryz.prog (Instr.loadAt 22 x29) w17 (fun x30 w18 =>
 DoN Tryz.prog (builtin .append #[22, 22] 22 #[false, false] #[x6, x30]) w18 (fun x33 w19 =>
 Do Tryz.prog (binOp .add 3 x27 (Value.int IntKind.i64 1)) w19 (fun x34 w20 =>
 Nxt I2 m2 [x33, x34] w20) (pkR R)) (pkR R)) (pkR R)) (pkR R)) (
 R (.returned x6) w16)) (pkR R)) (pkR R)) (pkR R)))) (pkR R)) (pkR R)
theorem vc_slices_Concat_byte_byte {R : Ending → World → Prop} {a0 : Value} {w : World} (h : V_slices_Concat_byte_byte R a0 w) : Calls Tryz.prog 115 #[a0] w R :=
  calls_of_vc (args := [a0]) (fun k => match k with | 3 => ([3, 11], [3, 5, 11, 12, 13, 14, 15, 16, 17, 18, 19, 20, 21, 22]) | 11 => ([6, 27], [6, 8, 27, 28, 29, 30, 31, 32, 33, 34]) | _ => ([], [])) (fun _ => none) (fun _ => none) Tryz.func115 (bodyC_some (by kernel_rfl)) rfl (by kernel_rfl) (by kernel_rfl) (by kernel_rfl) (by kernel_rfl) (Eq.mpr (by kernel_rfl) h)

/-- buttress/sibling.Put -/
def V_sibling_Put (R : Ending → World → Prop) (a0 : Value) (w : World) : Prop :=
 Do Tryz.prog (Instr.box 47 a0) w (fun x1 w1 =>
 Do Tryz.prog (Instr.makeFunc (Fn.func 111) #[] #[x1]) w1 (fun x4 w2 =>
 CallS Tryz.prog 110 #[x4] w2 (retK (fun x5 w3 =>
 Do Tryz.prog (Instr.extract x5 0) w3 (fun x6 w4 =>
 Do Tryz.prog (Instr.extract x5 1) w4 (fun x7 w5 =>
 R (.returned (.tuple #[x6, x7])) w5) (pkR R)) (pkR R)) (pkR R))) (pkR R)) (pkR R)
theorem vc_sibling_Put {R : Ending → World → Prop} {a0 : Value} {w : World} (h : V_sibling_Put R a0 w) : Calls Tryz.prog 74 #[a0] w R :=
  calls_of_vc (args := [a0]) (fun _ => ([], [])) (fun _ => none) (fun _ => none) Tryz.func74 (bodyC_some (by kernel_rfl)) rfl (by kernel_rfl) (by kernel_rfl) (by kernel_rfl) (by kernel_rfl) (Eq.mpr (by kernel_rfl) h)

/-- buttress/sibling.tried[[]byte] -/
def V_sibling_tried_byte (R : Ending → World → Prop) (a0 : Value) (w : World) : Prop :=
 Do Tryz.prog (Instr.alloc 22 true (.tuple #[])) w (fun x2 w1 =>
 Do Tryz.prog (Instr.alloc 44 true (.tuple #[])) w1 (fun x3 w2 =>
 Do Tryz.prog (Instr.makeFunc (Fn.func 145) #[] #[x3, x2]) w2 (fun x4 w3 =>
 DefV x4 [] (fun d1 =>
 CallV Tryz.prog a0 [] w3 (fun x6 w4 =>
 DoU Tryz.prog (Instr.storeAt 22 x2 x6) w4 (fun w5 =>
 DoU Tryz.prog (Instr.storeAt 44 x3 (Value.int IntKind.i64 0)) w5 (fun w6 =>
 EndV Tryz.prog (fun w R => ResV Tryz.prog [(.inr (x2, 22)), (.inr (x3, 44))] w R) R [d1] .returning w6) (fun c w => EndV Tryz.prog (fun w R => ResV Tryz.prog [(.inr (x2, 22)), (.inr (x3, 44))] w R) R [d1] (.panicking c) w)) (fun c w => EndV Tryz.prog (fun w R => ResV Tryz.prog [(.inr (x2, 22)), (.inr (x3, 44))] w R) R [d1] (.panicking c) w)) (fun c w => EndV Tryz.prog (fun w R => ResV Tryz.prog [(.inr (x2, 22)), (.inr (x3, 44))] w R) R [d1] (.panicking c) w))) (pkR R)) (pkR R)) (pkR R)
theorem vc_sibling_tried_byte {R : Ending → World → Prop} {a0 : Value} {w : World} (h : V_sibling_tried_byte R a0 w) : Calls Tryz.prog 110 #[a0] w R :=
  calls_of_vcT (args := [a0]) (fun _ => ([], [])) (fun _ => none) (fun _ => none) Tryz.func110 (bodyC_some (by kernel_rfl)) rfl (by kernel_rfl) (by kernel_rfl) (by kernel_rfl) (Eq.mpr (by kernel_rfl) h)

/-- buttress/sibling.Put$1 -/
def V_sibling_Put_S1 (R : Ending → World → Prop) (a0 : Value) (w : World) : Prop :=
 Do Tryz.prog (Instr.loadAt 47 a0) w (fun x6 w1 =>
 CallS Tryz.prog 112 #[x6] w1 (retK (fun x7 w2 =>
 DoN Tryz.prog (nilS x7) w2 (fun x9 w3 =>
 Do Tryz.prog (Instr.fieldAt 181 x9 0) w3 (fun x10 w4 =>
 Do Tryz.prog (Instr.loadAt 179 x10) w4 (fun x11 w5 =>
 DoN Tryz.prog (builtin .len #[179] 3 #[false] #[x11]) w5 (fun x12 w6 =>
 CallS Tryz.prog 113 #[x12] w6 (retK (fun x13 w7 =>
 DoN Tryz.prog (nilS x7) w7 (fun x15 w8 =>
 Do Tryz.prog (Instr.fieldAt 181 x15 0) w8 (fun x16 w9 =>
 Do Tryz.prog (Instr.loadAt 179 x16) w9 (fun x17 w10 =>
 DoN Tryz.prog (builtin .len #[179] 3 #[false] #[x17]) w10 (fun x18 w11 =>
 ∃ I1 : Nat → List Value → World → Prop, (∃ m, I1 m [x13, (Value.int IntKind.i64 0)] w11) ∧
 ∀ m1 (x3 : Value) (x19 : Value) (_j1 : Env) (w12 : World), I1 m1 [x3, x19] w12 →
 Do Tryz.prog (binOp .lss 3 x19 x18) w12 (fun x20 w13 =>
 CondV x20 (
 Do Tryz.prog (Instr.indexAt 179 x17 x19) w13 (fun x21 w14 =>
 Do Tryz.prog (Instr.loadAt 183 x21) w14 (fun x22 w15 =>
 Do Tryz.prog (Instr.alloc 183 true (.tuple #[])) w15 (fun x5 w16 =>
 DoU Tryz.prog (Instr.storeAt 183 x5 x22) w16 (fun w17 =>
 Do Tryz.prog (Instr.fieldAt 183 x5 1) w17 (fun x24 w18 =>
 Do Tryz.prog (Instr.loadAt 22 x24) w18 (fun x25 w19 =>
 CallS Tryz.prog 102 #[x25] w19 (retK (fun x26 w20 =>
 Do Tryz.prog (Instr.buildSlice 55 2 #[(0, x3), (1, x26)]) w20 (fun x27 w21 =>
 CallS Tryz.prog 77 #[x27] w21 (retK (fun x28 w22 =>
 Do Tryz.prog (binOp .add 3 x19 (Value.int IntKind.i64 1)) w22 (fun x29 w23 =>
 Nxt I1 m1 [x28, x29] w23) (pkR R)) (pkR R))) (pkR R)) (pkR R))) (pkR R)) (pkR R)) (pkR R)) (pkR R)) (pkR R)) (pkR R)) (
 R (.returned x3) w13)) (pkR R)) (pkR R)) (pkR R)) (pkR R)) (pkR R)) (pkR R))) (pkR R)) (pkR R)) (pkR R)) (pkR R)) (pkR R))) (pkR R)
theorem vc_sibling_Put_S1 {R : Ending → World → Prop} {a0 : Value} {w : World} (h : V_sibling_Put_S1 R a0 w) : Calls Tryz.prog 111 #[a0] w R :=
  calls_of_vc (args := [a0]) (fun k => match k with | 4 => ([3, 19], [3, 5, 19, 20, 21, 22, 23, 24, 25, 26, 27, 28, 29]) | _ => ([], [])) (fun _ => none) (fun _ => none) Tryz.func111 (bodyC_some (by kernel_rfl)) rfl (by kernel_rfl) (by kernel_rfl) (by kernel_rfl) (by kernel_rfl) (Eq.mpr (by kernel_rfl) h)

/-- buttress/sibling.rowOf -/
def V_sibling_rowOf (R : Ending → World → Prop) (a0 : Value) (w : World) : Prop :=
 Do Tryz.prog (Instr.build 181 #[]) w (fun x6 w1 =>
 Do Tryz.prog (Instr.box 181 x6) w1 (fun x7 w2 =>
 CallS Tryz.prog 135 #[x7, a0] w2 (retK (fun _x10 w3 =>
 DoN Tryz.prog (nilS x7) w3 (fun x12 w4 =>
 Do Tryz.prog (Instr.fieldAt 181 x12 0) w4 (fun x13 w5 =>
 Do Tryz.prog (Instr.loadAt 179 x13) w5 (fun x14 w6 =>
 DoN Tryz.prog (builtin .len #[179] 3 #[false] #[x14]) w6 (fun x15 w7 =>
 ∃ I1 : Nat → List Value → World → Prop, (∃ m, I1 m [(Value.int IntKind.i64 0)] w7) ∧
 ∀ m1 (x16 : Value) (_j1 : Env) (w8 : World), I1 m1 [x16] w8 →
 Do Tryz.prog (binOp .lss 3 x16 x15) w8 (fun x17 w9 =>
 CondV x17 (
 Do Tryz.prog (Instr.indexAt 179 x14 x16) w9 (fun x19 w10 =>
 Do Tryz.prog (Instr.loadAt 183 x19) w10 (fun x20 w11 =>
 Do Tryz.prog (Instr.alloc 183 true (.tuple #[])) w11 (fun x5 w12 =>
 DoU Tryz.prog (Instr.storeAt 183 x5 x20) w12 (fun w13 =>
 ∃ (E2 : World → World → Prop) (Φ2 : Nat → Value → World → Prop), Pre E2 ∧ (∀ i v w w', E2 w w' → Φ2 i v w → Φ2 i v w') ∧
 PureQ Tryz.prog (fun z => E2 w13.drew z ∧ Facts Φ2 [] z) ((do eqGuard .eql 3 (Operand.tmp 21) (Operand.const (Value.int IntKind.i64 0)) x16 (Value.int IntKind.i64 0); binOp .eql 3 x16 (Value.int IntKind.i64 0) : Sem Value)) (fun x22 =>
 BoolV x22 (fun b7 =>
 SplitB b7 (
 PureQ Tryz.prog (fun z => E2 w13.drew z ∧ Facts Φ2 [] z) (Instr.loadAt 183 x5) (fun x38 =>
 ∀ w14 : World, E2 w13.drew w14 → Facts Φ2 [] w14 →
 CallS Tryz.prog 148 #[x7, x38] w14 (retK (fun x39 w15 =>
 Do Tryz.prog (Op.unary .not x39) w15 (fun x40 w16 =>
 CallS Tryz.prog 146 #[x40] w16 (retK (fun _x42 w17 =>
 Do Tryz.prog (binOp .add 3 x16 (Value.int IntKind.i64 1)) w17 (fun x43 w18 =>
 Nxt I1 m1 [x43] w18) (pkR R)) (pkR R))) (pkR R)) (pkR R)))) (
 PureN Tryz.prog (fun z => E2 w13.drew z ∧ Facts Φ2 [] z) (nilS x7) (fun x25 =>
 PureQ Tryz.prog (fun z => E2 w13.drew z ∧ Facts Φ2 [] z) (Instr.fieldAt 181 x25 0) (fun x26 =>
 PureQ Tryz.prog (fun z => E2 w13.drew z ∧ Facts Φ2 [] z) (Instr.loadAt 179 x26) (fun x27 =>
 PureQ Tryz.prog (fun z => E2 w13.drew z ∧ Facts Φ2 [] z) (binOp .sub 3 x16 (Value.int IntKind.i64 1)) (fun x29 =>
 PureQ Tryz.prog (fun z => E2 w13.drew z ∧ Facts Φ2 [] z) (Instr.indexAt 179 x27 x29) (fun x30 =>
 PureQ Tryz.prog (fun z => E2 w13.drew z ∧ Facts Φ2 [] z) (Instr.loadAt 183 x30) (fun x31 =>
 PureQ Tryz.prog (fun z => E2 w13.drew z ∧ Facts Φ2 [] z) (Instr.loadAt 183 x5) (fun x32 =>
 (∀ w19 : World, E2 w13.drew w19 → Facts Φ2 [] w19 → CallS Tryz.prog 147 #[x31, x32] w19 (retK (fun x33 w20 =>
 E2 w19 w20 ∧ Φ2 12 x33 w20) (fun _ _ => False))) ∧ ∀ x33_1 : Value,
 PureQ Tryz.prog (fun z => E2 w13.drew z ∧ Facts Φ2 [(12, x33_1)] z) (binOp .lss 3 x33_1 (Value.int IntKind.i64 0)) (fun x34 =>
 BoolV x34 (fun b8 =>
 SplitB b8 (
 PureQ Tryz.prog (fun z => E2 w13.drew z ∧ Facts Φ2 [(12, x33_1)] z) (Instr.loadAt 183 x5) (fun x38_1 =>
 ∀ w21 : World, E2 w13.drew w21 → Facts Φ2 [(12, x33_1)] w21 →
 CallS Tryz.prog 148 #[x7, x38_1] w21 (retK (fun x39_1 w22 =>
 Do Tryz.prog (Op.unary .not x39_1) w22 (fun x40_1 w23 =>
 CallS Tryz.prog 146 #[x40_1] w23 (retK (fun _x42_1 w24 =>
 Do Tryz.prog (binOp .add 3 x16 (Value.int IntKind.i64 1)) w24 (fun x43_1 w25 =>
 Nxt I1 m1 [x43_1] w25) (pkR R)) (pkR R))) (pkR R)) (pkR R)))) (
 ∀ w26 : World, E2 w13.drew w26 → Facts Φ2 [(12, x33_1)] w26 →
 CallS Tryz.prog 146 #[(Value.bool Bool.false)] w26 (retK (fun _x42_2 w27 =>
 Do Tryz.prog (binOp .add 3 x16 (Value.int IntKind.i64 1)) w27 (fun x43_2 w28 =>
 Nxt I1 m1 [x43_2] w28) (pkR R)) (pkR R)))))))))))))))) (pkR R)) (pkR R)) (pkR R)) (pkR R)) (
 R (.returned x7) w9)) (pkR R)) (pkR R)) (pkR R)) (pkR R)) (pkR R)) (pkR R))) (pkR R)) (pkR R)
theorem vc_sibling_rowOf {R : Ending → World → Prop} {a0 : Value} {w : World} (h : V_sibling_rowOf R a0 w) : Calls Tryz.prog 112 #[a0] w R :=
  calls_of_vc (args := [a0]) (fun k => match k with | 4 => ([16], [4, 5, 16, 17, 18, 19, 20, 21, 22, 23, 24, 25, 26, 27, 28, 29, 30, 31, 32, 33, 34, 35, 36, 37, 38, 39, 40, 41, 42, 43]) | _ => ([], [])) (fun _ => none) (fun _ => none) Tryz.func112 (bodyC_some (by kernel_rfl)) rfl (by kernel_rfl) (by kernel_rfl) (by kernel_rfl) (by kernel_rfl) (Eq.mpr (by kernel_rfl) h)

/-- (*buttress/sibling.row).add -/
def V_sibling_row_add (R : Ending → World → Prop) (a0 a1 : Value) (w : World) : Prop :=
 DoN Tryz.prog (builtin .len #[47] 3 #[false] #[a1]) w (fun x9 w1 =>
 ∃ I1 : Nat → List Value → World → Prop, (∃ m, I1 m [(Value.int IntKind.i64 0)] w1) ∧
 ∀ m1 (x10 : Value) (_j1 : Env) (w2 : World), I1 m1 [x10] w2 →
 Do Tryz.prog (binOp .lss 3 x10 x9) w2 (fun x11 w3 =>
 CondV x11 (
 Do Tryz.prog (Instr.indexAt 47 a1 x10) w3 (fun x12 w4 =>
 Do Tryz.prog (Instr.loadAt 86 x12) w4 (fun x13 w5 =>
 Do Tryz.prog (Instr.alloc 86 true (.tuple #[])) w5 (fun x5 w6 =>
 DoU Tryz.prog (Instr.storeAt 86 x5 x13) w6 (fun w7 =>
 Do Tryz.prog (Instr.loadAt 86 x5) w7 (fun x15 w8 =>
 CallS Tryz.prog 160 #[x15] w8 (retK (fun x16 w9 =>
 Do Tryz.prog (Instr.extract x16 0) w9 (fun x17 w10 =>
 Do Tryz.prog (Instr.extract x16 1) w10 (fun x18 w11 =>
 ∃ J2 : List Value → World → Prop, (
 ∃ (E3 : World → World → Prop) (Φ3 : Nat → Value → World → Prop), Pre E3 ∧ (∀ i v w w', E3 w w' → Φ3 i v w → Φ3 i v w') ∧
 PureQ Tryz.prog (fun z => E3 w11.drew z ∧ Facts Φ3 [] z) ((do eqGuard .eql 44 (Operand.tmp 19) (Operand.const (Value.int IntKind.i64 0)) x18 (Value.int IntKind.i64 0); binOp .eql 44 x18 (Value.int IntKind.i64 0) : Sem Value)) (fun x20 =>
 BoolV x20 (fun b7 =>
 SplitB b7 (
 PureN Tryz.prog (fun z => E3 w11.drew z ∧ Facts Φ3 [] z) (nilS a0) (fun x23 =>
 PureQ Tryz.prog (fun z => E3 w11.drew z ∧ Facts Φ3 [] z) (Instr.fieldAt 181 x23 0) (fun x24 =>
 PureQ Tryz.prog (fun z => E3 w11.drew z ∧ Facts Φ3 [] z) (Instr.loadAt 179 x24) (fun x25 =>
 PureN Tryz.prog (fun z => E3 w11.drew z ∧ Facts Φ3 [] z) (builtin .len #[179] 3 #[false] #[x25]) (fun x26 =>
 PureQ Tryz.prog (fun z => E3 w11.drew z ∧ Facts Φ3 [] z) ((do eqGuard .eql 3 (Operand.tmp 26) (Operand.const (Value.int IntKind.i64 0)) x26 (Value.int IntKind.i64 0); binOp .eql 3 x26 (Value.int IntKind.i64 0) : Sem Value)) (fun x27 =>
 BoolV x27 (fun b8 =>
 SplitB b8 (
 ∀ w12 : World, E3 w11.drew w12 → Facts Φ3 [] w12 →
 CallS Tryz.prog 146 #[(Value.bool Bool.true)] w12 (retK (fun _x42 w13 =>
 J2 [] w13) (pkR R))) (
 PureN Tryz.prog (fun z => E3 w11.drew z ∧ Facts Φ3 [] z) (nilS a0) (fun x30 =>
 PureQ Tryz.prog (fun z => E3 w11.drew z ∧ Facts Φ3 [] z) (Instr.fieldAt 181 x30 0) (fun x31 =>
 PureQ Tryz.prog (fun z => E3 w11.drew z ∧ Facts Φ3 [] z) (Instr.loadAt 179 x31) (fun x32 =>
 PureQ Tryz.prog (fun z => E3 w11.drew z ∧ Facts Φ3 [] z) (Instr.indexAt 179 x32 (Value.int IntKind.i64 0)) (fun x33 =>
 PureQ Tryz.prog (fun z => E3 w11.drew z ∧ Facts Φ3 [] z) (Instr.fieldAt 183 x33 0) (fun x34 =>
 PureQ Tryz.prog (fun z => E3 w11.drew z ∧ Facts Φ3 [] z) (Instr.fieldAt 86 x34 0) (fun x35 =>
 PureQ Tryz.prog (fun z => E3 w11.drew z ∧ Facts Φ3 [] z) (Instr.loadAt 9 x35) (fun x36 =>
 PureQ Tryz.prog (fun z => E3 w11.drew z ∧ Facts Φ3 [] z) (Instr.fieldAt 86 x5 0) (fun x37 =>
 PureQ Tryz.prog (fun z => E3 w11.drew z ∧ Facts Φ3 [] z) (Instr.loadAt 9 x37) (fun x38 =>
 ∀ w14 : World, E3 w11.drew w14 → Facts Φ3 [] w14 →
 Do Tryz.prog ((do eqGuard .eql 9 (Operand.tmp 36) (Operand.tmp 38) x36 x38; binOp .eql 9 x36 x38 : Sem Value)) w14 (fun x39 w15 =>
 CallS Tryz.prog 146 #[x39] w15 (retK (fun _x42_1 w16 =>
 J2 [] w16) (pkR R))) (pkR R)))))))))))))))))) (
 ∀ w17 : World, E3 w11.drew w17 → Facts Φ3 [] w17 →
 CallS Tryz.prog 146 #[(Value.bool Bool.false)] w17 (retK (fun _x42_2 w18 =>
 J2 [] w18) (pkR R)))))) ∧
 ∀ (_j2 : Env) (w19 : World), J2 [] w19 →
 PureN Tryz.prog (fun _ => True) (nilS a0) (fun x45 =>
 PureQ Tryz.prog (fun _ => True) (Instr.fieldAt 181 x45 0) (fun x46 =>
 ∃ (E4 : World → World → Prop) (Φ4 : Nat → Value → World → Prop), Pre E4 ∧ (∀ i v w w', E4 w w' → Φ4 i v w → Φ4 i v w') ∧
 PureQ Tryz.prog (fun z => E4 w19.drew z ∧ Facts Φ4 [] z) (Instr.loadAt 179 x46) (fun x47 =>
 PureQ Tryz.prog (fun z => E4 w19.drew z ∧ Facts Φ4 [] z) (Instr.loadAt 86 x5) (fun x48 =>
 PureQ Tryz.prog (fun z => E4 w19.drew z ∧ Facts Φ4 [] z) (Instr.build 183 #[(0, x48), (1, x17)]) (fun x50 =>
 (∀ w20 : World, E4 w19.drew w20 → Facts Φ4 [] w20 → Do Tryz.prog (Instr.buildSlice 179 1 #[(0, x50)]) w20 (fun x51 w21 =>
 E4 w20 w21 ∧ Φ4 8 x51 w21) (fun _ _ => False)) ∧ ∀ x51_1 : Value,
 ∀ w22 : World, E4 w19.drew w22 → Facts Φ4 [(8, x51_1)] w22 →
 DoN Tryz.prog (builtin .append #[179, 179] 179 #[false, false] #[x47, x51_1]) w22 (fun x52 w23 =>
 DoN Tryz.prog (nilS a0) w23 (fun x53 w24 =>
 Do Tryz.prog (Instr.fieldAt 181 x53 0) w24 (fun x54 w25 =>
 DoU Tryz.prog (Instr.storeAt 179 x54 x52) w25 (fun w26 =>
 Do Tryz.prog (binOp .add 3 x10 (Value.int IntKind.i64 1)) w26 (fun x55 w27 =>
 Nxt I1 m1 [x55] w27) (pkR R)) (pkR R)) (pkR R)) (pkR R)) (pkR R))))))) (pkR R)) (pkR R)) (pkR R))) (pkR R)) (pkR R)) (pkR R)) (pkR R)) (pkR R)) (
 R (.returned (.tuple #[])) w3)) (pkR R)) (pkR R)
theorem vc_sibling_row_add {R : Ending → World → Prop} {a0 a1 : Value} {w : World} (h : V_sibling_row_add R a0 a1 w) : Calls Tryz.prog 135 #[a0, a1] w R :=
  calls_of_vc (args := [a0, a1]) (fun k => match k with | 1 => ([10], [5, 6, 7, 10, 11, 12, 13, 14, 15, 16, 17, 18, 19, 20, 21, 22, 23, 24, 25, 26, 27, 28, 29, 30, 31, 32, 33, 34, 35, 36, 37, 38, 39, 40, 41, 42, 43, 44, 45, 46, 47, 48, 49, 50, 51, 52, 53, 54, 55]) | _ => ([], [])) (fun k => match k with | 5 => some ([], [19, 20, 21, 22, 23, 24, 25, 26, 27, 28, 29, 30, 31, 32, 33, 34, 35, 36, 37, 38, 39, 40, 41, 42]) | _ => none) (fun k => match k with | 5 => some ([0, 1, 2, 3, 6, 4, 5, 7, 8, 9, 10, 11, 12], 5) | _ => none) Tryz.func135 (bodyC_some (by kernel_rfl)) rfl (by kernel_rfl) (by kernel_rfl) (by kernel_rfl) (by kernel_rfl) (Eq.mpr (by kernel_rfl) h)

/-- buttress/sibling.tried[[]byte]$1 -/
def V_sibling_tried_byte__S1 (uu : FrameMode) (R : Ending → FrameMode → World → Prop) (a0 a1 : Value) (w : World) : Prop :=
 Do Tryz.prog ((do eqGuard .neq 20 (Operand.tmp 6) (Operand.const Value.nilIface) (recV uu).1 Value.nilIface; binOp .neq 20 (recV uu).1 Value.nilIface : Sem Value)) w (fun x7 w1 =>
 CondV x7 (
 Do Tryz.prog (Instr.typeAssert (recV uu).1 20 44 true) w1 (fun x10 w2 =>
 Do Tryz.prog (Instr.extract x10 0) w2 (fun x11 w3 =>
 Do Tryz.prog (Instr.extract x10 1) w3 (fun x12 w4 =>
 DoU Tryz.prog (Instr.storeAt 44 a0 x11) w4 (fun w5 =>
 Do Tryz.prog (Op.unary .not x12) w5 (fun x14 w6 =>
 CondV x14 (
 Do Tryz.prog (Instr.panic (recV uu).1) w6 (fun _u w7 =>
 DoU Tryz.prog (Instr.storeAt 22 a1 (Value.slice Option.none 0 0)) w7 (fun w8 =>
 R (.returned (.tuple #[])) (recV uu).2 w8) (fun c w => R (.panicked c) (recV uu).2 w)) (fun c w => R (.panicked c) (recV uu).2 w)) (
 DoU Tryz.prog (Instr.storeAt 22 a1 (Value.slice Option.none 0 0)) w6 (fun w9 =>
 R (.returned (.tuple #[])) (recV uu).2 w9) (fun c w => R (.panicked c) (recV uu).2 w))) (fun c w => R (.panicked c) (recV uu).2 w)) (fun c w => R (.panicked c) (recV uu).2 w)) (fun c w => R (.panicked c) (recV uu).2 w)) (fun c w => R (.panicked c) (recV uu).2 w)) (fun c w => R (.panicked c) (recV uu).2 w)) (
 R (.returned (.tuple #[])) (recV uu).2 w1)) (fun c w => R (.panicked c) (recV uu).2 w)
theorem vc_sibling_tried_byte__S1 {uu : FrameMode} {R : Ending → FrameMode → World → Prop} {a0 a1 : Value} {w : World} (h : V_sibling_tried_byte__S1 uu R a0 a1 w) : CallsDIn Fence.wide 0 Tryz.prog 145 (List.toArray [a0, a1]) uu w R :=
  callsD_of_vcS (rest := restOf (bodyOf Tryz.f145)) (N := 17) (d := 5) (e := 2) (args := [a0, a1]) (fun _ => ([], [])) (fun _ => none) (fun _ => none) Tryz.func145 (bodyC_some (by kernel_rfl)) rfl (by kernel_rfl) (by kernel_rfl) (by kernel_rfl) (by kernel_rfl) (by kernel_rfl) (Eq.mpr (by kernel_rfl) h)

/-- buttress/sibling.must -/
def V_sibling_must (R : Ending → World → Prop) (a0 : Value) (w : World) : Prop :=
 Do Tryz.prog (Op.unary .not a0) w (fun x3 w1 =>
 CondV x3 (
 Do Tryz.prog (Instr.makeInterface 44 (Value.int IntKind.i64 4)) w1 (fun x4 w2 =>
 Do Tryz.prog (Instr.panic x4) w2 (fun _u w3 =>
 R (.returned (.tuple #[])) w3) (pkR R)) (pkR R)) (
 R (.returned (.tuple #[])) w1)) (pkR R)
theorem vc_sibling_must {R : Ending → World → Prop} {a0 : Value} {w : World} (h : V_sibling_must R a0 w) : Calls Tryz.prog 146 #[a0] w R :=
  calls_of_vc (args := [a0]) (fun _ => ([], [])) (fun _ => none) (fun _ => none) Tryz.func146 (bodyC_some (by kernel_rfl)) rfl (by kernel_rfl) (by kernel_rfl) (by kernel_rfl) (by kernel_rfl) (Eq.mpr (by kernel_rfl) h)

/-- buttress/merkle.SetSum -/
def V_merkle_SetSum (R : Ending → World → Prop) (a0 : Value) (w : World) : Prop :=
 CallS Tryz.prog 74 #[a0] w (retK (fun x7 w1 =>
 Do Tryz.prog (Instr.extract x7 0) w1 (fun x8 w2 =>
 Do Tryz.prog (Instr.extract x7 1) w2 (fun x9 w3 =>
 Do Tryz.prog ((do eqGuard .neq 44 (Operand.tmp 10) (Operand.const (Value.int IntKind.i64 0)) x9 (Value.int IntKind.i64 0); binOp .neq 44 x9 (Value.int IntKind.i64 0) : Sem Value)) w3 (fun x11 w4 =>
 CondV x11 (
 R (.returned (Value.slice Option.none 0 0)) w4) (
 Do Tryz.prog (Instr.buildSlice 22 1 #[(0, (Value.int IntKind.u8 5))]) w4 (fun x12 w5 =>
 Do Tryz.prog (Instr.buildSlice 55 2 #[(0, x12), (1, x8)]) w5 (fun x14 w6 =>
 CallS Tryz.prog 63 #[x14] w6 (retK (fun x15 w7 =>
 R (.returned x15) w7) (pkR R))) (pkR R)) (pkR R))) (pkR R)) (pkR R)) (pkR R)) (pkR R))
theorem vc_merkle_SetSum {R : Ending → World → Prop} {a0 : Value} {w : World} (h : V_merkle_SetSum R a0 w) : Calls Tryz.prog 43 #[a0] w R :=
  calls_of_vc (args := [a0]) (fun _ => ([], [])) (fun _ => none) (fun _ => none) Tryz.func43 (bodyC_some (by kernel_rfl)) rfl (by kernel_rfl) (by kernel_rfl) (by kernel_rfl) (by kernel_rfl) (Eq.mpr (by kernel_rfl) h)

end Go.Proofs.YtpdceilhgaladaaGreatDoor
