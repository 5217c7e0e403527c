/- PRINTED BY gen.py (a program of this claim): what each function comes to, operation by operation. -/
import Derived.Test.YtpdceilhgaladaaGreatDoorProg
import Derived.Test.YtpdceilhgaladaaGreatDoorVc
import Derived.KernelRfl
set_option maxRecDepth 100000
namespace Go.Proofs.YtpdceilhgaladaaGreatDoor
open Go.Vc

/-- buttress/merkle.New -/
def V_merkle_New (R : Ending → World → Prop) (a0 : Value) (w : World) : Prop :=
 Do Tryz.prog (binOp .lss 3 a0 (Value.int IntKind.i64 0)) w (fun x4 w1 =>
 BoolV x4 (fun b2 =>
 SplitB b2 (
 R (.returned (Value.pointer Option.none)) w1) (
 Do Tryz.prog (binOp .geq 3 a0 (Value.int IntKind.i64 4)) w1 (fun x7 w2 =>
 CondV x7 (
 R (.returned (Value.pointer Option.none)) w2) (
 Do Tryz.prog (Instr.makeMap 34 none) w2 (fun x10 w3 =>
 Do Tryz.prog (Instr.build 36 #[(1, a0), (2, x10)]) w3 (fun x11 w4 =>
 Do Tryz.prog (Instr.box 36 x11) w4 (fun x12 w5 =>
 R (.returned x12) w5) (pkR R)) (pkR R)) (pkR R))) (pkR R)))) (pkR R)
theorem vc_merkle_New {R : Ending → World → Prop} {a0 : Value} {w : World} (h : V_merkle_New R a0 w) : Calls Tryz.prog 8 #[a0] w R :=
  calls_of_vc (args := [a0]) (fun _ => ([], [])) (fun _ => none) (fun _ => none) Tryz.func8 (bodyC_some (by kernel_rfl)) rfl (by kernel_rfl) (by kernel_rfl) (by kernel_rfl) (by kernel_rfl) (Eq.mpr (by kernel_rfl) h)

/-- (*buttress/merkle.Tree).there -/
def V_merkle_Tree_there (R : Ending → World → Prop) (a0 : Value) (w : World) : Prop :=
 Do Tryz.prog ((do eqGuard .neq 28 (Operand.tmp 3) (Operand.const (Value.pointer Option.none)) a0 (Value.pointer Option.none); binOp .neq 28 a0 (Value.pointer Option.none) : Sem Value)) w (fun x4 w1 =>
 BoolV x4 (fun b1 =>
 SplitB b1 (
 DoN Tryz.prog (nilS a0) w1 (fun x7 w2 =>
 Do Tryz.prog (Instr.fieldAt 36 x7 2) w2 (fun x8 w3 =>
 Do Tryz.prog (Instr.loadAt 34 x8) w3 (fun x9 w4 =>
 Do Tryz.prog ((do eqGuard .neq 34 (Operand.tmp 9) (Operand.const (Value.map Option.none)) x9 (Value.map Option.none); binOp .neq 34 x9 (Value.map Option.none) : Sem Value)) w4 (fun x10 w5 =>
 R (.returned x10) w5) (pkR R)) (pkR R)) (pkR R)) (pkR R)) (
 R (.returned (Value.bool Bool.false)) w1))) (pkR R)
theorem vc_merkle_Tree_there {R : Ending → World → Prop} {a0 : Value} {w : World} (h : V_merkle_Tree_there R a0 w) : Calls Tryz.prog 47 #[a0] w R :=
  calls_of_vc (args := [a0]) (fun _ => ([], [])) (fun _ => none) (fun _ => none) Tryz.func47 (bodyC_some (by kernel_rfl)) rfl (by kernel_rfl) (by kernel_rfl) (by kernel_rfl) (by kernel_rfl) (Eq.mpr (by kernel_rfl) h)

/-- (*buttress/merkle.row).under -/
def V_merkle_row_under (R : Ending → World → Prop) (a0 a1 a2 : Value) (w : World) : Prop :=
 DoN Tryz.prog (builtin .len #[109] 3 #[false] #[a2]) w (fun x11 w1 =>
 ∃ I1 : Nat → List Value → World → Prop, (∃ m, I1 m [(Value.slice Option.none 0 0), (Value.int IntKind.i64 0)] w1) ∧
 ∀ m1 (x7 : Value) (x12 : Value) (_j1 : Env) (w2 : World), I1 m1 [x7, x12] w2 →
 Do Tryz.prog (binOp .lss 3 x12 x11) w2 (fun x13 w3 =>
 CondV x13 (
 Do Tryz.prog (Instr.indexAt 109 a2 x12) w3 (fun x14 w4 =>
 Do Tryz.prog (Instr.loadAt 3 x14) w4 (fun x15 w5 =>
 DoN Tryz.prog (nilS a0) w5 (fun x17 w6 =>
 Do Tryz.prog (Instr.fieldAt 33 x17 1) w6 (fun x18 w7 =>
 Do Tryz.prog (Instr.loadAt 31 x18) w7 (fun x19 w8 =>
 Do Tryz.prog (Instr.indexAt 31 x19 x15) w8 (fun x21 w9 =>
 Do Tryz.prog (Instr.loadAt 9 x21) w9 (fun x22 w10 =>
 CallS Tryz.prog 57 #[x22, a1] w10 (retK (fun x24 w11 =>
 CondV x24 (
 Do Tryz.prog (Instr.buildSlice 109 1 #[(0, x15)]) w11 (fun x27 w12 =>
 DoN Tryz.prog (builtin .append #[109, 109] 109 #[false, false] #[x7, x27]) w12 (fun x28 w13 =>
 Do Tryz.prog (binOp .add 3 x12 (Value.int IntKind.i64 1)) w13 (fun x29 w14 =>
 Nxt I1 m1 [x28, x29] w14) (pkR R)) (pkR R)) (pkR R)) (
 Do Tryz.prog (binOp .add 3 x12 (Value.int IntKind.i64 1)) w11 (fun x29_1 w15 =>
 Nxt I1 m1 [x7, x29_1] w15) (pkR R))) (pkR R))) (pkR R)) (pkR R)) (pkR R)) (pkR R)) (pkR R)) (pkR R)) (pkR R)) (
 R (.returned x7) w3)) (pkR R)) (pkR R)
theorem vc_merkle_row_under {R : Ending → World → Prop} {a0 a1 a2 : Value} {w : World} (h : V_merkle_row_under R a0 a1 a2 w) : Calls Tryz.prog 50 #[a0, a1, a2] w R :=
  calls_of_vc (args := [a0, a1, a2]) (fun k => match k with | 3 => ([7, 12], [7, 9, 12, 13, 14, 15, 16, 17, 18, 19, 20, 21, 22, 23, 24, 25, 26, 27, 28, 29]) | _ => ([], [])) (fun _ => none) (fun _ => none) Tryz.func50 (bodyC_some (by kernel_rfl)) rfl (by kernel_rfl) (by kernel_rfl) (by kernel_rfl) (by kernel_rfl) (Eq.mpr (by kernel_rfl) h)

/-- (*buttress/merkle.row).all -/
def V_merkle_row_all (R : Ending → World → Prop) (a0 : Value) (w : World) : Prop :=
 DoN Tryz.prog (nilS a0) w (fun x6 w1 =>
 Do Tryz.prog (Instr.fieldAt 33 x6 0) w1 (fun x7 w2 =>
 Do Tryz.prog (Instr.loadAt 30 x7) w2 (fun x8 w3 =>
 DoN Tryz.prog (builtin .len #[30] 3 #[false] #[x8]) w3 (fun x9 w4 =>
 Do Tryz.prog (Instr.makeSlice 109 x9 x9) w4 (fun x10 w5 =>
 DoN Tryz.prog (builtin .len #[109] 3 #[false] #[x10]) w5 (fun x12 w6 =>
 ∃ I1 : Nat → List Value → World → Prop, (∃ m, I1 m [(Value.int IntKind.i64 0)] w6) ∧
 ∀ m1 (x13 : Value) (_j1 : Env) (w7 : World), I1 m1 [x13] w7 →
 Do Tryz.prog (binOp .lss 3 x13 x12) w7 (fun x14 w8 =>
 CondV x14 (
 Do Tryz.prog (Instr.indexAt 109 x10 x13) w8 (fun x19 w9 =>
 DoU Tryz.prog (Instr.storeAt 3 x19 x13) w9 (fun w10 =>
 Do Tryz.prog (binOp .add 3 x13 (Value.int IntKind.i64 1)) w10 (fun x20 w11 =>
 Nxt I1 m1 [x20] w11) (pkR R)) (pkR R)) (pkR R)) (
 R (.returned x10) w8)) (pkR R)) (pkR R)) (pkR R)) (pkR R)) (pkR R)) (pkR R)) (pkR R)
theorem vc_merkle_row_all {R : Ending → World → Prop} {a0 : Value} {w : World} (h : V_merkle_row_all R a0 w) : Calls Tryz.prog 51 #[a0] w R :=
  calls_of_vc (args := [a0]) (fun k => match k with | 3 => ([13], [4, 13, 14, 15, 16, 17, 18, 19, 20]) | _ => ([], [])) (fun _ => none) (fun _ => none) Tryz.func51 (bodyC_some (by kernel_rfl)) rfl (by kernel_rfl) (by kernel_rfl) (by kernel_rfl) (by kernel_rfl) (Eq.mpr (by kernel_rfl) h)

/-- buttress/merkle.right -/
def V_merkle_right (R : Ending → World → Prop) (a0 : Value) (w : World) : Prop :=
 Do Tryz.prog (Instr.box 52 a0) w (fun x1 w1 =>
 Do Tryz.prog (Instr.fieldAt 52 x1 3) w1 (fun x9 w2 =>
 Do Tryz.prog (Instr.loadAt 30 x9) w2 (fun x10 w3 =>
 DoN Tryz.prog (builtin .len #[30] 3 #[false] #[x10]) w3 (fun x11 w4 =>
 ∃ I1 : Nat → List Value → World → Prop, (∃ m, I1 m [(Value.int IntKind.i64 0)] w4) ∧
 ∀ m1 (x12 : Value) (_j1 : Env) (w5 : World), I1 m1 [x12] w5 →
 Do Tryz.prog (binOp .lss 3 x12 x11) w5 (fun x13 w6 =>
 CondV x13 (
 Do Tryz.prog (Instr.indexAt 30 x10 x12) w6 (fun x15 w7 =>
 Do Tryz.prog (Instr.loadAt 83 x15) w7 (fun x16 w8 =>
 Do Tryz.prog (Instr.alloc 83 true (.tuple #[])) w8 (fun x4 w9 =>
 DoU Tryz.prog (Instr.storeAt 83 x4 x16) w9 (fun w10 =>
 ∃ (E2 : World → World → Prop) (Φ2 : Nat → Value → World → Prop), Pre E2 ∧ (∀ i v w w', E2 w w' → Φ2 i v w → Φ2 i v w') ∧
 PureQ Tryz.prog (fun z => E2 w10.drew z ∧ Facts Φ2 [] z) (Instr.fieldAt 83 x4 0) (fun x17 =>
 PureQ Tryz.prog (fun z => E2 w10.drew z ∧ Facts Φ2 [] z) (Instr.loadAt 9 x17) (fun x18 =>
 (∀ w11 : World, E2 w10.drew w11 → Facts Φ2 [] w11 → CallS Tryz.prog 52 #[x18] w11 (retK (fun x19 w12 =>
 E2 w11 w12 ∧ Φ2 2 x19 w12) (fun _ _ => False))) ∧ ∀ x19_1 : Value,
 PureQ Tryz.prog (fun z => E2 w10.drew z ∧ Facts Φ2 [(2, x19_1)] z) (Op.unary .not x19_1) (fun x20 =>
 BoolV x20 (fun b13 =>
 SplitB b13 (
 ∀ w13 : World, E2 w10.drew w13 → Facts Φ2 [(2, x19_1)] w13 →
 R (.returned (Value.bool Bool.false)) w13) (
 PureQ Tryz.prog (fun z => E2 w10.drew z ∧ Facts Φ2 [(2, x19_1)] z) (Instr.fieldAt 83 x4 1) (fun x22 =>
 PureQ Tryz.prog (fun z => E2 w10.drew z ∧ Facts Φ2 [(2, x19_1)] z) (Instr.loadAt 47 x22) (fun x23 =>
 PureN Tryz.prog (fun z => E2 w10.drew z ∧ Facts Φ2 [(2, x19_1)] z) (builtin .len #[47] 3 #[false] #[x23]) (fun x24 =>
 PureQ Tryz.prog (fun z => E2 w10.drew z ∧ Facts Φ2 [(2, x19_1)] z) ((do eqGuard .eql 3 (Operand.tmp 24) (Operand.const (Value.int IntKind.i64 0)) x24 (Value.int IntKind.i64 0); binOp .eql 3 x24 (Value.int IntKind.i64 0) : Sem Value)) (fun x25 =>
 BoolV x25 (fun b14 =>
 SplitB b14 (
 ∀ w14 : World, E2 w10.drew w14 → Facts Φ2 [(2, x19_1)] w14 →
 R (.returned (Value.bool Bool.false)) w14) (
 PureQ Tryz.prog (fun z => E2 w10.drew z ∧ Facts Φ2 [(2, x19_1)] z) (Instr.fieldAt 83 x4 0) (fun x28 =>
 PureQ Tryz.prog (fun z => E2 w10.drew z ∧ Facts Φ2 [(2, x19_1)] z) (Instr.loadAt 9 x28) (fun x29 =>
 PureQ Tryz.prog (fun z => E2 w10.drew z ∧ Facts Φ2 [(2, x19_1)] z) (Instr.fieldAt 83 x4 1) (fun x30 =>
 PureQ Tryz.prog (fun z => E2 w10.drew z ∧ Facts Φ2 [(2, x19_1)] z) (Instr.loadAt 47 x30) (fun x31 =>
 (∀ w15 : World, E2 w10.drew w15 → Facts Φ2 [(2, x19_1)] w15 → CallS Tryz.prog 53 #[x29, x31] w15 (retK (fun x32 w16 =>
 E2 w15 w16 ∧ Φ2 15 x32 w16) (fun _ _ => False))) ∧ ∀ x32_1 : Value,
 PureQ Tryz.prog (fun z => E2 w10.drew z ∧ Facts Φ2 [(15, x32_1), (2, x19_1)] z) (Op.unary .not x32_1) (fun x33 =>
 BoolV x33 (fun b15 =>
 SplitB b15 (
 ∀ w17 : World, E2 w10.drew w17 → Facts Φ2 [(15, x32_1), (2, x19_1)] w17 →
 R (.returned (Value.bool Bool.false)) w17) (
 PureQ Tryz.prog (fun z => E2 w10.drew z ∧ Facts Φ2 [(15, x32_1), (2, x19_1)] z) (binOp .gtr 3 x12 (Value.int IntKind.i64 0)) (fun x37 =>
 BoolV x37 (fun b16 =>
 SplitB b16 (
 PureQ Tryz.prog (fun z => E2 w10.drew z ∧ Facts Φ2 [(15, x32_1), (2, x19_1)] z) (Instr.fieldAt 52 x1 3) (fun x39 =>
 PureQ Tryz.prog (fun z => E2 w10.drew z ∧ Facts Φ2 [(15, x32_1), (2, x19_1)] z) (Instr.loadAt 30 x39) (fun x40 =>
 PureQ Tryz.prog (fun z => E2 w10.drew z ∧ Facts Φ2 [(15, x32_1), (2, x19_1)] z) (binOp .sub 3 x12 (Value.int IntKind.i64 1)) (fun x42 =>
 PureQ Tryz.prog (fun z => E2 w10.drew z ∧ Facts Φ2 [(15, x32_1), (2, x19_1)] z) (Instr.indexAt 30 x40 x42) (fun x43 =>
 PureQ Tryz.prog (fun z => E2 w10.drew z ∧ Facts Φ2 [(15, x32_1), (2, x19_1)] z) (Instr.fieldAt 83 x43 0) (fun x44 =>
 PureQ Tryz.prog (fun z => E2 w10.drew z ∧ Facts Φ2 [(15, x32_1), (2, x19_1)] z) (Instr.loadAt 9 x44) (fun x45 =>
 PureQ Tryz.prog (fun z => E2 w10.drew z ∧ Facts Φ2 [(15, x32_1), (2, x19_1)] z) (Instr.fieldAt 83 x4 0) (fun x46 =>
 PureQ Tryz.prog (fun z => E2 w10.drew z ∧ Facts Φ2 [(15, x32_1), (2, x19_1)] z) (Instr.loadAt 9 x46) (fun x47 =>
 ∀ w18 : World, E2 w10.drew w18 → Facts Φ2 [(15, x32_1), (2, x19_1)] w18 →
 Do Tryz.prog (binOp .geq 9 x45 x47) w18 (fun x48 w19 =>
 CondV x48 (
 R (.returned (Value.bool Bool.false)) w19) (
 Do Tryz.prog (binOp .add 3 x12 (Value.int IntKind.i64 1)) w19 (fun x51 w20 =>
 Nxt I1 m1 [x51] w20) (pkR R))) (pkR R)))))))))) (
 ∀ w21 : World, E2 w10.drew w21 → Facts Φ2 [(15, x32_1), (2, x19_1)] w21 →
 Do Tryz.prog (binOp .add 3 x12 (Value.int IntKind.i64 1)) w21 (fun x51_1 w22 =>
 Nxt I1 m1 [x51_1] w22) (pkR R))))))))))))))))))))))) (pkR R)) (pkR R)) (pkR R)) (pkR R)) (
 ∃ J3 : List Value → World → Prop, (
 ∃ (E4 : World → World → Prop) (Φ4 : Nat → Value → World → Prop), Pre E4 ∧ (∀ i v w w', E4 w w' → Φ4 i v w → Φ4 i v w') ∧
 PureQ Tryz.prog (fun z => E4 w6.drew z ∧ Facts Φ4 [] z) (Instr.fieldAt 52 x1 3) (fun x52 =>
 PureQ Tryz.prog (fun z => E4 w6.drew z ∧ Facts Φ4 [] z) (Instr.loadAt 30 x52) (fun x53 =>
 PureN Tryz.prog (fun z => E4 w6.drew z ∧ Facts Φ4 [] z) (builtin .len #[30] 3 #[false] #[x53]) (fun x54 =>
 PureQ Tryz.prog (fun z => E4 w6.drew z ∧ Facts Φ4 [] z) (Instr.fieldAt 52 x1 1) (fun x55 =>
 PureQ Tryz.prog (fun z => E4 w6.drew z ∧ Facts Φ4 [] z) (Instr.loadAt 22 x55) (fun x56 =>
 PureN Tryz.prog (fun z => E4 w6.drew z ∧ Facts Φ4 [] z) (builtin .len #[22] 3 #[false] #[x56]) (fun x57 =>
 PureQ Tryz.prog (fun z => E4 w6.drew z ∧ Facts Φ4 [] z) ((do eqGuard .eql 3 (Operand.tmp 57) (Operand.const (Value.int IntKind.i64 64)) x57 (Value.int IntKind.i64 64); binOp .eql 3 x57 (Value.int IntKind.i64 64) : Sem Value)) (fun x58 =>
 BoolV x58 (fun b18 =>
 SplitB b18 (
 PureQ Tryz.prog (fun z => E4 w6.drew z ∧ Facts Φ4 [] z) (Instr.fieldAt 52 x1 2) (fun x60 =>
 PureQ Tryz.prog (fun z => E4 w6.drew z ∧ Facts Φ4 [] z) (Instr.loadAt 22 x60) (fun x61 =>
 PureN Tryz.prog (fun z => E4 w6.drew z ∧ Facts Φ4 [] z) (builtin .len #[22] 3 #[false] #[x61]) (fun x62 =>
 PureQ Tryz.prog (fun z => E4 w6.drew z ∧ Facts Φ4 [] z) ((do eqGuard .eql 3 (Operand.tmp 62) (Operand.const (Value.int IntKind.i64 64)) x62 (Value.int IntKind.i64 64); binOp .eql 3 x62 (Value.int IntKind.i64 64) : Sem Value)) (fun x63 =>
 ∀ w23 : World, E4 w6.drew w23 → Facts Φ4 [] w23 →
 J3 [x54, x63] w23))))) (
 ∀ w24 : World, E4 w6.drew w24 → Facts Φ4 [] w24 →
 J3 [x54, (Value.bool Bool.false)] w24)))))))))) ∧
 ∀ (x5 : Value) (x6 : Value) (_j3 : Env) (w25 : World), J3 [x5, x6] w25 →
 Do Tryz.prog (Instr.fieldAt 52 x1 0) w25 (fun x65 w26 =>
 Do Tryz.prog (Instr.loadAt 50 x65) w26 (fun x66 w27 =>
 Do Tryz.prog ((do eqGuard .eql 50 (Operand.tmp 66) (Operand.const (Value.int IntKind.u8 3)) x66 (Value.int IntKind.u8 3); binOp .eql 50 x66 (Value.int IntKind.u8 3) : Sem Value)) w27 (fun x67 w28 =>
 CondV x67 (
 BoolV x6 (fun b20 =>
 SplitB b20 (
 Do Tryz.prog ((do eqGuard .eql 3 (Operand.tmp 70) (Operand.const (Value.int IntKind.i64 0)) x5 (Value.int IntKind.i64 0); binOp .eql 3 x5 (Value.int IntKind.i64 0) : Sem Value)) w28 (fun x71 w29 =>
 R (.returned x71) w29) (pkR R)) (
 R (.returned (Value.bool Bool.false)) w28))) (
 Do Tryz.prog (Instr.makeMap 219 none) w28 (fun x74 w30 =>
 DoU Tryz.prog (Instr.mapUpdate 219 x74 (Value.int IntKind.u8 1) (Value.int IntKind.i64 0)) w30 (fun w31 =>
 DoU Tryz.prog (Instr.mapUpdate 219 x74 (Value.int IntKind.u8 2) (Value.int IntKind.i64 1)) w31 (fun w32 =>
 DoU Tryz.prog (Instr.mapUpdate 219 x74 (Value.int IntKind.u8 4) (Value.int IntKind.i64 2)) w32 (fun w33 =>
 Do Tryz.prog (Instr.fieldAt 52 x1 0) w33 (fun x76 w34 =>
 Do Tryz.prog (Instr.loadAt 50 x76) w34 (fun x77 w35 =>
 Do Tryz.prog (Instr.lookup 219 x74 x77 true) w35 (fun x78 w36 =>
 Do Tryz.prog (Instr.extract x78 0) w36 (fun x79 w37 =>
 Do Tryz.prog (Instr.extract x78 1) w37 (fun x80 w38 =>
 BoolV x80 (fun b21 =>
 SplitB b21 (
 Do Tryz.prog (Instr.fieldAt 52 x1 1) w38 (fun x83 w39 =>
 Do Tryz.prog (Instr.loadAt 22 x83) w39 (fun x84 w40 =>
 DoN Tryz.prog (builtin .len #[22] 3 #[false] #[x84]) w40 (fun x85 w41 =>
 Do Tryz.prog (Instr.fieldAt 52 x1 2) w41 (fun x86 w42 =>
 Do Tryz.prog (Instr.loadAt 22 x86) w42 (fun x87 w43 =>
 DoN Tryz.prog (builtin .len #[22] 3 #[false] #[x87]) w43 (fun x88 w44 =>
 Do Tryz.prog (binOp .add 3 x85 x88) w44 (fun x89 w45 =>
 Do Tryz.prog ((do eqGuard .eql 3 (Operand.tmp 89) (Operand.const (Value.int IntKind.i64 0)) x89 (Value.int IntKind.i64 0); binOp .eql 3 x89 (Value.int IntKind.i64 0) : Sem Value)) w45 (fun x90 w46 =>
 BoolV x90 (fun b22 =>
 SplitB b22 (
 Do Tryz.prog (binOp .geq 3 x5 x79) w46 (fun x95 w47 =>
 BoolV x95 (fun b23 =>
 SplitB b23 (
 Do Tryz.prog ((do eqGuard .eql 3 (Operand.tmp 98) (Operand.tmp 99) x5 x79; binOp .eql 3 x5 x79 : Sem Value)) w47 (fun x100 w48 =>
 BoolV x100 (fun b24 =>
 SplitB b24 (
 R (.returned (Value.bool Bool.true)) w48) (
 Do Tryz.prog (Instr.fieldAt 52 x1 0) w48 (fun x102 w49 =>
 Do Tryz.prog (Instr.loadAt 50 x102) w49 (fun x103 w50 =>
 Do Tryz.prog ((do eqGuard .eql 50 (Operand.tmp 103) (Operand.const (Value.int IntKind.u8 4)) x103 (Value.int IntKind.u8 4); binOp .eql 50 x103 (Value.int IntKind.u8 4) : Sem Value)) w50 (fun x104 w51 =>
 R (.returned x104) w51) (pkR R)) (pkR R)) (pkR R)))) (pkR R)) (
 R (.returned (Value.bool Bool.false)) w47))) (pkR R)) (
 R (.returned (Value.bool Bool.false)) w46))) (pkR R)) (pkR R)) (pkR R)) (pkR R)) (pkR R)) (pkR R)) (pkR R)) (pkR R)) (
 R (.returned (Value.bool Bool.false)) w38))) (pkR R)) (pkR R)) (pkR R)) (pkR R)) (pkR R)) (pkR R)) (pkR R)) (pkR R)) (pkR R))) (pkR R)) (pkR R)) (pkR R))) (pkR R)) (pkR R)) (pkR R)) (pkR R)) (pkR R)
theorem vc_merkle_right {R : Ending → World → Prop} {a0 : Value} {w : World} (h : V_merkle_right R a0 w) : Calls Tryz.prog 101 #[a0] w R :=
  calls_of_vc (args := [a0]) (fun k => match k with | 2 => ([12], [2, 3, 4, 12, 13, 14, 15, 16, 17, 18, 19, 20, 21, 22, 23, 24, 25, 26, 27, 28, 29, 30, 31, 32, 33, 34, 35, 36, 37, 38, 39, 40, 41, 42, 43, 44, 45, 46, 47, 48, 49, 50, 51]) | _ => ([], [])) (fun k => match k with | 8 => some ([5, 6], [5, 6, 52, 53, 54, 55, 56, 57, 58, 59, 60, 61, 62, 63, 64]) | _ => none) (fun _ => none) Tryz.func101 (bodyC_some (by kernel_rfl)) rfl (by kernel_rfl) (by kernel_rfl) (by kernel_rfl) (by kernel_rfl) (Eq.mpr (by kernel_rfl) h)

/-- buttress/merkle.NodeSum -/
def V_merkle_NodeSum (R : Ending → World → Prop) (a0 : Value) (w : World) : Prop :=
 Do Tryz.prog (Instr.box 52 a0) w (fun x1 w1 =>
 Do Tryz.prog (Instr.loadAt 52 x1) w1 (fun x6 w2 =>
 CallS Tryz.prog 101 #[x6] w2 (retK (fun x7 w3 =>
 Do Tryz.prog (Op.unary .not x7) w3 (fun x8 w4 =>
 CondV x8 (
 R (.returned (Value.slice Option.none 0 0)) w4) (
 ∃ (E1 : World → World → Prop) (Φ1 : Nat → Value → World → Prop), Pre E1 ∧ (∀ i v w w', E1 w w' → Φ1 i v w → Φ1 i v w') ∧
 (∀ w5 : World, E1 w4.drew w5 → Facts Φ1 [] w5 → Do Tryz.prog (Instr.buildSlice 22 5 #[(0, (Value.int IntKind.u8 0)), (1, (Value.int IntKind.u8 0)), (2, (Value.int IntKind.u8 1)), (3, (Value.int IntKind.u8 2)), (4, (Value.int IntKind.u8 3))]) w5 (fun x9 w6 =>
 E1 w5 w6 ∧ Φ1 0 x9 w6) (fun _ _ => False)) ∧ ∀ x9_1 : Value,
 PureQ Tryz.prog (fun z => E1 w4.drew z ∧ Facts Φ1 [] z) (Instr.fieldAt 52 x1 0) (fun x10 =>
 PureQ Tryz.prog (fun z => E1 w4.drew z ∧ Facts Φ1 [] z) (Instr.loadAt 50 x10) (fun x11 =>
 PureQ Tryz.prog (fun z => E1 w4.drew z ∧ Facts Φ1 [(0, x9_1)] z) (Instr.indexAt 22 x9_1 x11) (fun x12 =>
 PureQ Tryz.prog (fun z => E1 w4.drew z ∧ Facts Φ1 [(0, x9_1)] z) (Instr.loadAt 5 x12) (fun x13 =>
 (∀ w7 : World, E1 w4.drew w7 → Facts Φ1 [(0, x9_1)] w7 → Do Tryz.prog (Instr.buildSlice 22 1 #[(0, x13)]) w7 (fun x14 w8 =>
 E1 w7 w8 ∧ Φ1 5 x14 w8) (fun _ _ => False)) ∧ ∀ x14_1 : Value,
 PureQ Tryz.prog (fun z => E1 w4.drew z ∧ Facts Φ1 [] z) (Instr.fieldAt 52 x1 1) (fun x15 =>
 PureQ Tryz.prog (fun z => E1 w4.drew z ∧ Facts Φ1 [] z) (Instr.loadAt 22 x15) (fun x16 =>
 PureQ Tryz.prog (fun z => E1 w4.drew z ∧ Facts Φ1 [] z) (Instr.fieldAt 52 x1 2) (fun x17 =>
 PureQ Tryz.prog (fun z => E1 w4.drew z ∧ Facts Φ1 [] z) (Instr.loadAt 22 x17) (fun x18 =>
 ∀ w9 : World, E1 w4.drew w9 → Facts Φ1 [(5, x14_1), (0, x9_1)] w9 →
 Do Tryz.prog (Instr.buildSlice 55 3 #[(0, x14_1), (1, x16), (2, x18)]) w9 (fun x19 w10 =>
 Do Tryz.prog (Instr.fieldAt 52 x1 3) w10 (fun x20 w11 =>
 Do Tryz.prog (Instr.loadAt 30 x20) w11 (fun x21 w12 =>
 DoN Tryz.prog (builtin .len #[30] 3 #[false] #[x21]) w12 (fun x22 w13 =>
 ∃ I2 : Nat → List Value → World → Prop, (∃ m, I2 m [x19, (Value.int IntKind.i64 0)] w13) ∧
 ∀ m2 (x3 : Value) (x23 : Value) (_j2 : Env) (w14 : World), I2 m2 [x3, x23] w14 →
 Do Tryz.prog (binOp .lss 3 x23 x22) w14 (fun x24 w15 =>
 CondV x24 (
 Do Tryz.prog (Instr.indexAt 30 x21 x23) w15 (fun x25 w16 =>
 Do Tryz.prog (Instr.loadAt 83 x25) w16 (fun x26 w17 =>
 Do Tryz.prog (Instr.alloc 83 true (.tuple #[])) w17 (fun x5 w18 =>
 DoU Tryz.prog (Instr.storeAt 83 x5 x26) w18 (fun w19 =>
 ∃ (E3 : World → World → Prop) (Φ3 : Nat → Value → World → Prop), Pre E3 ∧ (∀ i v w w', E3 w w' → Φ3 i v w → Φ3 i v w') ∧
 PureQ Tryz.prog (fun z => E3 w19.drew z ∧ Facts Φ3 [] z) (Instr.fieldAt 83 x5 0) (fun x28 =>
 PureQ Tryz.prog (fun z => E3 w19.drew z ∧ Facts Φ3 [] z) (Instr.loadAt 9 x28) (fun x29 =>
 (∀ w20 : World, E3 w19.drew w20 → Facts Φ3 [] w20 → Do Tryz.prog (convert 9 22 x29) w20 (fun x30 w21 =>
 E3 w20 w21 ∧ Φ3 3 x30 w21) (fun _ _ => False)) ∧ ∀ x30_1 : Value,
 (∀ w22 : World, E3 w19.drew w22 → Facts Φ3 [(3, x30_1)] w22 → CallS Tryz.prog 102 #[x30_1] w22 (retK (fun x31 w23 =>
 E3 w22 w23 ∧ Φ3 4 x31 w23) (fun _ _ => False))) ∧ ∀ x31_1 : Value,
 PureQ Tryz.prog (fun z => E3 w19.drew z ∧ Facts Φ3 [] z) (Instr.fieldAt 83 x5 1) (fun x32 =>
 PureQ Tryz.prog (fun z => E3 w19.drew z ∧ Facts Φ3 [] z) (Instr.loadAt 47 x32) (fun x33 =>
 (∀ w24 : World, E3 w19.drew w24 → Facts Φ3 [(4, x31_1), (3, x30_1)] w24 → CallS Tryz.prog 43 #[x33] w24 (retK (fun x34 w25 =>
 E3 w24 w25 ∧ Φ3 7 x34 w25) (fun _ _ => False))) ∧ ∀ x34_1 : Value,
 (∀ w26 : World, E3 w19.drew w26 → Facts Φ3 [(7, x34_1), (4, x31_1), (3, x30_1)] w26 → Do Tryz.prog (Instr.buildSlice 55 2 #[(0, x31_1), (1, x34_1)]) w26 (fun x35 w27 =>
 E3 w26 w27 ∧ Φ3 8 x35 w27) (fun _ _ => False)) ∧ ∀ x35_1 : Value,
 ∀ w28 : World, E3 w19.drew w28 → Facts Φ3 [(8, x35_1), (7, x34_1), (4, x31_1), (3, x30_1)] w28 →
 DoN Tryz.prog (builtin .append #[55, 55] 55 #[false, false] #[x3, x35_1]) w28 (fun x36 w29 =>
 Do Tryz.prog (binOp .add 3 x23 (Value.int IntKind.i64 1)) w29 (fun x37 w30 =>
 Nxt I2 m2 [x36, x37] w30) (pkR R)) (pkR R)))))) (pkR R)) (pkR R)) (pkR R)) (pkR R)) (
 CallS Tryz.prog 63 #[x3] w15 (retK (fun x39 w31 =>
 R (.returned x39) w31) (pkR R)))) (pkR R)) (pkR R)) (pkR R)) (pkR R)) (pkR R))))))))))) (pkR R)) (pkR R))) (pkR R)) (pkR R)
theorem vc_merkle_NodeSum {R : Ending → World → Prop} {a0 : Value} {w : World} (h : V_merkle_NodeSum R a0 w) : Calls Tryz.prog 65 #[a0] w R :=
  calls_of_vc (args := [a0]) (fun k => match k with | 5 => ([3, 23], [3, 5, 23, 24, 25, 26, 27, 28, 29, 30, 31, 32, 33, 34, 35, 36, 37]) | _ => ([], [])) (fun _ => none) (fun _ => none) Tryz.func65 (bodyC_some (by kernel_rfl)) rfl (by kernel_rfl) (by kernel_rfl) (by kernel_rfl) (by kernel_rfl) (Eq.mpr (by kernel_rfl) h)

/-- buttress/merkle.TopSum -/
def V_merkle_TopSum (R : Ending → World → Prop) (a0 a1 : Value) (w : World) : Prop :=
 Do Tryz.prog (binOp .lss 3 a0 (Value.int IntKind.i64 0)) w (fun x6 w1 =>
 BoolV x6 (fun b3 =>
 SplitB b3 (
 R (.returned (Value.slice Option.none 0 0)) w1) (
 Do Tryz.prog (binOp .geq 3 a0 (Value.int IntKind.i64 4)) w1 (fun x9 w2 =>
 BoolV x9 (fun b4 =>
 SplitB b4 (
 R (.returned (Value.slice Option.none 0 0)) w2) (
 DoN Tryz.prog (builtin .len #[22] 3 #[false] #[a1]) w2 (fun x13 w3 =>
 Do Tryz.prog ((do eqGuard .neq 3 (Operand.tmp 13) (Operand.const (Value.int IntKind.i64 64)) x13 (Value.int IntKind.i64 64); binOp .neq 3 x13 (Value.int IntKind.i64 64) : Sem Value)) w3 (fun x14 w4 =>
 CondV x14 (
 R (.returned (Value.slice Option.none 0 0)) w4) (
 Do Tryz.prog (convert 3 5 a0) w4 (fun x17 w5 =>
 Do Tryz.prog (Instr.buildSlice 22 2 #[(0, (Value.int IntKind.u8 4)), (1, x17)]) w5 (fun x18 w6 =>
 Do Tryz.prog (Instr.buildSlice 55 2 #[(0, x18), (1, a1)]) w6 (fun x20 w7 =>
 CallS Tryz.prog 63 #[x20] w7 (retK (fun x21 w8 =>
 R (.returned x21) w8) (pkR R))) (pkR R)) (pkR R)) (pkR R))) (pkR R)) (pkR R)))) (pkR R)))) (pkR R)
theorem vc_merkle_TopSum {R : Ending → World → Prop} {a0 a1 : Value} {w : World} (h : V_merkle_TopSum R a0 a1 w) : Calls Tryz.prog 31 #[a0, a1] w R :=
  calls_of_vc (args := [a0, a1]) (fun _ => ([], [])) (fun _ => none) (fun _ => none) Tryz.func31 (bodyC_some (by kernel_rfl)) rfl (by kernel_rfl) (by kernel_rfl) (by kernel_rfl) (by kernel_rfl) (Eq.mpr (by kernel_rfl) h)

/-- strings.Trim -/
def V_strings_Trim (R : Ending → World → Prop) (a0 a1 : Value) (w : World) : Prop :=
 Do Tryz.prog ((do eqGuard .eql 9 (Operand.tmp 7) (Operand.const (Value.string (ByteArray.mk #[]))) a0 (Value.string (ByteArray.mk #[])); binOp .eql 9 a0 (Value.string (ByteArray.mk #[])) : Sem Value)) w (fun x8 w1 =>
 BoolV x8 (fun b2 =>
 SplitB b2 (
 R (.returned a0) w1) (
 Do Tryz.prog ((do eqGuard .eql 9 (Operand.tmp 10) (Operand.const (Value.string (ByteArray.mk #[]))) a1 (Value.string (ByteArray.mk #[])); binOp .eql 9 a1 (Value.string (ByteArray.mk #[])) : Sem Value)) w1 (fun x11 w2 =>
 CondV x11 (
 R (.returned a0) w2) (
 ∃ J1 : List Value → World → Prop, (
 DoN Tryz.prog (builtin .len #[9] 3 #[false] #[a1]) w2 (fun x15 w3 =>
 Do Tryz.prog ((do eqGuard .eql 3 (Operand.tmp 15) (Operand.const (Value.int IntKind.i64 1)) x15 (Value.int IntKind.i64 1); binOp .eql 3 x15 (Value.int IntKind.i64 1) : Sem Value)) w3 (fun x16 w4 =>
 BoolV x16 (fun b4 =>
 SplitB b4 (
 Do Tryz.prog (Instr.index 9 a1 (Value.int IntKind.i64 0)) w4 (fun x19 w5 =>
 Do Tryz.prog (binOp .lss 5 x19 (Value.int IntKind.u8 128)) w5 (fun x20 w6 =>
 CondV x20 (
 ∃ (E2 : World → World → Prop) (Φ2 : Nat → Value → World → Prop), Pre E2 ∧ (∀ i v w w', E2 w w' → Φ2 i v w → Φ2 i v w') ∧
 PureQ Tryz.prog (fun z => E2 w6.drew z ∧ Facts Φ2 [] z) (Instr.index 9 a1 (Value.int IntKind.i64 0)) (fun x24 =>
 (∀ w7 : World, E2 w6.drew w7 → Facts Φ2 [] w7 → CallS Tryz.prog 121 #[a0, x24] w7 (retK (fun x25 w8 =>
 E2 w7 w8 ∧ Φ2 3 x25 w8) (fun _ _ => False))) ∧ ∀ x25_1 : Value,
 PureQ Tryz.prog (fun z => E2 w6.drew z ∧ Facts Φ2 [] z) (Instr.index 9 a1 (Value.int IntKind.i64 0)) (fun x27 =>
 ∀ w9 : World, E2 w6.drew w9 → Facts Φ2 [(3, x25_1)] w9 →
 CallS Tryz.prog 120 #[x25_1, x27] w9 (retK (fun x28 w10 =>
 R (.returned x28) w10) (pkR R))))) (
 J1 [] w6)) (pkR R)) (pkR R)) (
 J1 [] w4))) (pkR R)) (pkR R)) ∧
 ∀ (_j1 : Env) (w11 : World), J1 [] w11 →
 CallS Tryz.prog 122 #[a1] w11 (retK (fun x31 w12 =>
 Do Tryz.prog (Instr.extract x31 0) w12 (fun x32 w13 =>
 Do Tryz.prog (Instr.extract x31 1) w13 (fun x33 w14 =>
 Do Tryz.prog (Instr.alloc 195 true (.tuple #[])) w14 (fun x5 w15 =>
 DoU Tryz.prog (Instr.storeAt 195 x5 x32) w15 (fun w16 =>
 CondV x33 (
 CallS Tryz.prog 124 #[a0, x5] w16 (retK (fun x36 w17 =>
 CallS Tryz.prog 123 #[x36, x5] w17 (retK (fun x37 w18 =>
 R (.returned x37) w18) (pkR R))) (pkR R))) (
 CallS Tryz.prog 126 #[a0, a1] w16 (retK (fun x40 w19 =>
 CallS Tryz.prog 125 #[x40, a1] w19 (retK (fun x42 w20 =>
 R (.returned x42) w20) (pkR R))) (pkR R)))) (pkR R)) (pkR R)) (pkR R)) (pkR R)) (pkR R)))) (pkR R)))) (pkR R)
theorem vc_strings_Trim {R : Ending → World → Prop} {a0 a1 : Value} {w : World} (h : V_strings_Trim R a0 a1 w) : Calls Tryz.prog 83 #[a0, a1] w R :=
  calls_of_vc (args := [a0, a1]) (fun _ => ([], [])) (fun k => match k with | 5 => some ([], [4, 14, 15, 16, 17, 18, 19, 20, 21, 22, 23, 24, 25, 26, 27, 28]) | _ => none) (fun _ => none) Tryz.func83 (bodyC_some (by kernel_rfl)) rfl (by kernel_rfl) (by kernel_rfl) (by kernel_rfl) (by kernel_rfl) (Eq.mpr (by kernel_rfl) h)

/-- buttress/merkle.path -/
def V_merkle_path (R : Ending → World → Prop) (a0 : Value) (w : World) : Prop :=
 DoN Tryz.prog (builtin .len #[9] 3 #[false] #[a0]) w (fun x4 w1 =>
 Do Tryz.prog (binOp .leq 3 x4 (Value.int IntKind.i64 510)) w1 (fun x5 w2 =>
 BoolV x5 (fun b1 =>
 SplitB b1 (
 CallS Tryz.prog 83 #[a0, (Value.string (ByteArray.mk #[48, 49]))] w2 (retK (fun x8 w3 =>
 Do Tryz.prog ((do eqGuard .eql 9 (Operand.tmp 8) (Operand.const (Value.string (ByteArray.mk #[]))) x8 (Value.string (ByteArray.mk #[])); binOp .eql 9 x8 (Value.string (ByteArray.mk #[])) : Sem Value)) w3 (fun x9 w4 =>
 R (.returned x9) w4) (pkR R)) (pkR R))) (
 R (.returned (Value.bool Bool.false)) w2))) (pkR R)) (pkR R)
theorem vc_merkle_path {R : Ending → World → Prop} {a0 : Value} {w : World} (h : V_merkle_path R a0 w) : Calls Tryz.prog 48 #[a0] w R :=
  calls_of_vc (args := [a0]) (fun _ => ([], [])) (fun _ => none) (fun _ => none) Tryz.func48 (bodyC_some (by kernel_rfl)) rfl (by kernel_rfl) (by kernel_rfl) (by kernel_rfl) (by kernel_rfl) (Eq.mpr (by kernel_rfl) h)

/-- internal/stringslite.Clone -/
def V_internal_stringslite_Clone (R : Ending → World → Prop) (a0 : Value) (w : World) : Prop :=
 DoN Tryz.prog (builtin .len #[9] 3 #[false] #[a0]) w (fun x5 w1 =>
 Do Tryz.prog ((do eqGuard .eql 3 (Operand.tmp 5) (Operand.const (Value.int IntKind.i64 0)) x5 (Value.int IntKind.i64 0); binOp .eql 3 x5 (Value.int IntKind.i64 0) : Sem Value)) w1 (fun x6 w2 =>
 CondV x6 (
 R (.returned (Value.string (ByteArray.mk #[]))) w2) (
 DoN Tryz.prog (builtin .len #[9] 3 #[false] #[a0]) w2 (fun x8 w3 =>
 Do Tryz.prog (Instr.makeSlice 22 x8 x8) w3 (fun x9 w4 =>
 DoN Tryz.prog (builtin .copy #[22, 9] 3 #[false, false] #[x9, a0]) w4 (fun _x12 w5 =>
 Do Tryz.prog (Instr.indexAt 22 x9 (Value.int IntKind.i64 0)) w5 (fun x14 w6 =>
 DoN Tryz.prog (builtin .len #[22] 3 #[false] #[x9]) w6 (fun x16 w7 =>
 DoN Tryz.prog (builtin .unsafeString #[190, 3] 9 #[false, false] #[x14, x16]) w7 (fun x17 w8 =>
 R (.returned x17) w8) (pkR R)) (pkR R)) (pkR R)) (pkR R)) (pkR R)) (pkR R))) (pkR R)) (pkR R)
theorem vc_internal_stringslite_Clone {R : Ending → World → Prop} {a0 : Value} {w : World} (h : V_internal_stringslite_Clone R a0 w) : Calls Tryz.prog 90 #[a0] w R :=
  calls_of_vc (args := [a0]) (fun _ => ([], [])) (fun _ => none) (fun _ => none) Tryz.func90 (bodyC_some (by kernel_rfl)) rfl (by kernel_rfl) (by kernel_rfl) (by kernel_rfl) (by kernel_rfl) (Eq.mpr (by kernel_rfl) h)

/-- strings.Clone -/
def V_strings_Clone (R : Ending → World → Prop) (a0 : Value) (w : World) : Prop :=
 CallS Tryz.prog 90 #[a0] w (retK (fun x4 w1 =>
 R (.returned x4) w1) (pkR R))
theorem vc_strings_Clone {R : Ending → World → Prop} {a0 : Value} {w : World} (h : V_strings_Clone R a0 w) : Calls Tryz.prog 55 #[a0] w R :=
  calls_of_vc (args := [a0]) (fun _ => ([], [])) (fun _ => none) (fun _ => none) Tryz.func55 (bodyC_some (by kernel_rfl)) rfl (by kernel_rfl) (by kernel_rfl) (by kernel_rfl) (by kernel_rfl) (Eq.mpr (by kernel_rfl) h)

/-- (*buttress/merkle.Tree).node -/
def V_merkle_Tree_node (R : Ending → World → Prop) (a0 a1 a2 : Value) (w : World) : Prop :=
 Do Tryz.prog (Instr.box 28 a0) w (fun x3 w1 =>
 Do Tryz.prog (Instr.box 9 a1) w1 (fun x4 w2 =>
 Do Tryz.prog (Instr.box 109 a2) w2 (fun x5 w3 =>
 Do Tryz.prog (Instr.alloc 52 true (.tuple #[])) w3 (fun x6 w4 =>
 Do Tryz.prog (Instr.makeSlice 30 (Value.int IntKind.i64 0) (Value.int IntKind.i64 2)) w4 (fun x11 w5 =>
 ∃ J1 : List Value → World → Prop, (
 Do Tryz.prog (Instr.loadAt 109 x5) w5 (fun x12 w6 =>
 DoN Tryz.prog (builtin .len #[109] 3 #[false] #[x12]) w6 (fun x13 w7 =>
 Do Tryz.prog (binOp .lss 3 x13 (Value.int IntKind.i64 2)) w7 (fun x14 w8 =>
 BoolV x14 (fun b2 =>
 SplitB b2 (
 Do Tryz.prog (Instr.loadAt 109 x5) w8 (fun x20 w9 =>
 DoN Tryz.prog (builtin .len #[109] 3 #[false] #[x20]) w9 (fun x21 w10 =>
 ∃ I2 : Nat → List Value → World → Prop, (∃ m, I2 m [x11, (Value.int IntKind.i64 0)] w10) ∧
 ∀ m2 (x7 : Value) (x22 : Value) (_j2 : Env) (w11 : World), I2 m2 [x7, x22] w11 →
 Do Tryz.prog (binOp .lss 3 x22 x21) w11 (fun x23 w12 =>
 CondV x23 (
 Do Tryz.prog (Instr.indexAt 109 x20 x22) w12 (fun x24 w13 =>
 Do Tryz.prog (Instr.loadAt 3 x24) w13 (fun x25 w14 =>
 ∃ (E3 : World → World → Prop) (Φ3 : Nat → Value → World → Prop), Pre E3 ∧ (∀ i v w w', E3 w w' → Φ3 i v w → Φ3 i v w') ∧
 PureQ Tryz.prog (fun z => E3 w14.drew z ∧ Facts Φ3 [] z) (Instr.loadAt 28 x3) (fun x27 =>
 PureN Tryz.prog (fun z => E3 w14.drew z ∧ Facts Φ3 [] z) (nilS x27) (fun x28 =>
 PureQ Tryz.prog (fun z => E3 w14.drew z ∧ Facts Φ3 [] z) (Instr.fieldAt 36 x28 0) (fun x29 =>
 PureQ Tryz.prog (fun z => E3 w14.drew z ∧ Facts Φ3 [] z) (Instr.fieldAt 33 x29 0) (fun x30 =>
 PureQ Tryz.prog (fun z => E3 w14.drew z ∧ Facts Φ3 [] z) (Instr.loadAt 30 x30) (fun x31 =>
 PureQ Tryz.prog (fun z => E3 w14.drew z ∧ Facts Φ3 [] z) (Instr.indexAt 30 x31 x25) (fun x33 =>
 PureQ Tryz.prog (fun z => E3 w14.drew z ∧ Facts Φ3 [] z) (Instr.fieldAt 83 x33 0) (fun x34 =>
 PureQ Tryz.prog (fun z => E3 w14.drew z ∧ Facts Φ3 [] z) (Instr.loadAt 9 x34) (fun x35 =>
 PureQ Tryz.prog (fun z => E3 w14.drew z ∧ Facts Φ3 [] z) (Instr.loadAt 28 x3) (fun x36 =>
 PureN Tryz.prog (fun z => E3 w14.drew z ∧ Facts Φ3 [] z) (nilS x36) (fun x37 =>
 PureQ Tryz.prog (fun z => E3 w14.drew z ∧ Facts Φ3 [] z) (Instr.fieldAt 36 x37 0) (fun x38 =>
 PureQ Tryz.prog (fun z => E3 w14.drew z ∧ Facts Φ3 [] z) (Instr.fieldAt 33 x38 0) (fun x39 =>
 PureQ Tryz.prog (fun z => E3 w14.drew z ∧ Facts Φ3 [] z) (Instr.loadAt 30 x39) (fun x40 =>
 PureQ Tryz.prog (fun z => E3 w14.drew z ∧ Facts Φ3 [] z) (Instr.indexAt 30 x40 x25) (fun x42 =>
 PureQ Tryz.prog (fun z => E3 w14.drew z ∧ Facts Φ3 [] z) (Instr.fieldAt 83 x42 1) (fun x43 =>
 PureQ Tryz.prog (fun z => E3 w14.drew z ∧ Facts Φ3 [] z) (Instr.loadAt 47 x43) (fun x44 =>
 (∀ w15 : World, E3 w14.drew w15 → Facts Φ3 [] w15 → CallS Tryz.prog 56 #[x44] w15 (retK (fun x45 w16 =>
 E3 w15 w16 ∧ Φ3 19 x45 w16) (fun _ _ => False))) ∧ ∀ x45_1 : Value,
 PureQ Tryz.prog (fun z => E3 w14.drew z ∧ Facts Φ3 [(19, x45_1)] z) (Instr.build 83 #[(0, x35), (1, x45_1)]) (fun x46 =>
 (∀ w17 : World, E3 w14.drew w17 → Facts Φ3 [(19, x45_1)] w17 → Do Tryz.prog (Instr.buildSlice 30 1 #[(0, x46)]) w17 (fun x47 w18 =>
 E3 w17 w18 ∧ Φ3 21 x47 w18) (fun _ _ => False)) ∧ ∀ x47_1 : Value,
 ∀ w19 : World, E3 w14.drew w19 → Facts Φ3 [(21, x47_1), (19, x45_1)] w19 →
 DoN Tryz.prog (builtin .append #[30, 30] 30 #[false, false] #[x7, x47_1]) w19 (fun x48 w20 =>
 Do Tryz.prog (binOp .add 3 x22 (Value.int IntKind.i64 1)) w20 (fun x49 w21 =>
 Nxt I2 m2 [x48, x49] w21) (pkR R)) (pkR R))))))))))))))))))) (pkR R)) (pkR R)) (
 J1 [x7] w12)) (pkR R)) (pkR R)) (pkR R)) (
 Do Tryz.prog (Instr.loadAt 9 x4) w8 (fun x16 w22 =>
 DoN Tryz.prog (builtin .len #[9] 3 #[false] #[x16]) w22 (fun x17 w23 =>
 Do Tryz.prog ((do eqGuard .eql 3 (Operand.tmp 17) (Operand.const (Value.int IntKind.i64 510)) x17 (Value.int IntKind.i64 510); binOp .eql 3 x17 (Value.int IntKind.i64 510) : Sem Value)) w23 (fun x18 w24 =>
 CondV x18 (
 Do Tryz.prog (Instr.loadAt 109 x5) w24 (fun x20_1 w25 =>
 DoN Tryz.prog (builtin .len #[109] 3 #[false] #[x20_1]) w25 (fun x21_1 w26 =>
 ∃ I4 : Nat → List Value → World → Prop, (∃ m, I4 m [x11, (Value.int IntKind.i64 0)] w26) ∧
 ∀ m4 (x7_1 : Value) (x22_1 : Value) (_j4 : Env) (w27 : World), I4 m4 [x7_1, x22_1] w27 →
 Do Tryz.prog (binOp .lss 3 x22_1 x21_1) w27 (fun x23_1 w28 =>
 CondV x23_1 (
 Do Tryz.prog (Instr.indexAt 109 x20_1 x22_1) w28 (fun x24_1 w29 =>
 Do Tryz.prog (Instr.loadAt 3 x24_1) w29 (fun x25_1 w30 =>
 ∃ (E5 : World → World → Prop) (Φ5 : Nat → Value → World → Prop), Pre E5 ∧ (∀ i v w w', E5 w w' → Φ5 i v w → Φ5 i v w') ∧
 PureQ Tryz.prog (fun z => E5 w30.drew z ∧ Facts Φ5 [] z) (Instr.loadAt 28 x3) (fun x27_1 =>
 PureN Tryz.prog (fun z => E5 w30.drew z ∧ Facts Φ5 [] z) (nilS x27_1) (fun x28_1 =>
 PureQ Tryz.prog (fun z => E5 w30.drew z ∧ Facts Φ5 [] z) (Instr.fieldAt 36 x28_1 0) (fun x29_1 =>
 PureQ Tryz.prog (fun z => E5 w30.drew z ∧ Facts Φ5 [] z) (Instr.fieldAt 33 x29_1 0) (fun x30_1 =>
 PureQ Tryz.prog (fun z => E5 w30.drew z ∧ Facts Φ5 [] z) (Instr.loadAt 30 x30_1) (fun x31_1 =>
 PureQ Tryz.prog (fun z => E5 w30.drew z ∧ Facts Φ5 [] z) (Instr.indexAt 30 x31_1 x25_1) (fun x33_1 =>
 PureQ Tryz.prog (fun z => E5 w30.drew z ∧ Facts Φ5 [] z) (Instr.fieldAt 83 x33_1 0) (fun x34_1 =>
 PureQ Tryz.prog (fun z => E5 w30.drew z ∧ Facts Φ5 [] z) (Instr.loadAt 9 x34_1) (fun x35_1 =>
 PureQ Tryz.prog (fun z => E5 w30.drew z ∧ Facts Φ5 [] z) (Instr.loadAt 28 x3) (fun x36_1 =>
 PureN Tryz.prog (fun z => E5 w30.drew z ∧ Facts Φ5 [] z) (nilS x36_1) (fun x37_1 =>
 PureQ Tryz.prog (fun z => E5 w30.drew z ∧ Facts Φ5 [] z) (Instr.fieldAt 36 x37_1 0) (fun x38_1 =>
 PureQ Tryz.prog (fun z => E5 w30.drew z ∧ Facts Φ5 [] z) (Instr.fieldAt 33 x38_1 0) (fun x39_1 =>
 PureQ Tryz.prog (fun z => E5 w30.drew z ∧ Facts Φ5 [] z) (Instr.loadAt 30 x39_1) (fun x40_1 =>
 PureQ Tryz.prog (fun z => E5 w30.drew z ∧ Facts Φ5 [] z) (Instr.indexAt 30 x40_1 x25_1) (fun x42_1 =>
 PureQ Tryz.prog (fun z => E5 w30.drew z ∧ Facts Φ5 [] z) (Instr.fieldAt 83 x42_1 1) (fun x43_1 =>
 PureQ Tryz.prog (fun z => E5 w30.drew z ∧ Facts Φ5 [] z) (Instr.loadAt 47 x43_1) (fun x44_1 =>
 (∀ w31 : World, E5 w30.drew w31 → Facts Φ5 [] w31 → CallS Tryz.prog 56 #[x44_1] w31 (retK (fun x45_2 w32 =>
 E5 w31 w32 ∧ Φ5 19 x45_2 w32) (fun _ _ => False))) ∧ ∀ x45_3 : Value,
 PureQ Tryz.prog (fun z => E5 w30.drew z ∧ Facts Φ5 [(19, x45_3)] z) (Instr.build 83 #[(0, x35_1), (1, x45_3)]) (fun x46_1 =>
 (∀ w33 : World, E5 w30.drew w33 → Facts Φ5 [(19, x45_3)] w33 → Do Tryz.prog (Instr.buildSlice 30 1 #[(0, x46_1)]) w33 (fun x47_2 w34 =>
 E5 w33 w34 ∧ Φ5 21 x47_2 w34) (fun _ _ => False)) ∧ ∀ x47_3 : Value,
 ∀ w35 : World, E5 w30.drew w35 → Facts Φ5 [(21, x47_3), (19, x45_3)] w35 →
 DoN Tryz.prog (builtin .append #[30, 30] 30 #[false, false] #[x7_1, x47_3]) w35 (fun x48_1 w36 =>
 Do Tryz.prog (binOp .add 3 x22_1 (Value.int IntKind.i64 1)) w36 (fun x49_1 w37 =>
 Nxt I4 m4 [x48_1, x49_1] w37) (pkR R)) (pkR R))))))))))))))))))) (pkR R)) (pkR R)) (
 J1 [x7_1] w28)) (pkR R)) (pkR R)) (pkR R)) (
 J1 [x11] w24)) (pkR R)) (pkR R)) (pkR R)))) (pkR R)) (pkR R)) (pkR R)) ∧
 ∀ (x7_2 : Value) (_j1 : Env) (w38 : World), J1 [x7_2] w38 →
 Do Tryz.prog (Instr.loadAt 109 x5) w38 (fun x51 w39 =>
 DoN Tryz.prog (builtin .len #[109] 3 #[false] #[x51]) w39 (fun x52 w40 =>
 Do Tryz.prog ((do eqGuard .eql 3 (Operand.tmp 52) (Operand.const (Value.int IntKind.i64 0)) x52 (Value.int IntKind.i64 0); binOp .eql 3 x52 (Value.int IntKind.i64 0) : Sem Value)) w40 (fun x53 w41 =>
 CondV x53 (
 Do Tryz.prog (Instr.build 52 #[(0, (Value.int IntKind.u8 1))]) w41 (fun x54 w42 =>
 DoU Tryz.prog (Instr.storeAt 52 x6 x54) w42 (fun w43 =>
 ResV Tryz.prog [(.inr (x6, 52))] w43 R) (pkR R)) (pkR R)) (
 Do Tryz.prog (Instr.loadAt 109 x5) w41 (fun x56 w44 =>
 DoN Tryz.prog (builtin .len #[109] 3 #[false] #[x56]) w44 (fun x57 w45 =>
 Do Tryz.prog ((do eqGuard .eql 3 (Operand.tmp 57) (Operand.const (Value.int IntKind.i64 1)) x57 (Value.int IntKind.i64 1); binOp .eql 3 x57 (Value.int IntKind.i64 1) : Sem Value)) w45 (fun x58 w46 =>
 CondV x58 (
 Do Tryz.prog (Instr.build 52 #[(0, (Value.int IntKind.u8 2)), (3, x7_2)]) w46 (fun x60 w47 =>
 DoU Tryz.prog (Instr.storeAt 52 x6 x60) w47 (fun w48 =>
 ResV Tryz.prog [(.inr (x6, 52))] w48 R) (pkR R)) (pkR R)) (
 Do Tryz.prog (Instr.loadAt 9 x4) w46 (fun x62 w49 =>
 DoN Tryz.prog (builtin .len #[9] 3 #[false] #[x62]) w49 (fun x63 w50 =>
 Do Tryz.prog ((do eqGuard .eql 3 (Operand.tmp 63) (Operand.const (Value.int IntKind.i64 510)) x63 (Value.int IntKind.i64 510); binOp .eql 3 x63 (Value.int IntKind.i64 510) : Sem Value)) w50 (fun x64 w51 =>
 CondV x64 (
 Do Tryz.prog (Instr.build 52 #[(0, (Value.int IntKind.u8 4)), (3, x7_2)]) w51 (fun x66 w52 =>
 DoU Tryz.prog (Instr.storeAt 52 x6 x66) w52 (fun w53 =>
 ResV Tryz.prog [(.inr (x6, 52))] w53 R) (pkR R)) (pkR R)) (
 Do Tryz.prog (Instr.makeFunc (Fn.func 84) #[] #[x3, x4, x5]) w51 (fun x67 w54 =>
 CallV Tryz.prog x67 [(Value.string (ByteArray.mk #[48]))] w54 (fun x69 w55 =>
 CallV Tryz.prog x67 [(Value.string (ByteArray.mk #[49]))] w55 (fun x71 w56 =>
 Do Tryz.prog (Instr.build 52 #[(0, (Value.int IntKind.u8 3)), (1, x69), (2, x71)]) w56 (fun x72 w57 =>
 DoU Tryz.prog (Instr.storeAt 52 x6 x72) w57 (fun w58 =>
 ResV Tryz.prog [(.inr (x6, 52))] w58 R) (pkR R)) (pkR R)) (pkR R)) (pkR R)) (pkR R))) (pkR R)) (pkR R)) (pkR R))) (pkR R)) (pkR R)) (pkR R))) (pkR R)) (pkR R)) (pkR R)) (pkR R)) (pkR R)) (pkR R)) (pkR R)) (pkR R)
theorem vc_merkle_Tree_node {R : Ending → World → Prop} {a0 a1 a2 : Value} {w : World} (h : V_merkle_Tree_node R a0 a1 a2 w) : Calls Tryz.prog 49 #[a0, a1, a2] w R :=
  calls_of_vc (args := [a0, a1, a2]) (fun k => match k with | 4 => ([7, 22], [7, 9, 22, 23, 24, 25, 26, 27, 28, 29, 30, 31, 32, 33, 34, 35, 36, 37, 38, 39, 40, 41, 42, 43, 44, 45, 46, 47, 48, 49]) | _ => ([], [])) (fun k => match k with | 8 => some ([7], [7, 9, 12, 13, 14, 15, 16, 17, 18, 19, 20, 21, 22, 23, 24, 25, 26, 27, 28, 29, 30, 31, 32, 33, 34, 35, 36, 37, 38, 39, 40, 41, 42, 43, 44, 45, 46, 47, 48, 49]) | _ => none) (fun _ => none) Tryz.func49 (bodyC_some (by kernel_rfl)) rfl (by kernel_rfl) (by kernel_rfl) (by kernel_rfl) (by kernel_rfl) (Eq.mpr (by kernel_rfl) h)

/-- (*buttress/merkle.Tree).sum -/
def V_merkle_Tree_sum (R : Ending → World → Prop) (a0 a1 a2 : Value) (w : World) : Prop :=
 DoN Tryz.prog (nilS a0) w (fun x11 w1 =>
 Do Tryz.prog (Instr.fieldAt 36 x11 2) w1 (fun x12 w2 =>
 Do Tryz.prog (Instr.loadAt 34 x12) w2 (fun x13 w3 =>
 Do Tryz.prog (Instr.lookup 34 x13 a1 true) w3 (fun x15 w4 =>
 Do Tryz.prog (Instr.extract x15 0) w4 (fun x16 w5 =>
 Do Tryz.prog (Instr.extract x15 1) w5 (fun x17 w6 =>
 Do Tryz.prog (Op.unary .not x17) w6 (fun x19 w7 =>
 CondV x19 (
 CallS Tryz.prog 49 #[a0, a1, a2] w7 (retK (fun x23 w8 =>
 CallS Tryz.prog 65 #[x23] w8 (retK (fun x24 w9 =>
 ∃ (E1 : World → World → Prop) (Φ1 : Nat → Value → World → Prop), Pre E1 ∧ (∀ i v w w', E1 w w' → Φ1 i v w → Φ1 i v w') ∧
 PureN Tryz.prog (fun z => E1 w9.drew z ∧ Facts Φ1 [] z) (nilS a0) (fun x26 =>
 PureQ Tryz.prog (fun z => E1 w9.drew z ∧ Facts Φ1 [] z) (Instr.fieldAt 36 x26 2) (fun x27 =>
 PureQ Tryz.prog (fun z => E1 w9.drew z ∧ Facts Φ1 [] z) (Instr.loadAt 34 x27) (fun x28 =>
 (∀ w10 : World, E1 w9.drew w10 → Facts Φ1 [] w10 → CallS Tryz.prog 55 #[a1] w10 (retK (fun x30 w11 =>
 E1 w10 w11 ∧ Φ1 5 x30 w11) (fun _ _ => False))) ∧ ∀ x30_1 : Value,
 ∀ w12 : World, E1 w9.drew w12 → Facts Φ1 [(5, x30_1)] w12 →
 DoU Tryz.prog (Instr.mapUpdate 34 x28 x30_1 x24) w12 (fun w13 =>
 R (.returned x24) w13) (pkR R))))) (pkR R))) (pkR R))) (
 R (.returned x16) w7)) (pkR R)) (pkR R)) (pkR R)) (pkR R)) (pkR R)) (pkR R)) (pkR R)
theorem vc_merkle_Tree_sum {R : Ending → World → Prop} {a0 a1 a2 : Value} {w : World} (h : V_merkle_Tree_sum R a0 a1 a2 w) : Calls Tryz.prog 59 #[a0, a1, a2] w R :=
  calls_of_vc (args := [a0, a1, a2]) (fun _ => ([], [])) (fun _ => none) (fun _ => none) Tryz.func59 (bodyC_some (by kernel_rfl)) rfl (by kernel_rfl) (by kernel_rfl) (by kernel_rfl) (by kernel_rfl) (Eq.mpr (by kernel_rfl) h)

/-- (*buttress/merkle.Tree).Sum -/
def V_merkle_Tree_Sum (R : Ending → World → Prop) (a0 a1 : Value) (w : World) : Prop :=
 CallS Tryz.prog 47 #[a0] w (retK (fun x6 w1 =>
 Do Tryz.prog (Op.unary .not x6) w1 (fun x7 w2 =>
 BoolV x7 (fun b2 =>
 SplitB b2 (
 R (.returned (Value.slice Option.none 0 0)) w2) (
 CallS Tryz.prog 48 #[a1] w2 (retK (fun x10 w3 =>
 Do Tryz.prog (Op.unary .not x10) w3 (fun x11 w4 =>
 CondV x11 (
 R (.returned (Value.slice Option.none 0 0)) w4) (
 ∃ (E1 : World → World → Prop) (Φ1 : Nat → Value → World → Prop), Pre E1 ∧ (∀ i v w w', E1 w w' → Φ1 i v w → Φ1 i v w') ∧
 PureN Tryz.prog (fun z => E1 w4.drew z ∧ Facts Φ1 [] z) (nilS a0) (fun x16 =>
 PureQ Tryz.prog (fun z => E1 w4.drew z ∧ Facts Φ1 [] z) (Instr.fieldAt 36 x16 0) (fun x17 =>
 PureN Tryz.prog (fun z => E1 w4.drew z ∧ Facts Φ1 [] z) (nilS a0) (fun x20 =>
 PureQ Tryz.prog (fun z => E1 w4.drew z ∧ Facts Φ1 [] z) (Instr.fieldAt 36 x20 0) (fun x21 =>
 (∀ w5 : World, E1 w4.drew w5 → Facts Φ1 [] w5 → CallS Tryz.prog 51 #[x21] w5 (retK (fun x22 w6 =>
 E1 w5 w6 ∧ Φ1 9 x22 w6) (fun _ _ => False))) ∧ ∀ x22_1 : Value,
 (∀ w7 : World, E1 w4.drew w7 → Facts Φ1 [(9, x22_1)] w7 → CallS Tryz.prog 50 #[x17, a1, x22_1] w7 (retK (fun x23 w8 =>
 E1 w7 w8 ∧ Φ1 10 x23 w8) (fun _ _ => False))) ∧ ∀ x23_1 : Value,
 ∀ w9 : World, E1 w4.drew w9 → Facts Φ1 [(10, x23_1), (9, x22_1)] w9 →
 CallS Tryz.prog 59 #[a0, a1, x23_1] w9 (retK (fun x24 w10 =>
 CallS Tryz.prog 35 #[x24] w10 (retK (fun x25 w11 =>
 R (.returned x25) w11) (pkR R))) (pkR R)))))))) (pkR R)) (pkR R))))) (pkR R)) (pkR R))
theorem vc_merkle_Tree_Sum {R : Ending → World → Prop} {a0 a1 : Value} {w : World} (h : V_merkle_Tree_Sum R a0 a1 w) : Calls Tryz.prog 23 #[a0, a1] w R :=
  calls_of_vc (args := [a0, a1]) (fun _ => ([], [])) (fun _ => none) (fun _ => none) Tryz.func23 (bodyC_some (by kernel_rfl)) rfl (by kernel_rfl) (by kernel_rfl) (by kernel_rfl) (by kernel_rfl) (Eq.mpr (by kernel_rfl) h)

/-- (*buttress/merkle.Tree).Top -/
def V_merkle_Tree_Top (R : Ending → World → Prop) (a0 : Value) (w : World) : Prop :=
 CallS Tryz.prog 47 #[a0] w (retK (fun x4 w1 =>
 Do Tryz.prog (Op.unary .not x4) w1 (fun x5 w2 =>
 CondV x5 (
 R (.returned (Value.slice Option.none 0 0)) w2) (
 ∃ (E1 : World → World → Prop) (Φ1 : Nat → Value → World → Prop), Pre E1 ∧ (∀ i v w w', E1 w w' → Φ1 i v w → Φ1 i v w') ∧
 PureN Tryz.prog (fun z => E1 w2.drew z ∧ Facts Φ1 [] z) (nilS a0) (fun x7 =>
 PureQ Tryz.prog (fun z => E1 w2.drew z ∧ Facts Φ1 [] z) (Instr.fieldAt 36 x7 1) (fun x8 =>
 PureQ Tryz.prog (fun z => E1 w2.drew z ∧ Facts Φ1 [] z) (Instr.loadAt 3 x8) (fun x9 =>
 (∀ w3 : World, E1 w2.drew w3 → Facts Φ1 [] w3 → CallS Tryz.prog 23 #[a0, (Value.string (ByteArray.mk #[]))] w3 (retK (fun x11 w4 =>
 E1 w3 w4 ∧ Φ1 5 x11 w4) (fun _ _ => False))) ∧ ∀ x11_1 : Value,
 ∀ w5 : World, E1 w2.drew w5 → Facts Φ1 [(5, x11_1)] w5 →
 CallS Tryz.prog 31 #[x9, x11_1] w5 (retK (fun x12 w6 =>
 R (.returned x12) w6) (pkR R))))))) (pkR R)) (pkR R))
theorem vc_merkle_Tree_Top {R : Ending → World → Prop} {a0 : Value} {w : World} (h : V_merkle_Tree_Top R a0 w) : Calls Tryz.prog 22 #[a0] w R :=
  calls_of_vc (args := [a0]) (fun _ => ([], [])) (fun _ => none) (fun _ => none) Tryz.func22 (bodyC_some (by kernel_rfl)) rfl (by kernel_rfl) (by kernel_rfl) (by kernel_rfl) (by kernel_rfl) (Eq.mpr (by kernel_rfl) h)

/-- (*buttress/merkle.Tree).Node -/
def V_merkle_Tree_Node (R : Ending → World → Prop) (a0 a1 : Value) (w : World) : Prop :=
 Do Tryz.prog (Instr.alloc 52 true (.tuple #[])) w (fun x4 w1 =>
 CallS Tryz.prog 47 #[a0] w1 (retK (fun x8 w2 =>
 Do Tryz.prog (Op.unary .not x8) w2 (fun x9 w3 =>
 CondV x9 (
 Do Tryz.prog (Instr.build 52 #[]) w3 (fun x10 w4 =>
 DoU Tryz.prog (Instr.storeAt 52 x4 x10) w4 (fun w5 =>
 ResV Tryz.prog [(.inr (x4, 52)), (.inl (Value.int IntKind.i64 1))] w5 R) (pkR R)) (pkR R)) (
 CallS Tryz.prog 48 #[a1] w3 (retK (fun x13 w6 =>
 Do Tryz.prog (Op.unary .not x13) w6 (fun x14 w7 =>
 CondV x14 (
 Do Tryz.prog (Instr.build 52 #[]) w7 (fun x15 w8 =>
 DoU Tryz.prog (Instr.storeAt 52 x4 x15) w8 (fun w9 =>
 ResV Tryz.prog [(.inr (x4, 52)), (.inl (Value.int IntKind.i64 2))] w9 R) (pkR R)) (pkR R)) (
 ∃ (E1 : World → World → Prop) (Φ1 : Nat → Value → World → Prop), Pre E1 ∧ (∀ i v w w', E1 w w' → Φ1 i v w → Φ1 i v w') ∧
 PureN Tryz.prog (fun z => E1 w7.drew z ∧ Facts Φ1 [] z) (nilS a0) (fun x19 =>
 PureQ Tryz.prog (fun z => E1 w7.drew z ∧ Facts Φ1 [] z) (Instr.fieldAt 36 x19 0) (fun x20 =>
 PureN Tryz.prog (fun z => E1 w7.drew z ∧ Facts Φ1 [] z) (nilS a0) (fun x23 =>
 PureQ Tryz.prog (fun z => E1 w7.drew z ∧ Facts Φ1 [] z) (Instr.fieldAt 36 x23 0) (fun x24 =>
 (∀ w10 : World, E1 w7.drew w10 → Facts Φ1 [] w10 → CallS Tryz.prog 51 #[x24] w10 (retK (fun x25 w11 =>
 E1 w10 w11 ∧ Φ1 9 x25 w11) (fun _ _ => False))) ∧ ∀ x25_1 : Value,
 (∀ w12 : World, E1 w7.drew w12 → Facts Φ1 [(9, x25_1)] w12 → CallS Tryz.prog 50 #[x20, a1, x25_1] w12 (retK (fun x26 w13 =>
 E1 w12 w13 ∧ Φ1 10 x26 w13) (fun _ _ => False))) ∧ ∀ x26_1 : Value,
 ∀ w14 : World, E1 w7.drew w14 → Facts Φ1 [(10, x26_1), (9, x25_1)] w14 →
 CallS Tryz.prog 49 #[a0, a1, x26_1] w14 (retK (fun x27 w15 =>
 DoU Tryz.prog (Instr.storeAt 52 x4 x27) w15 (fun w16 =>
 ResV Tryz.prog [(.inr (x4, 52)), (.inl (Value.int IntKind.i64 0))] w16 R) (pkR R)) (pkR R)))))))) (pkR R)) (pkR R)))) (pkR R)) (pkR R))) (pkR R)
theorem vc_merkle_Tree_Node {R : Ending → World → Prop} {a0 a1 : Value} {w : World} (h : V_merkle_Tree_Node R a0 a1 w) : Calls Tryz.prog 18 #[a0, a1] w R :=
  calls_of_vc (args := [a0, a1]) (fun _ => ([], [])) (fun _ => none) (fun _ => none) Tryz.func18 (bodyC_some (by kernel_rfl)) rfl (by kernel_rfl) (by kernel_rfl) (by kernel_rfl) (by kernel_rfl) (Eq.mpr (by kernel_rfl) h)

/-- (*buttress/merkle.Tree).Shard -/
def V_merkle_Tree_Shard (R : Ending → World → Prop) (a0 : Value) (w : World) : Prop :=
 CallS Tryz.prog 47 #[a0] w (retK (fun x4 w1 =>
 Do Tryz.prog (Op.unary .not x4) w1 (fun x5 w2 =>
 CondV x5 (
 R (.returned (Value.int IntKind.i64 (-1))) w2) (
 DoN Tryz.prog (nilS a0) w2 (fun x7 w3 =>
 Do Tryz.prog (Instr.fieldAt 36 x7 1) w3 (fun x8 w4 =>
 Do Tryz.prog (Instr.loadAt 3 x8) w4 (fun x9 w5 =>
 R (.returned x9) w5) (pkR R)) (pkR R)) (pkR R))) (pkR R)) (pkR R))
theorem vc_merkle_Tree_Shard {R : Ending → World → Prop} {a0 : Value} {w : World} (h : V_merkle_Tree_Shard R a0 w) : Calls Tryz.prog 21 #[a0] w R :=
  calls_of_vc (args := [a0]) (fun _ => ([], [])) (fun _ => none) (fun _ => none) Tryz.func21 (bodyC_some (by kernel_rfl)) rfl (by kernel_rfl) (by kernel_rfl) (by kernel_rfl) (by kernel_rfl) (Eq.mpr (by kernel_rfl) h)

/-- (*buttress/merkle.Tree).Put -/
def V_merkle_Tree_Put (R : Ending → World → Prop) (a0 a1 : Value) (w : World) : Prop :=
 CallS Tryz.prog 47 #[a0] w (retK (fun x12 w1 =>
 Do Tryz.prog (Op.unary .not x12) w1 (fun x13 w2 =>
 CondV x13 (
 R (.returned (Value.int IntKind.i64 1)) w2) (
 DoN Tryz.prog (builtin .len #[30] 3 #[false] #[a1]) w2 (fun x15 w3 =>
 ∃ I1 : Nat → List Value → World → Prop, (∃ m, I1 m [(Value.int IntKind.i64 0)] w3) ∧
 ∀ m1 (x16 : Value) (_j1 : Env) (w4 : World), I1 m1 [x16] w4 →
 Do Tryz.prog (binOp .lss 3 x16 x15) w4 (fun x17 w5 =>
 CondV x17 (
 Do Tryz.prog (Instr.indexAt 30 a1 x16) w5 (fun x18 w6 =>
 Do Tryz.prog (Instr.loadAt 83 x18) w6 (fun x19 w7 =>
 Do Tryz.prog (Instr.alloc 83 true (.tuple #[])) w7 (fun x6 w8 =>
 DoU Tryz.prog (Instr.storeAt 83 x6 x19) w8 (fun w9 =>
 Do Tryz.prog (Instr.fieldAt 83 x6 0) w9 (fun x21 w10 =>
 Do Tryz.prog (Instr.loadAt 9 x21) w10 (fun x22 w11 =>
 CallS Tryz.prog 52 #[x22] w11 (retK (fun x23 w12 =>
 Do Tryz.prog (Op.unary .not x23) w12 (fun x24 w13 =>
 CondV x24 (
 CondV x24 (
 R (.returned (Value.int IntKind.i64 22)) w13) (
 Do Tryz.prog (Instr.fieldAt 83 x6 0) w13 (fun x34 w14 =>
 Do Tryz.prog (Instr.loadAt 9 x34) w14 (fun x35 w15 =>
 Do Tryz.prog (Instr.fieldAt 83 x6 1) w15 (fun x36 w16 =>
 Do Tryz.prog (Instr.loadAt 47 x36) w16 (fun x37 w17 =>
 CallS Tryz.prog 53 #[x35, x37] w17 (retK (fun x38 w18 =>
 Do Tryz.prog (Op.unary .not x38) w18 (fun x39 w19 =>
 CondV x39 (
 R (.returned (Value.int IntKind.i64 4)) w19) (
 Do Tryz.prog (binOp .add 3 x16 (Value.int IntKind.i64 1)) w19 (fun x40 w20 =>
 Nxt I1 m1 [x40] w20) (pkR R))) (pkR R)) (pkR R))) (pkR R)) (pkR R)) (pkR R)) (pkR R))) (
 ∃ (E2 : World → World → Prop) (Φ2 : Nat → Value → World → Prop), Pre E2 ∧ (∀ i v w w', E2 w w' → Φ2 i v w → Φ2 i v w') ∧
 PureQ Tryz.prog (fun z => E2 w13.drew z ∧ Facts Φ2 [] z) (Instr.fieldAt 83 x6 0) (fun x25 =>
 PureQ Tryz.prog (fun z => E2 w13.drew z ∧ Facts Φ2 [] z) (Instr.loadAt 9 x25) (fun x26 =>
 (∀ w21 : World, E2 w13.drew w21 → Facts Φ2 [] w21 → CallS Tryz.prog 15 #[x26] w21 (retK (fun x27 w22 =>
 E2 w21 w22 ∧ Φ2 2 x27 w22) (fun _ _ => False))) ∧ ∀ x27_1 : Value,
 PureN Tryz.prog (fun z => E2 w13.drew z ∧ Facts Φ2 [] z) (nilS a0) (fun x29 =>
 PureQ Tryz.prog (fun z => E2 w13.drew z ∧ Facts Φ2 [] z) (Instr.fieldAt 36 x29 1) (fun x30 =>
 PureQ Tryz.prog (fun z => E2 w13.drew z ∧ Facts Φ2 [] z) (Instr.loadAt 3 x30) (fun x31 =>
 ∀ w23 : World, E2 w13.drew w23 → Facts Φ2 [(2, x27_1)] w23 →
 Do Tryz.prog ((do eqGuard .neq 3 (Operand.tmp 27) (Operand.tmp 31) x27_1 x31; binOp .neq 3 x27_1 x31 : Sem Value)) w23 (fun x32 w24 =>
 CondV x32 (
 R (.returned (Value.int IntKind.i64 22)) w24) (
 Do Tryz.prog (Instr.fieldAt 83 x6 0) w24 (fun x34_1 w25 =>
 Do Tryz.prog (Instr.loadAt 9 x34_1) w25 (fun x35_1 w26 =>
 Do Tryz.prog (Instr.fieldAt 83 x6 1) w26 (fun x36_1 w27 =>
 Do Tryz.prog (Instr.loadAt 47 x36_1) w27 (fun x37_1 w28 =>
 CallS Tryz.prog 53 #[x35_1, x37_1] w28 (retK (fun x38_1 w29 =>
 Do Tryz.prog (Op.unary .not x38_1) w29 (fun x39_1 w30 =>
 CondV x39_1 (
 R (.returned (Value.int IntKind.i64 4)) w30) (
 Do Tryz.prog (binOp .add 3 x16 (Value.int IntKind.i64 1)) w30 (fun x40_1 w31 =>
 Nxt I1 m1 [x40_1] w31) (pkR R))) (pkR R)) (pkR R))) (pkR R)) (pkR R)) (pkR R)) (pkR R))) (pkR R)))))))) (pkR R)) (pkR R))) (pkR R)) (pkR R)) (pkR R)) (pkR R)) (pkR R)) (pkR R)) (
 DoN Tryz.prog (builtin .len #[30] 3 #[false] #[a1]) w5 (fun x42 w32 =>
 ∃ I3 : Nat → List Value → World → Prop, (∃ m, I3 m [(Value.int IntKind.i64 0)] w32) ∧
 ∀ m3 (x43 : Value) (_j3 : Env) (w33 : World), I3 m3 [x43] w33 →
 Do Tryz.prog (binOp .lss 3 x43 x42) w33 (fun x44 w34 =>
 CondV x44 (
 Do Tryz.prog (Instr.indexAt 30 a1 x43) w34 (fun x45 w35 =>
 Do Tryz.prog (Instr.loadAt 83 x45) w35 (fun x46 w36 =>
 Do Tryz.prog (Instr.alloc 83 true (.tuple #[])) w36 (fun x8 w37 =>
 DoU Tryz.prog (Instr.storeAt 83 x8 x46) w37 (fun w38 =>
 ∃ (E4 : World → World → Prop) (Φ4 : Nat → Value → World → Prop), Pre E4 ∧ (∀ i v w w', E4 w w' → Φ4 i v w → Φ4 i v w') ∧
 PureN Tryz.prog (fun z => E4 w38.drew z ∧ Facts Φ4 [] z) (nilS a0) (fun x48 =>
 PureQ Tryz.prog (fun z => E4 w38.drew z ∧ Facts Φ4 [] z) (Instr.fieldAt 36 x48 0) (fun x49 =>
 PureQ Tryz.prog (fun z => E4 w38.drew z ∧ Facts Φ4 [] z) (Instr.fieldAt 83 x8 0) (fun x50 =>
 PureQ Tryz.prog (fun z => E4 w38.drew z ∧ Facts Φ4 [] z) (Instr.loadAt 9 x50) (fun x51 =>
 (∀ w39 : World, E4 w38.drew w39 → Facts Φ4 [] w39 → CallS Tryz.prog 55 #[x51] w39 (retK (fun x52 w40 =>
 E4 w39 w40 ∧ Φ4 5 x52 w40) (fun _ _ => False))) ∧ ∀ x52_1 : Value,
 PureQ Tryz.prog (fun z => E4 w38.drew z ∧ Facts Φ4 [] z) (Instr.fieldAt 83 x8 1) (fun x53 =>
 PureQ Tryz.prog (fun z => E4 w38.drew z ∧ Facts Φ4 [] z) (Instr.loadAt 47 x53) (fun x54 =>
 (∀ w41 : World, E4 w38.drew w41 → Facts Φ4 [(5, x52_1)] w41 → CallS Tryz.prog 56 #[x54] w41 (retK (fun x55 w42 =>
 E4 w41 w42 ∧ Φ4 8 x55 w42) (fun _ _ => False))) ∧ ∀ x55_1 : Value,
 PureQ Tryz.prog (fun z => E4 w38.drew z ∧ Facts Φ4 [(8, x55_1), (5, x52_1)] z) (Instr.build 83 #[(0, x52_1), (1, x55_1)]) (fun x56 =>
 ∀ w43 : World, E4 w38.drew w43 → Facts Φ4 [(8, x55_1), (5, x52_1)] w43 →
 CallS Tryz.prog 54 #[x49, x56] w43 (retK (fun _x57 w44 =>
 Do Tryz.prog (Instr.fieldAt 83 x8 0) w44 (fun x58 w45 =>
 Do Tryz.prog (Instr.loadAt 9 x58) w45 (fun x59 w46 =>
 CallS Tryz.prog 42 #[x59] w46 (retK (fun x60 w47 =>
 DoN Tryz.prog (nilS a0) w47 (fun x62 w48 =>
 Do Tryz.prog (Instr.fieldAt 36 x62 2) w48 (fun x63 w49 =>
 Do Tryz.prog (Instr.loadAt 34 x63) w49 (fun x64 w50 =>
 Do Tryz.prog (Instr.range 34 x64) w50 (fun x65 w51 =>
 ∃ I5 : Nat → List Value → World → Prop, (∃ m, I5 m [] w51) ∧
 ∀ m5 (_j5 : Env) (w52 : World), I5 m5 [] w52 →
 Do Tryz.prog (Instr.next x65 false 0) w52 (fun x66 w53 =>
 Do Tryz.prog (Instr.extract x66 0) w53 (fun x67 w54 =>
 CondV x67 (
 Do Tryz.prog (Instr.entry x65) w54 (fun x68 w55 =>
 Do Tryz.prog (Instr.extract x68 0) w55 (fun x69 w56 =>
 CallS Tryz.prog 57 #[x60, x69] w56 (retK (fun x72 w57 =>
 CondV x72 (
 DoN Tryz.prog (nilS a0) w57 (fun x74 w58 =>
 Do Tryz.prog (Instr.fieldAt 36 x74 2) w58 (fun x75 w59 =>
 Do Tryz.prog (Instr.loadAt 34 x75) w59 (fun x76 w60 =>
 DoN Tryz.prog (builtin .delete #[34, 9] 0 #[false, false] #[x76, x69]) w60 (fun _u w61 =>
 Nxt I5 m5 [] w61) (pkR R)) (pkR R)) (pkR R)) (pkR R)) (
 Nxt I5 m5 [] w57)) (pkR R))) (pkR R)) (pkR R)) (
 Do Tryz.prog (binOp .add 3 x43 (Value.int IntKind.i64 1)) w54 (fun x78 w62 =>
 Nxt I3 m3 [x78] w62) (pkR R))) (pkR R)) (pkR R)) (pkR R)) (pkR R)) (pkR R)) (pkR R)) (pkR R))) (pkR R)) (pkR R)) (pkR R)))))))))) (pkR R)) (pkR R)) (pkR R)) (pkR R)) (
 R (.returned (Value.int IntKind.i64 0)) w34)) (pkR R)) (pkR R))) (pkR R)) (pkR R))) (pkR R)) (pkR R))
theorem vc_merkle_Tree_Put {R : Ending → World → Prop} {a0 a1 : Value} {w : World} (h : V_merkle_Tree_Put R a0 a1 w) : Calls Tryz.prog 19 #[a0, a1] w R :=
  calls_of_vc (args := [a0, a1]) (fun k => match k with | 4 => ([16], [4, 6, 16, 17, 18, 19, 20, 21, 22, 23, 24, 25, 26, 27, 28, 29, 30, 31, 32, 33, 34, 35, 36, 37, 38, 39, 40]) | 13 => ([43], [8, 9, 10, 43, 44, 45, 46, 47, 48, 49, 50, 51, 52, 53, 54, 55, 56, 57, 58, 59, 60, 61, 62, 63, 64, 65, 66, 67, 68, 69, 70, 71, 72, 73, 74, 75, 76, 77, 78]) | 18 => ([], [10, 66, 67, 68, 69, 70, 71, 72, 73, 74, 75, 76, 77]) | _ => ([], [])) (fun _ => none) (fun _ => none) Tryz.func19 (bodyC_some (by kernel_rfl)) rfl (by kernel_rfl) (by kernel_rfl) (by kernel_rfl) (by kernel_rfl) (Eq.mpr (by kernel_rfl) h)

/-- (*buttress/merkle.Tree).Get -/
def V_merkle_Tree_Get (R : Ending → World → Prop) (a0 a1 : Value) (w : World) : Prop :=
 CallS Tryz.prog 47 #[a0] w (retK (fun x8 w1 =>
 Do Tryz.prog (Op.unary .not x8) w1 (fun x9 w2 =>
 CondV x9 (
 R (.returned (Value.slice Option.none 0 0)) w2) (
 DoN Tryz.prog (nilS a0) w2 (fun x12 w3 =>
 Do Tryz.prog (Instr.fieldAt 36 x12 0) w3 (fun x13 w4 =>
 CallS Tryz.prog 58 #[x13, a1] w4 (retK (fun x15 w5 =>
 Do Tryz.prog (Instr.extract x15 0) w5 (fun x16 w6 =>
 Do Tryz.prog (Instr.extract x15 1) w6 (fun x17 w7 =>
 CondV x17 (
 DoN Tryz.prog (nilS a0) w7 (fun x20 w8 =>
 Do Tryz.prog (Instr.fieldAt 36 x20 0) w8 (fun x21 w9 =>
 Do Tryz.prog (Instr.fieldAt 33 x21 0) w9 (fun x22 w10 =>
 Do Tryz.prog (Instr.loadAt 30 x22) w10 (fun x23 w11 =>
 Do Tryz.prog (Instr.indexAt 30 x23 x16) w11 (fun x25 w12 =>
 Do Tryz.prog (Instr.fieldAt 83 x25 1) w12 (fun x26 w13 =>
 Do Tryz.prog (Instr.loadAt 47 x26) w13 (fun x27 w14 =>
 CallS Tryz.prog 56 #[x27] w14 (retK (fun x28 w15 =>
 R (.returned x28) w15) (pkR R))) (pkR R)) (pkR R)) (pkR R)) (pkR R)) (pkR R)) (pkR R)) (pkR R)) (
 R (.returned (Value.slice Option.none 0 0)) w7)) (pkR R)) (pkR R)) (pkR R))) (pkR R)) (pkR R))) (pkR R)) (pkR R))
theorem vc_merkle_Tree_Get {R : Ending → World → Prop} {a0 a1 : Value} {w : World} (h : V_merkle_Tree_Get R a0 a1 w) : Calls Tryz.prog 20 #[a0, a1] w R :=
  calls_of_vc (args := [a0, a1]) (fun _ => ([], [])) (fun _ => none) (fun _ => none) Tryz.func20 (bodyC_some (by kernel_rfl)) rfl (by kernel_rfl) (by kernel_rfl) (by kernel_rfl) (by kernel_rfl) (Eq.mpr (by kernel_rfl) h)

/-- (*buttress/merkle.Tree).Leaves -/
def V_merkle_Tree_Leaves (R : Ending → World → Prop) (a0 : Value) (w : World) : Prop :=
 CallS Tryz.prog 47 #[a0] w (retK (fun x7 w1 =>
 Do Tryz.prog (Op.unary .not x7) w1 (fun x8 w2 =>
 CondV x8 (
 R (.returned (Value.slice Option.none 0 0)) w2) (
 DoN Tryz.prog (nilS a0) w2 (fun x10 w3 =>
 Do Tryz.prog (Instr.fieldAt 36 x10 0) w3 (fun x11 w4 =>
 Do Tryz.prog (Instr.fieldAt 33 x11 0) w4 (fun x12 w5 =>
 Do Tryz.prog (Instr.loadAt 30 x12) w5 (fun x13 w6 =>
 DoN Tryz.prog (builtin .len #[30] 3 #[false] #[x13]) w6 (fun x14 w7 =>
 ∃ I1 : Nat → List Value → World → Prop, (∃ m, I1 m [(Value.slice Option.none 0 0), (Value.int IntKind.i64 0)] w7) ∧
 ∀ m1 (x3 : Value) (x15 : Value) (_j1 : Env) (w8 : World), I1 m1 [x3, x15] w8 →
 Do Tryz.prog (binOp .lss 3 x15 x14) w8 (fun x16 w9 =>
 CondV x16 (
 Do Tryz.prog (Instr.indexAt 30 x13 x15) w9 (fun x17 w10 =>
 Do Tryz.prog (Instr.loadAt 83 x17) w10 (fun x18 w11 =>
 Do Tryz.prog (Instr.alloc 83 true (.tuple #[])) w11 (fun x5 w12 =>
 DoU Tryz.prog (Instr.storeAt 83 x5 x18) w12 (fun w13 =>
 ∃ (E2 : World → World → Prop) (Φ2 : Nat → Value → World → Prop), Pre E2 ∧ (∀ i v w w', E2 w w' → Φ2 i v w → Φ2 i v w') ∧
 PureQ Tryz.prog (fun z => E2 w13.drew z ∧ Facts Φ2 [] z) (Instr.fieldAt 83 x5 0) (fun x20 =>
 PureQ Tryz.prog (fun z => E2 w13.drew z ∧ Facts Φ2 [] z) (Instr.loadAt 9 x20) (fun x21 =>
 PureQ Tryz.prog (fun z => E2 w13.drew z ∧ Facts Φ2 [] z) (Instr.fieldAt 83 x5 1) (fun x22 =>
 PureQ Tryz.prog (fun z => E2 w13.drew z ∧ Facts Φ2 [] z) (Instr.loadAt 47 x22) (fun x23 =>
 (∀ w14 : World, E2 w13.drew w14 → Facts Φ2 [] w14 → CallS Tryz.prog 56 #[x23] w14 (retK (fun x24 w15 =>
 E2 w14 w15 ∧ Φ2 5 x24 w15) (fun _ _ => False))) ∧ ∀ x24_1 : Value,
 PureQ Tryz.prog (fun z => E2 w13.drew z ∧ Facts Φ2 [(5, x24_1)] z) (Instr.build 83 #[(0, x21), (1, x24_1)]) (fun x25 =>
 (∀ w16 : World, E2 w13.drew w16 → Facts Φ2 [(5, x24_1)] w16 → Do Tryz.prog (Instr.buildSlice 30 1 #[(0, x25)]) w16 (fun x26 w17 =>
 E2 w16 w17 ∧ Φ2 7 x26 w17) (fun _ _ => False)) ∧ ∀ x26_1 : Value,
 ∀ w18 : World, E2 w13.drew w18 → Facts Φ2 [(7, x26_1), (5, x24_1)] w18 →
 DoN Tryz.prog (builtin .append #[30, 30] 30 #[false, false] #[x3, x26_1]) w18 (fun x27 w19 =>
 Do Tryz.prog (binOp .add 3 x15 (Value.int IntKind.i64 1)) w19 (fun x28 w20 =>
 Nxt I1 m1 [x27, x28] w20) (pkR R)) (pkR R))))))) (pkR R)) (pkR R)) (pkR R)) (pkR R)) (
 R (.returned x3) w9)) (pkR R)) (pkR R)) (pkR R)) (pkR R)) (pkR R)) (pkR R))) (pkR R)) (pkR R))
theorem vc_merkle_Tree_Leaves {R : Ending → World → Prop} {a0 : Value} {w : World} (h : V_merkle_Tree_Leaves R a0 w) : Calls Tryz.prog 25 #[a0] w R :=
  calls_of_vc (args := [a0]) (fun k => match k with | 5 => ([3, 15], [3, 5, 15, 16, 17, 18, 19, 20, 21, 22, 23, 24, 25, 26, 27, 28]) | _ => ([], [])) (fun _ => none) (fun _ => none) Tryz.func25 (bodyC_some (by kernel_rfl)) rfl (by kernel_rfl) (by kernel_rfl) (by kernel_rfl) (by kernel_rfl) (Eq.mpr (by kernel_rfl) h)

/-- (*buttress/merkle.Tree).Copy -/
def V_merkle_Tree_Copy (R : Ending → World → Prop) (a0 : Value) (w : World) : Prop :=
 CallS Tryz.prog 47 #[a0] w (retK (fun x7 w1 =>
 Do Tryz.prog (Op.unary .not x7) w1 (fun x8 w2 =>
 CondV x8 (
 R (.returned (Value.pointer Option.none)) w2) (
 DoN Tryz.prog (nilS a0) w2 (fun x10 w3 =>
 Do Tryz.prog (Instr.fieldAt 36 x10 1) w3 (fun x11 w4 =>
 Do Tryz.prog (Instr.loadAt 3 x11) w4 (fun x12 w5 =>
 CallS Tryz.prog 8 #[x12] w5 (retK (fun x13 w6 =>
 ∃ (E1 : World → World → Prop) (Φ1 : Nat → Value → World → Prop), Pre E1 ∧ (∀ i v w w', E1 w w' → Φ1 i v w → Φ1 i v w') ∧
 (∀ w7 : World, E1 w6.drew w7 → Facts Φ1 [] w7 → CallS Tryz.prog 25 #[a0] w7 (retK (fun x16 w8 =>
 E1 w7 w8 ∧ Φ1 2 x16 w8) (fun _ _ => False))) ∧ ∀ x16_1 : Value,
 PureN Tryz.prog (fun z => E1 w6.drew z ∧ Facts Φ1 [] z) (nilS a0) (fun x18 =>
 PureQ Tryz.prog (fun z => E1 w6.drew z ∧ Facts Φ1 [] z) (Instr.fieldAt 36 x18 0) (fun x19 =>
 PureQ Tryz.prog (fun z => E1 w6.drew z ∧ Facts Φ1 [] z) (Instr.fieldAt 33 x19 1) (fun x20 =>
 PureQ Tryz.prog (fun z => E1 w6.drew z ∧ Facts Φ1 [] z) (Instr.loadAt 31 x20) (fun x21 =>
 (∀ w9 : World, E1 w6.drew w9 → Facts Φ1 [(2, x16_1)] w9 → CallS Tryz.prog 61 #[x21] w9 (retK (fun x22 w10 =>
 E1 w9 w10 ∧ Φ1 8 x22 w10) (fun _ _ => False))) ∧ ∀ x22_1 : Value,
 PureQ Tryz.prog (fun z => E1 w6.drew z ∧ Facts Φ1 [(8, x22_1), (2, x16_1)] z) (Instr.build 33 #[(0, x16_1), (1, x22_1)]) (fun x23 =>
 ∀ w11 : World, E1 w6.drew w11 → Facts Φ1 [(8, x22_1), (2, x16_1)] w11 →
 DoN Tryz.prog (nilS x13) w11 (fun x24 w12 =>
 Do Tryz.prog (Instr.fieldAt 36 x24 0) w12 (fun x25 w13 =>
 DoU Tryz.prog (Instr.storeAt 33 x25 x23) w13 (fun w14 =>
 DoN Tryz.prog (nilS a0) w14 (fun x27 w15 =>
 Do Tryz.prog (Instr.fieldAt 36 x27 2) w15 (fun x28 w16 =>
 Do Tryz.prog (Instr.loadAt 34 x28) w16 (fun x29 w17 =>
 Do Tryz.prog (Instr.range 34 x29) w17 (fun x30 w18 =>
 ∃ I2 : Nat → List Value → World → Prop, (∃ m, I2 m [] w18) ∧
 ∀ m2 (_j2 : Env) (w19 : World), I2 m2 [] w19 →
 Do Tryz.prog (Instr.next x30 false 0) w19 (fun x31 w20 =>
 Do Tryz.prog (Instr.extract x31 0) w20 (fun x32 w21 =>
 CondV x32 (
 Do Tryz.prog (Instr.entry x30) w21 (fun x33 w22 =>
 Do Tryz.prog (Instr.extract x33 0) w22 (fun x34 w23 =>
 Do Tryz.prog (Instr.extract x33 1) w23 (fun x35 w24 =>
 DoN Tryz.prog (nilS x13) w24 (fun x37 w25 =>
 Do Tryz.prog (Instr.fieldAt 36 x37 2) w25 (fun x38 w26 =>
 Do Tryz.prog (Instr.loadAt 34 x38) w26 (fun x39 w27 =>
 DoU Tryz.prog (Instr.mapUpdate 34 x39 x34 x35) w27 (fun w28 =>
 Nxt I2 m2 [] w28) (pkR R)) (pkR R)) (pkR R)) (pkR R)) (pkR R)) (pkR R)) (pkR R)) (
 R (.returned x13) w21)) (pkR R)) (pkR R)) (pkR R)) (pkR R)) (pkR R)) (pkR R)) (pkR R)) (pkR R)) (pkR R))))))) (pkR R))) (pkR R)) (pkR R)) (pkR R))) (pkR R)) (pkR R))
theorem vc_merkle_Tree_Copy {R : Ending → World → Prop} {a0 : Value} {w : World} (h : V_merkle_Tree_Copy R a0 w) : Calls Tryz.prog 26 #[a0] w R :=
  calls_of_vc (args := [a0]) (fun k => match k with | 6 => ([], [4, 5, 31, 32, 33, 34, 35, 36, 37, 38, 39, 40, 41]) | _ => ([], [])) (fun _ => none) (fun _ => none) Tryz.func26 (bodyC_some (by kernel_rfl)) rfl (by kernel_rfl) (by kernel_rfl) (by kernel_rfl) (by kernel_rfl) (Eq.mpr (by kernel_rfl) h)

/-- buttress/buttresskit.SameBytes -/
def V_buttresskit_SameBytes (R : Ending → World → Prop) (a0 a1 : Value) (w : World) : Prop :=
 DoN Tryz.prog (builtin .len #[22] 3 #[false] #[a0]) w (fun x7 w1 =>
 DoN Tryz.prog (builtin .len #[22] 3 #[false] #[a1]) w1 (fun x9 w2 =>
 Do Tryz.prog ((do eqGuard .neq 3 (Operand.tmp 7) (Operand.tmp 9) x7 x9; binOp .neq 3 x7 x9 : Sem Value)) w2 (fun x10 w3 =>
 CondV x10 (
 R (.returned (Value.bool Bool.false)) w3) (
 ∃ I1 : Nat → List Value → World → Prop, (∃ m, I1 m [(Value.int IntKind.i64 0)] w3) ∧
 ∀ m1 (x5 : Value) (_j1 : Env) (w4 : World), I1 m1 [x5] w4 →
 DoN Tryz.prog (builtin .len #[22] 3 #[false] #[a0]) w4 (fun x13 w5 =>
 Do Tryz.prog (binOp .lss 3 x5 x13) w5 (fun x14 w6 =>
 CondV x14 (
 ∃ (E2 : World → World → Prop) (Φ2 : Nat → Value → World → Prop), Pre E2 ∧ (∀ i v w w', E2 w w' → Φ2 i v w → Φ2 i v w') ∧
 PureQ Tryz.prog (fun z => E2 w6.drew z ∧ Facts Φ2 [] z) (Instr.indexAt 22 a0 x5) (fun x19 =>
 PureQ Tryz.prog (fun z => E2 w6.drew z ∧ Facts Φ2 [] z) (Instr.loadAt 5 x19) (fun x20 =>
 PureQ Tryz.prog (fun z => E2 w6.drew z ∧ Facts Φ2 [] z) (Instr.indexAt 22 a1 x5) (fun x23 =>
 PureQ Tryz.prog (fun z => E2 w6.drew z ∧ Facts Φ2 [] z) (Instr.loadAt 5 x23) (fun x24 =>
 ∀ w7 : World, E2 w6.drew w7 → Facts Φ2 [] w7 →
 Do Tryz.prog ((do eqGuard .neq 5 (Operand.tmp 20) (Operand.tmp 24) x20 x24; binOp .neq 5 x20 x24 : Sem Value)) w7 (fun x25 w8 =>
 CondV x25 (
 R (.returned (Value.bool Bool.false)) w8) (
 Do Tryz.prog (binOp .add 3 x5 (Value.int IntKind.i64 1)) w8 (fun x16 w9 =>
 Nxt I1 m1 [x16] w9) (pkR R))) (pkR R)))))) (
 R (.returned (Value.bool Bool.true)) w6)) (pkR R)) (pkR R))) (pkR R)) (pkR R)) (pkR R)
theorem vc_buttresskit_SameBytes {R : Ending → World → Prop} {a0 a1 : Value} {w : World} (h : V_buttresskit_SameBytes R a0 a1 w) : Calls Tryz.prog 46 #[a0, a1] w R :=
  calls_of_vc (args := [a0, a1]) (fun k => match k with | 4 => ([5], [4, 5, 11, 12, 13, 14, 15, 16, 17, 18, 19, 20, 21, 22, 23, 24, 25]) | _ => ([], [])) (fun _ => none) (fun _ => none) Tryz.func46 (bodyC_some (by kernel_rfl)) rfl (by kernel_rfl) (by kernel_rfl) (by kernel_rfl) (by kernel_rfl) (Eq.mpr (by kernel_rfl) h)

/-- buttress/buttresskit.SameLeaves -/
def V_buttresskit_SameLeaves (R : Ending → World → Prop) (a0 a1 : Value) (w : World) : Prop :=
 DoN Tryz.prog (builtin .len #[30] 3 #[false] #[a0]) w (fun x7 w1 =>
 DoN Tryz.prog (builtin .len #[30] 3 #[false] #[a1]) w1 (fun x9 w2 =>
 Do Tryz.prog ((do eqGuard .neq 3 (Operand.tmp 7) (Operand.tmp 9) x7 x9; binOp .neq 3 x7 x9 : Sem Value)) w2 (fun x10 w3 =>
 CondV x10 (
 R (.returned (Value.bool Bool.false)) w3) (
 ∃ I1 : Nat → List Value → World → Prop, (∃ m, I1 m [(Value.int IntKind.i64 0)] w3) ∧
 ∀ m1 (x5 : Value) (_j1 : Env) (w4 : World), I1 m1 [x5] w4 →
 DoN Tryz.prog (builtin .len #[30] 3 #[false] #[a0]) w4 (fun x13 w5 =>
 Do Tryz.prog (binOp .lss 3 x5 x13) w5 (fun x14 w6 =>
 CondV x14 (
 ∃ (E2 : World → World → Prop) (Φ2 : Nat → Value → World → Prop), Pre E2 ∧ (∀ i v w w', E2 w w' → Φ2 i v w → Φ2 i v w') ∧
 PureQ Tryz.prog (fun z => E2 w6.drew z ∧ Facts Φ2 [] z) (Instr.indexAt 30 a0 x5) (fun x19 =>
 PureQ Tryz.prog (fun z => E2 w6.drew z ∧ Facts Φ2 [] z) (Instr.loadAt 83 x19) (fun x20 =>
 PureQ Tryz.prog (fun z => E2 w6.drew z ∧ Facts Φ2 [] z) (Instr.indexAt 30 a1 x5) (fun x23 =>
 PureQ Tryz.prog (fun z => E2 w6.drew z ∧ Facts Φ2 [] z) (Instr.loadAt 83 x23) (fun x24 =>
 ∀ w7 : World, E2 w6.drew w7 → Facts Φ2 [] w7 →
 CallS Tryz.prog 96 #[x20, x24] w7 (retK (fun x25 w8 =>
 Do Tryz.prog (Op.unary .not x25) w8 (fun x26 w9 =>
 CondV x26 (
 R (.returned (Value.bool Bool.false)) w9) (
 Do Tryz.prog (binOp .add 3 x5 (Value.int IntKind.i64 1)) w9 (fun x16 w10 =>
 Nxt I1 m1 [x16] w10) (pkR R))) (pkR R)) (pkR R))))))) (
 R (.returned (Value.bool Bool.true)) w6)) (pkR R)) (pkR R))) (pkR R)) (pkR R)) (pkR R)
theorem vc_buttresskit_SameLeaves {R : Ending → World → Prop} {a0 a1 : Value} {w : World} (h : V_buttresskit_SameLeaves R a0 a1 w) : Calls Tryz.prog 60 #[a0, a1] w R :=
  calls_of_vc (args := [a0, a1]) (fun k => match k with | 4 => ([5], [4, 5, 11, 12, 13, 14, 15, 16, 17, 18, 19, 20, 21, 22, 23, 24, 25, 26]) | _ => ([], [])) (fun _ => none) (fun _ => none) Tryz.func60 (bodyC_some (by kernel_rfl)) rfl (by kernel_rfl) (by kernel_rfl) (by kernel_rfl) (by kernel_rfl) (Eq.mpr (by kernel_rfl) h)

/-- buttress/buttresskit.SameNode -/
def V_buttresskit_SameNode (R : Ending → World → Prop) (a0 a1 : Value) (w : World) : Prop :=
 Do Tryz.prog (Instr.box 52 a0) w (fun x2 w1 =>
 Do Tryz.prog (Instr.box 52 a1) w1 (fun x3 w2 =>
 Do Tryz.prog (Instr.fieldAt 52 x2 0) w2 (fun x5 w3 =>
 Do Tryz.prog (Instr.loadAt 50 x5) w3 (fun x6 w4 =>
 Do Tryz.prog (Instr.fieldAt 52 x3 0) w4 (fun x7 w5 =>
 Do Tryz.prog (Instr.loadAt 50 x7) w5 (fun x8 w6 =>
 Do Tryz.prog ((do eqGuard .eql 50 (Operand.tmp 6) (Operand.tmp 8) x6 x8; binOp .eql 50 x6 x8 : Sem Value)) w6 (fun x9 w7 =>
 BoolV x9 (fun b1 =>
 SplitB b1 (
 Do Tryz.prog (Instr.fieldAt 52 x2 1) w7 (fun x11 w8 =>
 Do Tryz.prog (Instr.loadAt 22 x11) w8 (fun x12 w9 =>
 Do Tryz.prog (Instr.fieldAt 52 x3 1) w9 (fun x13 w10 =>
 Do Tryz.prog (Instr.loadAt 22 x13) w10 (fun x14 w11 =>
 CallS Tryz.prog 46 #[x12, x14] w11 (retK (fun x15 w12 =>
 BoolV x15 (fun b2 =>
 SplitB b2 (
 Do Tryz.prog (Instr.fieldAt 52 x2 2) w12 (fun x18 w13 =>
 Do Tryz.prog (Instr.loadAt 22 x18) w13 (fun x19 w14 =>
 Do Tryz.prog (Instr.fieldAt 52 x3 2) w14 (fun x20 w15 =>
 Do Tryz.prog (Instr.loadAt 22 x20) w15 (fun x21 w16 =>
 CallS Tryz.prog 46 #[x19, x21] w16 (retK (fun x22 w17 =>
 BoolV x22 (fun b3 =>
 SplitB b3 (
 Do Tryz.prog (Instr.fieldAt 52 x2 3) w17 (fun x25 w18 =>
 Do Tryz.prog (Instr.loadAt 30 x25) w18 (fun x26 w19 =>
 Do Tryz.prog (Instr.fieldAt 52 x3 3) w19 (fun x27 w20 =>
 Do Tryz.prog (Instr.loadAt 30 x27) w20 (fun x28 w21 =>
 CallS Tryz.prog 60 #[x26, x28] w21 (retK (fun x29 w22 =>
 R (.returned x29) w22) (pkR R))) (pkR R)) (pkR R)) (pkR R)) (pkR R)) (
 R (.returned (Value.bool Bool.false)) w17))) (pkR R))) (pkR R)) (pkR R)) (pkR R)) (pkR R)) (
 R (.returned (Value.bool Bool.false)) w12))) (pkR R))) (pkR R)) (pkR R)) (pkR R)) (pkR R)) (
 R (.returned (Value.bool Bool.false)) w7))) (pkR R)) (pkR R)) (pkR R)) (pkR R)) (pkR R)) (pkR R)) (pkR R)
theorem vc_buttresskit_SameNode {R : Ending → World → Prop} {a0 a1 : Value} {w : World} (h : V_buttresskit_SameNode R a0 a1 w) : Calls Tryz.prog 24 #[a0, a1] w R :=
  calls_of_vc (args := [a0, a1]) (fun _ => ([], [])) (fun _ => none) (fun _ => none) Tryz.func24 (bodyC_some (by kernel_rfl)) rfl (by kernel_rfl) (by kernel_rfl) (by kernel_rfl) (by kernel_rfl) (Eq.mpr (by kernel_rfl) h)

/-- buttress/buttresslaw12.light -/
def V_buttresslaw12_light (R : Ending → World → Prop) (a0 : Value) (w : World) : Prop :=
 ∃ J1 : List Value → World → Prop, (
 ∃ I2 : Nat → List Value → World → Prop, (∃ m, I2 m [(Value.int IntKind.i64 0), (Value.int IntKind.i64 0)] w) ∧
 ∀ m2 (x3 : Value) (x4 : Value) (_j2 : Env) (w1 : World), I2 m2 [x3, x4] w1 →
 DoN Tryz.prog (builtin .len #[30] 3 #[false] #[a0]) w1 (fun x9 w2 =>
 Do Tryz.prog (binOp .lss 3 x4 x9) w2 (fun x10 w3 =>
 BoolV x10 (fun b23 =>
 SplitB b23 (
 Do Tryz.prog (binOp .lss 3 x4 (Value.int IntKind.i64 21)) w3 (fun x13 w4 =>
 BoolV x13 (fun b24 =>
 SplitB b24 (
 Do Tryz.prog (binOp .leq 3 x3 (Value.int IntKind.i64 60)) w4 (fun x17 w5 =>
 CondV x17 (
 ∃ (E3 : World → World → Prop) (Φ3 : Nat → Value → World → Prop), Pre E3 ∧ (∀ i v w w', E3 w w' → Φ3 i v w → Φ3 i v w') ∧
 PureQ Tryz.prog (fun z => E3 w5.drew z ∧ Facts Φ3 [] z) (Instr.indexAt 30 a0 x4) (fun x24 =>
 PureQ Tryz.prog (fun z => E3 w5.drew z ∧ Facts Φ3 [] z) (Instr.fieldAt 83 x24 1) (fun x25 =>
 PureQ Tryz.prog (fun z => E3 w5.drew z ∧ Facts Φ3 [] z) (Instr.loadAt 47 x25) (fun x26 =>
 PureN Tryz.prog (fun z => E3 w5.drew z ∧ Facts Φ3 [] z) (builtin .len #[47] 3 #[false] #[x26]) (fun x27 =>
 PureN Tryz.prog (fun z => E3 w5.drew z ∧ Facts Φ3 [] z) (builtin .min #[3, 3] 3 #[false, true] #[x27, (Value.int IntKind.i64 100)]) (fun x28 =>
 PureQ Tryz.prog (fun z => E3 w5.drew z ∧ Facts Φ3 [] z) (binOp .add 3 x3 x28) (fun x29 =>
 PureQ Tryz.prog (fun z => E3 w5.drew z ∧ Facts Φ3 [] z) (Instr.indexAt 30 a0 x4) (fun x32 =>
 PureQ Tryz.prog (fun z => E3 w5.drew z ∧ Facts Φ3 [] z) (Instr.fieldAt 83 x32 0) (fun x33 =>
 PureQ Tryz.prog (fun z => E3 w5.drew z ∧ Facts Φ3 [] z) (Instr.loadAt 9 x33) (fun x34 =>
 PureN Tryz.prog (fun z => E3 w5.drew z ∧ Facts Φ3 [] z) (builtin .len #[9] 3 #[false] #[x34]) (fun x35 =>
 PureQ Tryz.prog (fun z => E3 w5.drew z ∧ Facts Φ3 [] z) (binOp .quo 3 x35 (Value.int IntKind.i64 20)) (fun x36 =>
 ∀ w6 : World, E3 w5.drew w6 → Facts Φ3 [] w6 →
 Do Tryz.prog (binOp .add 3 x29 x36) w6 (fun x37 w7 =>
 ∃ I4 : Nat → List Value → World → Prop, (∃ m, I4 m [(Value.int IntKind.i64 0)] w7) ∧
 ∀ m4 (x5 : Value) (_j4 : Env) (w8 : World), I4 m4 [x5] w8 →
 Do Tryz.prog (Instr.indexAt 30 a0 x4) w8 (fun x41 w9 =>
 Do Tryz.prog (Instr.fieldAt 83 x41 1) w9 (fun x42 w10 =>
 Do Tryz.prog (Instr.loadAt 47 x42) w10 (fun x43 w11 =>
 DoN Tryz.prog (builtin .len #[47] 3 #[false] #[x43]) w11 (fun x44 w12 =>
 Do Tryz.prog (binOp .lss 3 x5 x44) w12 (fun x45 w13 =>
 BoolV x45 (fun b34 =>
 SplitB b34 (
 Do Tryz.prog (binOp .lss 3 x5 (Value.int IntKind.i64 100)) w13 (fun x48 w14 =>
 CondV x48 (
 Do Tryz.prog (Instr.indexAt 30 a0 x4) w14 (fun x54 w15 =>
 Do Tryz.prog (Instr.fieldAt 83 x54 1) w15 (fun x55 w16 =>
 Do Tryz.prog (Instr.loadAt 47 x55) w16 (fun x56 w17 =>
 Do Tryz.prog (Instr.indexAt 47 x56 x5) w17 (fun x58 w18 =>
 Do Tryz.prog (Instr.loadAt 86 x58) w18 (fun x59 w19 =>
 Do Tryz.prog (Instr.alloc 86 true (.tuple #[])) w19 (fun x6 w20 =>
 DoU Tryz.prog (Instr.storeAt 86 x6 x59) w20 (fun w21 =>
 Do Tryz.prog (Instr.fieldAt 86 x6 0) w21 (fun x60 w22 =>
 Do Tryz.prog (Instr.loadAt 9 x60) w22 (fun x61 w23 =>
 DoN Tryz.prog (builtin .len #[9] 3 #[false] #[x61]) w23 (fun x62 w24 =>
 Do Tryz.prog (binOp .gtr 3 x62 (Value.int IntKind.i64 200)) w24 (fun x63 w25 =>
 BoolV x63 (fun b38 =>
 SplitB b38 (
 R (.returned (Value.bool Bool.false)) w25) (
 Do Tryz.prog (Instr.fieldAt 86 x6 5) w25 (fun x65 w26 =>
 Do Tryz.prog (Instr.loadAt 22 x65) w26 (fun x66 w27 =>
 DoN Tryz.prog (builtin .len #[22] 3 #[false] #[x66]) w27 (fun x67 w28 =>
 Do Tryz.prog (binOp .gtr 3 x67 (Value.int IntKind.i64 2000)) w28 (fun x68 w29 =>
 BoolV x68 (fun b39 =>
 SplitB b39 (
 R (.returned (Value.bool Bool.false)) w29) (
 Do Tryz.prog (Instr.fieldAt 86 x6 3) w29 (fun x71 w30 =>
 Do Tryz.prog (Instr.loadAt 84 x71) w30 (fun x72 w31 =>
 DoN Tryz.prog (builtin .len #[84] 3 #[false] #[x72]) w31 (fun x73 w32 =>
 Do Tryz.prog (binOp .gtr 3 x73 (Value.int IntKind.i64 50)) w32 (fun x74 w33 =>
 BoolV x74 (fun b40 =>
 SplitB b40 (
 R (.returned (Value.bool Bool.false)) w33) (
 Do Tryz.prog (Instr.fieldAt 86 x6 6) w33 (fun x77 w34 =>
 Do Tryz.prog (Instr.loadAt 22 x77) w34 (fun x78 w35 =>
 DoN Tryz.prog (builtin .len #[22] 3 #[false] #[x78]) w35 (fun x79 w36 =>
 Do Tryz.prog (binOp .gtr 3 x79 (Value.int IntKind.i64 200)) w36 (fun x80 w37 =>
 CondV x80 (
 R (.returned (Value.bool Bool.false)) w37) (
 Do Tryz.prog (binOp .add 3 x5 (Value.int IntKind.i64 1)) w37 (fun x51 w38 =>
 Nxt I4 m4 [x51] w38) (pkR R))) (pkR R)) (pkR R)) (pkR R)) (pkR R)))) (pkR R)) (pkR R)) (pkR R)) (pkR R)))) (pkR R)) (pkR R)) (pkR R)) (pkR R)))) (pkR R)) (pkR R)) (pkR R)) (pkR R)) (pkR R)) (pkR R)) (pkR R)) (pkR R)) (pkR R)) (pkR R)) (pkR R)) (
 Do Tryz.prog (binOp .add 3 x4 (Value.int IntKind.i64 1)) w14 (fun x20 w39 =>
 Nxt I2 m2 [x37, x20] w39) (pkR R))) (pkR R)) (
 Do Tryz.prog (binOp .add 3 x4 (Value.int IntKind.i64 1)) w13 (fun x20_1 w40 =>
 Nxt I2 m2 [x37, x20_1] w40) (pkR R)))) (pkR R)) (pkR R)) (pkR R)) (pkR R)) (pkR R)) (pkR R))))))))))))) (
 J1 [x3] w5)) (pkR R)) (
 J1 [x3] w4))) (pkR R)) (
 J1 [x3] w3))) (pkR R)) (pkR R)) ∧
 ∀ (x3_1 : Value) (_j1 : Env) (w41 : World), J1 [x3_1] w41 →
 DoN Tryz.prog (builtin .len #[30] 3 #[false] #[a0]) w41 (fun x83 w42 =>
 Do Tryz.prog (binOp .leq 3 x83 (Value.int IntKind.i64 20)) w42 (fun x84 w43 =>
 BoolV x84 (fun b41 =>
 SplitB b41 (
 Do Tryz.prog (binOp .leq 3 x3_1 (Value.int IntKind.i64 60)) w43 (fun x87 w44 =>
 R (.returned x87) w44) (pkR R)) (
 R (.returned (Value.bool Bool.false)) w43))) (pkR R)) (pkR R)
theorem vc_buttresslaw12_light {R : Ending → World → Prop} {a0 : Value} {w : World} (h : V_buttresslaw12_light R a0 w) : Calls Tryz.prog 17 #[a0] w R :=
  calls_of_vc (args := [a0]) (fun k => match k with | 3 => ([3, 4], [2, 3, 4, 5, 6, 7, 8, 9, 10, 11, 12, 13, 14, 15, 16, 17, 18, 19, 20, 21, 22, 23, 24, 25, 26, 27, 28, 29, 30, 31, 32, 33, 34, 35, 36, 37, 38, 39, 40, 41, 42, 43, 44, 45, 46, 47, 48, 49, 50, 51, 52, 53, 54, 55, 56, 57, 58, 59, 60, 61, 62, 63, 64, 65, 66, 67, 68, 69, 70, 71, 72, 73, 74, 75, 76, 77, 78, 79, 80, 81]) | 7 => ([5], [2, 5, 6, 38, 39, 40, 41, 42, 43, 44, 45, 46, 47, 48, 49, 50, 51, 52, 53, 54, 55, 56, 57, 58, 59, 60, 61, 62, 63, 64, 65, 66, 67, 68, 69, 70, 71, 72, 73, 74, 75, 76, 77, 78, 79, 80, 81]) | _ => ([], [])) (fun k => match k with | 12 => some ([3], [2, 3, 4, 5, 6, 7, 8, 9, 10, 11, 12, 13, 14, 15, 16, 17, 18, 19, 20, 21, 22, 23, 24, 25, 26, 27, 28, 29, 30, 31, 32, 33, 34, 35, 36, 37, 38, 39, 40, 41, 42, 43, 44, 45, 46, 47, 48, 49, 50, 51, 52, 53, 54, 55, 56, 57, 58, 59, 60, 61, 62, 63, 64, 65, 66, 67, 68, 69, 70, 71, 72, 73, 74, 75, 76, 77, 78, 79, 80, 81]) | _ => none) (fun _ => none) Tryz.func17 (bodyC_some (by kernel_rfl)) rfl (by kernel_rfl) (by kernel_rfl) (by kernel_rfl) (by kernel_rfl) (Eq.mpr (by kernel_rfl) h)

/-- buttress/buttresslaw12.awake -/
def V_buttresslaw12_awake (R : Ending → World → Prop) (w : World) : Prop :=
 CallS Tryz.prog 8 #[(Value.int IntKind.i64 0)] w (retK (fun x5 w1 =>
 CallS Tryz.prog 18 #[x5, (Value.string (ByteArray.mk #[]))] w1 (retK (fun x8 w2 =>
 Do Tryz.prog (Instr.extract x8 0) w2 (fun x9 w3 =>
 Do Tryz.prog (Instr.extract x8 1) w3 (fun x10 w4 =>
 Do Tryz.prog (Instr.alloc 52 true (.tuple #[])) w4 (fun x2 w5 =>
 DoU Tryz.prog (Instr.storeAt 52 x2 x9) w5 (fun w6 =>
 Do Tryz.prog (Instr.buildSlice 22 1 #[(0, (Value.int IntKind.u8 0))]) w6 (fun x11 w7 =>
 CallS Tryz.prog 45 #[x11] w7 (retK (fun x12 w8 =>
 Do Tryz.prog ((do eqGuard .eql 44 (Operand.tmp 13) (Operand.const (Value.int IntKind.i64 0)) x10 (Value.int IntKind.i64 0); binOp .eql 44 x10 (Value.int IntKind.i64 0) : Sem Value)) w8 (fun x14 w9 =>
 BoolV x14 (fun b1 =>
 SplitB b1 (
 Do Tryz.prog (Instr.fieldAt 52 x2 0) w9 (fun x16 w10 =>
 Do Tryz.prog (Instr.loadAt 50 x16) w10 (fun x17 w11 =>
 Do Tryz.prog ((do eqGuard .eql 50 (Operand.tmp 17) (Operand.const (Value.int IntKind.u8 1)) x17 (Value.int IntKind.u8 1); binOp .eql 50 x17 (Value.int IntKind.u8 1) : Sem Value)) w11 (fun x18 w12 =>
 BoolV x18 (fun b2 =>
 SplitB b2 (
 CallS Tryz.prog 22 #[x5] w12 (retK (fun x22 w13 =>
 CallS Tryz.prog 31 #[(Value.int IntKind.i64 0), x12] w13 (retK (fun x24 w14 =>
 CallS Tryz.prog 46 #[x22, x24] w14 (retK (fun x25 w15 =>
 BoolV x25 (fun b3 =>
 SplitB b3 (
 CallS Tryz.prog 22 #[x5] w15 (retK (fun x29 w16 =>
 DoN Tryz.prog (builtin .len #[22] 3 #[false] #[x29]) w16 (fun x30 w17 =>
 Do Tryz.prog ((do eqGuard .eql 3 (Operand.tmp 30) (Operand.const (Value.int IntKind.i64 64)) x30 (Value.int IntKind.i64 64); binOp .eql 3 x30 (Value.int IntKind.i64 64) : Sem Value)) w17 (fun x31 w18 =>
 BoolV x31 (fun b4 =>
 SplitB b4 (
 CallS Tryz.prog 23 #[x5, (Value.string (ByteArray.mk #[48, 49]))] w18 (retK (fun x35 w19 =>
 CallS Tryz.prog 46 #[x35, x12] w19 (retK (fun x37 w20 =>
 BoolV x37 (fun b5 =>
 SplitB b5 (
 CallS Tryz.prog 8 #[(Value.int IntKind.i64 4)] w20 (retK (fun x40 w21 =>
 Do Tryz.prog ((do eqGuard .eql 28 (Operand.tmp 40) (Operand.const (Value.pointer Option.none)) x40 (Value.pointer Option.none); binOp .eql 28 x40 (Value.pointer Option.none) : Sem Value)) w21 (fun x41 w22 =>
 R (.returned x41) w22) (pkR R)) (pkR R))) (
 R (.returned (Value.bool Bool.false)) w20))) (pkR R))) (pkR R))) (
 R (.returned (Value.bool Bool.false)) w18))) (pkR R)) (pkR R)) (pkR R))) (
 R (.returned (Value.bool Bool.false)) w15))) (pkR R))) (pkR R))) (pkR R))) (
 R (.returned (Value.bool Bool.false)) w12))) (pkR R)) (pkR R)) (pkR R)) (
 R (.returned (Value.bool Bool.false)) w9))) (pkR R)) (pkR R))) (pkR R)) (pkR R)) (pkR R)) (pkR R)) (pkR R)) (pkR R))) (pkR R))
theorem vc_buttresslaw12_awake {R : Ending → World → Prop} {w : World} (h : V_buttresslaw12_awake R w) : Calls Tryz.prog 16 #[] w R :=
  calls_of_vc (args := []) (fun _ => ([], [])) (fun _ => none) (fun _ => none) Tryz.func16 (bodyC_some (by kernel_rfl)) rfl (by kernel_rfl) (by kernel_rfl) (by kernel_rfl) (by kernel_rfl) (Eq.mpr (by kernel_rfl) h)

/-- buttress/buttresslaw12.MerkleNone -/
def V_buttresslaw12_MerkleNone (R : Ending → World → Prop) (a0 a1 a2 : Value) (w : World) : Prop :=
 CallS Tryz.prog 16 #[] w (retK (fun x12 w1 =>
 Do Tryz.prog (Op.unary .not x12) w1 (fun x13 w2 =>
 CondV x13 (
 R (.returned (Value.bool Bool.false)) w2) (
 CallS Tryz.prog 17 #[a0] w2 (retK (fun x15 w3 =>
 Do Tryz.prog (Op.unary .not x15) w3 (fun x16 w4 =>
 BoolV x16 (fun b2 =>
 SplitB b2 (
 R (.returned (Value.bool Bool.true)) w4) (
 DoN Tryz.prog (builtin .len #[9] 3 #[false] #[a1]) w4 (fun x19 w5 =>
 Do Tryz.prog (binOp .gtr 3 x19 (Value.int IntKind.i64 600)) w5 (fun x20 w6 =>
 CondV x20 (
 R (.returned (Value.bool Bool.true)) w6) (
 ∃ J1 : List Value → World → Prop, (
 Do Tryz.prog (binOp .lss 3 a2 (Value.int IntKind.i64 0)) w6 (fun x23 w7 =>
 BoolV x23 (fun b7 =>
 SplitB b7 (
 CallS Tryz.prog 8 #[a2] w7 (retK (fun x26 w8 =>
 Do Tryz.prog ((do eqGuard .neq 28 (Operand.tmp 26) (Operand.const (Value.pointer Option.none)) x26 (Value.pointer Option.none); binOp .neq 28 x26 (Value.pointer Option.none) : Sem Value)) w8 (fun x27 w9 =>
 BoolV x27 (fun b8 =>
 SplitB b8 (
 R (.returned (Value.bool Bool.false)) w9) (
 Do Tryz.prog (binOp .gtr 3 a2 (Value.int IntKind.i64 3)) w9 (fun x31 w10 =>
 BoolV x31 (fun b9 =>
 SplitB b9 (
 CallS Tryz.prog 8 #[a2] w10 (retK (fun x34 w11 =>
 Do Tryz.prog ((do eqGuard .neq 28 (Operand.tmp 34) (Operand.const (Value.pointer Option.none)) x34 (Value.pointer Option.none); binOp .neq 28 x34 (Value.pointer Option.none) : Sem Value)) w11 (fun x35 w12 =>
 CondV x35 (
 R (.returned (Value.bool Bool.false)) w12) (
 J1 [] w12)) (pkR R)) (pkR R))) (
 J1 [] w10))) (pkR R)))) (pkR R)) (pkR R))) (
 Do Tryz.prog (binOp .gtr 3 a2 (Value.int IntKind.i64 3)) w7 (fun x31_1 w13 =>
 BoolV x31_1 (fun b10 =>
 SplitB b10 (
 CallS Tryz.prog 8 #[a2] w13 (retK (fun x34_1 w14 =>
 Do Tryz.prog ((do eqGuard .neq 28 (Operand.tmp 34) (Operand.const (Value.pointer Option.none)) x34_1 (Value.pointer Option.none); binOp .neq 28 x34_1 (Value.pointer Option.none) : Sem Value)) w14 (fun x35_1 w15 =>
 CondV x35_1 (
 R (.returned (Value.bool Bool.false)) w15) (
 J1 [] w15)) (pkR R)) (pkR R))) (
 J1 [] w13))) (pkR R)))) (pkR R)) ∧
 ∀ (_j1 : Env) (w16 : World), J1 [] w16 →
 Do Tryz.prog (Instr.build 36 #[]) w16 (fun x38 w17 =>
 Do Tryz.prog (Instr.box 36 x38) w17 (fun x39 w18 =>
 Do Tryz.prog (Instr.buildSlice 64 2 #[(0, (Value.pointer Option.none)), (1, x39)]) w18 (fun x40 w19 =>
 ∃ I2 : Nat → List Value → World → Prop, (∃ m, I2 m [(Value.int IntKind.i64 0)] w19) ∧
 ∀ m2 (x8 : Value) (_j2 : Env) (w20 : World), I2 m2 [x8] w20 →
 Do Tryz.prog (binOp .lss 3 x8 (Value.int IntKind.i64 2)) w20 (fun x42 w21 =>
 CondV x42 (
 Do Tryz.prog (Instr.indexAt 64 x40 x8) w21 (fun x47 w22 =>
 Do Tryz.prog (Instr.loadAt 28 x47) w22 (fun x48 w23 =>
 CallS Tryz.prog 18 #[x48, a1] w23 (retK (fun x52 w24 =>
 Do Tryz.prog (Instr.extract x52 0) w24 (fun x53 w25 =>
 Do Tryz.prog (Instr.extract x52 1) w25 (fun x54 w26 =>
 Do Tryz.prog (Instr.alloc 52 true (.tuple #[])) w26 (fun x10 w27 =>
 DoU Tryz.prog (Instr.storeAt 52 x10 x53) w27 (fun w28 =>
 CallS Tryz.prog 19 #[x48, a0] w28 (retK (fun x57 w29 =>
 Do Tryz.prog ((do eqGuard .neq 44 (Operand.tmp 57) (Operand.const (Value.int IntKind.i64 1)) x57 (Value.int IntKind.i64 1); binOp .neq 44 x57 (Value.int IntKind.i64 1) : Sem Value)) w29 (fun x58 w30 =>
 BoolV x58 (fun b35 =>
 SplitB b35 (
 R (.returned (Value.bool Bool.false)) w30) (
 CallS Tryz.prog 20 #[x48, (Value.string (ByteArray.mk #[97]))] w30 (retK (fun x61 w31 =>
 DoN Tryz.prog (builtin .len #[47] 3 #[false] #[x61]) w31 (fun x62 w32 =>
 Do Tryz.prog ((do eqGuard .neq 3 (Operand.tmp 62) (Operand.const (Value.int IntKind.i64 0)) x62 (Value.int IntKind.i64 0); binOp .neq 3 x62 (Value.int IntKind.i64 0) : Sem Value)) w32 (fun x63 w33 =>
 BoolV x63 (fun b36 =>
 SplitB b36 (
 R (.returned (Value.bool Bool.false)) w33) (
 CallS Tryz.prog 21 #[x48] w33 (retK (fun x67 w34 =>
 Do Tryz.prog ((do eqGuard .neq 3 (Operand.tmp 67) (Operand.const (Value.int IntKind.i64 (-1))) x67 (Value.int IntKind.i64 (-1)); binOp .neq 3 x67 (Value.int IntKind.i64 (-1)) : Sem Value)) w34 (fun x68 w35 =>
 BoolV x68 (fun b37 =>
 SplitB b37 (
 R (.returned (Value.bool Bool.false)) w35) (
 CallS Tryz.prog 22 #[x48] w35 (retK (fun x72 w36 =>
 DoN Tryz.prog (builtin .len #[22] 3 #[false] #[x72]) w36 (fun x73 w37 =>
 Do Tryz.prog ((do eqGuard .neq 3 (Operand.tmp 73) (Operand.const (Value.int IntKind.i64 0)) x73 (Value.int IntKind.i64 0); binOp .neq 3 x73 (Value.int IntKind.i64 0) : Sem Value)) w37 (fun x74 w38 =>
 BoolV x74 (fun b38 =>
 SplitB b38 (
 R (.returned (Value.bool Bool.false)) w38) (
 CallS Tryz.prog 23 #[x48, a1] w38 (retK (fun x79 w39 =>
 DoN Tryz.prog (builtin .len #[22] 3 #[false] #[x79]) w39 (fun x80 w40 =>
 Do Tryz.prog ((do eqGuard .neq 3 (Operand.tmp 80) (Operand.const (Value.int IntKind.i64 0)) x80 (Value.int IntKind.i64 0); binOp .neq 3 x80 (Value.int IntKind.i64 0) : Sem Value)) w40 (fun x81 w41 =>
 BoolV x81 (fun b39 =>
 SplitB b39 (
 R (.returned (Value.bool Bool.false)) w41) (
 Do Tryz.prog ((do eqGuard .neq 44 (Operand.tmp 84) (Operand.const (Value.int IntKind.i64 1)) x54 (Value.int IntKind.i64 1); binOp .neq 44 x54 (Value.int IntKind.i64 1) : Sem Value)) w41 (fun x85 w42 =>
 BoolV x85 (fun b40 =>
 SplitB b40 (
 R (.returned (Value.bool Bool.false)) w42) (
 Do Tryz.prog (Instr.loadAt 52 x10) w42 (fun x88 w43 =>
 Do Tryz.prog (Instr.build 52 #[]) w43 (fun x89 w44 =>
 CallS Tryz.prog 24 #[x88, x89] w44 (retK (fun x90 w45 =>
 Do Tryz.prog (Op.unary .not x90) w45 (fun x91 w46 =>
 BoolV x91 (fun b41 =>
 SplitB b41 (
 R (.returned (Value.bool Bool.false)) w46) (
 CallS Tryz.prog 25 #[x48] w46 (retK (fun x95 w47 =>
 DoN Tryz.prog (builtin .len #[30] 3 #[false] #[x95]) w47 (fun x96 w48 =>
 Do Tryz.prog ((do eqGuard .neq 3 (Operand.tmp 96) (Operand.const (Value.int IntKind.i64 0)) x96 (Value.int IntKind.i64 0); binOp .neq 3 x96 (Value.int IntKind.i64 0) : Sem Value)) w48 (fun x97 w49 =>
 BoolV x97 (fun b42 =>
 SplitB b42 (
 R (.returned (Value.bool Bool.false)) w49) (
 CallS Tryz.prog 26 #[x48] w49 (retK (fun x101 w50 =>
 Do Tryz.prog ((do eqGuard .neq 28 (Operand.tmp 101) (Operand.const (Value.pointer Option.none)) x101 (Value.pointer Option.none); binOp .neq 28 x101 (Value.pointer Option.none) : Sem Value)) w50 (fun x102 w51 =>
 CondV x102 (
 R (.returned (Value.bool Bool.false)) w51) (
 Do Tryz.prog (binOp .add 3 x8 (Value.int IntKind.i64 1)) w51 (fun x44 w52 =>
 Nxt I2 m2 [x44] w52) (pkR R))) (pkR R)) (pkR R))))) (pkR R)) (pkR R)) (pkR R))))) (pkR R)) (pkR R))) (pkR R)) (pkR R)))) (pkR R)))) (pkR R)) (pkR R)) (pkR R))))) (pkR R)) (pkR R)) (pkR R))))) (pkR R)) (pkR R))))) (pkR R)) (pkR R)) (pkR R))))) (pkR R)) (pkR R))) (pkR R)) (pkR R)) (pkR R)) (pkR R)) (pkR R))) (pkR R)) (pkR R)) (
 R (.returned (Value.bool Bool.true)) w21)) (pkR R)) (pkR R)) (pkR R)) (pkR R))) (pkR R)) (pkR R)))) (pkR R)) (pkR R)))) (pkR R)) (pkR R))
theorem vc_buttresslaw12_MerkleNone {R : Ending → World → Prop} {a0 a1 a2 : Value} {w : World} (h : V_buttresslaw12_MerkleNone R a0 a1 a2 w) : Calls Tryz.prog 5 #[a0, a1, a2] w R :=
  calls_of_vc (args := [a0, a1, a2]) (fun k => match k with | 9 => ([8], [6, 8, 9, 10, 11, 41, 42, 43, 44, 45, 46, 47, 48, 49, 50, 51, 52, 53, 54, 55, 56, 57, 58, 59, 60, 61, 62, 63, 64, 65, 66, 67, 68, 69, 70, 71, 72, 73, 74, 75, 76, 77, 78, 79, 80, 81, 82, 83, 84, 85, 86, 87, 88, 89, 90, 91, 92, 93, 94, 95, 96, 97, 98, 99, 100, 101, 102, 103]) | _ => ([], [])) (fun k => match k with | 7 => some ([], [6, 22, 23, 24, 25, 26, 27, 28, 29, 30, 31, 32, 33, 34, 35, 36, 37]) | _ => none) (fun _ => none) Tryz.func5 (bodyC_some (by kernel_rfl)) rfl (by kernel_rfl) (by kernel_rfl) (by kernel_rfl) (by kernel_rfl) (Eq.mpr (by kernel_rfl) h)

end Go.Proofs.YtpdceilhgaladaaGreatDoor
