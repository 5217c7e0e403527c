/- PRINTED BY gen.py (a program of this claim): what each function comes to, operation by operation. -/
import Derived.Test.YtpdceilhgaladaaGreatDoorProg
import Derived.Test.YtpdceilhgaladaaGreatDoorRng
import Derived.KernelRfl
set_option maxRecDepth 100000
namespace Go.Proofs.YtpdceilhgaladaaGreatDoor
open Go.Vc

/-- buttress/proof.long -/
def V_proof_long (R : Ending → World → Prop) (a0 : Value) (w : World) : Prop :=
 DoN Tryz.prog (builtin .len #[9] 3 #[false] #[a0]) w (fun x4 w1 =>
 Do Tryz.prog (binOp .geq 3 x4 (Value.int IntKind.i64 1)) w1 (fun x5 w2 =>
 BoolV x5 (fun b1 =>
 SplitB b1 (
 DoN Tryz.prog (builtin .len #[9] 3 #[false] #[a0]) w2 (fun x8 w3 =>
 Do Tryz.prog (binOp .leq 3 x8 (Value.int IntKind.i64 64)) w3 (fun x9 w4 =>
 R (.returned x9) w4) (pkR R)) (pkR R)) (
 R (.returned (Value.bool Bool.false)) w2))) (pkR R)) (pkR R)
theorem vc_proof_long {R : Ending → World → Prop} {a0 : Value} {w : World} (h : V_proof_long R a0 w) : Calls Tryz.prog 41 #[a0] w R :=
  calls_of_vc (args := [a0]) (fun _ => ([], [])) (fun _ => none) (fun _ => none) Tryz.func41 (bodyC_some (by kernel_rfl)) rfl (by kernel_rfl) (by kernel_rfl) (by kernel_rfl) (by kernel_rfl) (Eq.mpr (by kernel_rfl) h)

/-- buttress/proof.Make -/
def V_proof_Make (R : Ending → World → Prop) (a0 a1 : Value) (w : World) : Prop :=
 Do Tryz.prog (Instr.alloc 58 true (.tuple #[])) w (fun x4 w1 =>
 CallS Tryz.prog 18 #[a0, (Value.string (ByteArray.mk #[]))] w1 (retK (fun x16 w2 =>
 Do Tryz.prog (Instr.extract x16 0) w2 (fun x17 w3 =>
 Do Tryz.prog (Instr.extract x16 1) w3 (fun x18 w4 =>
 Do Tryz.prog (Instr.alloc 52 true (.tuple #[])) w4 (fun x6 w5 =>
 DoU Tryz.prog (Instr.storeAt 52 x6 x17) w5 (fun w6 =>
 ∃ J1 : List Value → World → Prop, (
 Do Tryz.prog ((do eqGuard .neq 44 (Operand.tmp 20) (Operand.const (Value.int IntKind.i64 0)) x18 (Value.int IntKind.i64 0); binOp .neq 44 x18 (Value.int IntKind.i64 0) : Sem Value)) w6 (fun x21 w7 =>
 CondV x21 (
 Do Tryz.prog (Instr.build 58 #[]) w7 (fun x22 w8 =>
 DoU Tryz.prog (Instr.storeAt 58 x4 x22) w8 (fun w9 =>
 ResV Tryz.prog [(.inr (x4, 58)), (.inl x18)] w9 R) (pkR R)) (pkR R)) (
 CallS Tryz.prog 41 #[a1] w7 (retK (fun x26 w10 =>
 Do Tryz.prog (Op.unary .not x26) w10 (fun x27 w11 =>
 CondV x27 (
 CondV x27 (
 Do Tryz.prog (Instr.build 58 #[]) w11 (fun x33 w12 =>
 DoU Tryz.prog (Instr.storeAt 58 x4 x33) w12 (fun w13 =>
 ResV Tryz.prog [(.inr (x4, 58)), (.inl (Value.int IntKind.i64 22))] w13 R) (pkR R)) (pkR R)) (
 J1 [] w11)) (
 CallS Tryz.prog 15 #[a1] w11 (retK (fun x29 w14 =>
 CallS Tryz.prog 21 #[a0] w14 (retK (fun x31 w15 =>
 Do Tryz.prog ((do eqGuard .neq 3 (Operand.tmp 29) (Operand.tmp 31) x29 x31; binOp .neq 3 x29 x31 : Sem Value)) w15 (fun x32 w16 =>
 CondV x32 (
 Do Tryz.prog (Instr.build 58 #[]) w16 (fun x33_1 w17 =>
 DoU Tryz.prog (Instr.storeAt 58 x4 x33_1) w17 (fun w18 =>
 ResV Tryz.prog [(.inr (x4, 58)), (.inl (Value.int IntKind.i64 22))] w18 R) (pkR R)) (pkR R)) (
 J1 [] w16)) (pkR R)) (pkR R))) (pkR R)))) (pkR R)) (pkR R)))) (pkR R)) ∧
 ∀ (_j1 : Env) (w19 : World), J1 [] w19 →
 Do Tryz.prog (Instr.alloc 58 true (.tuple #[])) w19 (fun x8 w20 =>
 CallS Tryz.prog 42 #[a1] w20 (retK (fun x35 w21 =>
 ∃ I2 : Nat → List Value → World → Prop, (∃ m, I2 m [] w21) ∧
 ∀ m2 (_j2 : Env) (w22 : World), I2 m2 [] w22 →
 Do Tryz.prog (Instr.fieldAt 52 x6 0) w22 (fun x36 w23 =>
 Do Tryz.prog (Instr.loadAt 50 x36) w23 (fun x37 w24 =>
 Do Tryz.prog ((do eqGuard .eql 50 (Operand.tmp 37) (Operand.const (Value.int IntKind.u8 3)) x37 (Value.int IntKind.u8 3); binOp .eql 50 x37 (Value.int IntKind.u8 3) : Sem Value)) w24 (fun x38 w25 =>
 CondV x38 (
 Do Tryz.prog (Instr.fieldAt 58 x8 0) w25 (fun x39 w26 =>
 Do Tryz.prog (Instr.loadAt 55 x39) w26 (fun x40 w27 =>
 DoN Tryz.prog (builtin .len #[55] 3 #[false] #[x40]) w27 (fun x41 w28 =>
 Do Tryz.prog (Instr.fieldAt 52 x6 2) w28 (fun x42 w29 =>
 Do Tryz.prog (Instr.loadAt 22 x42) w29 (fun x43 w30 =>
 Do Tryz.prog (Instr.fieldAt 52 x6 1) w30 (fun x44 w31 =>
 Do Tryz.prog (Instr.loadAt 22 x44) w31 (fun x45 w32 =>
 Do Tryz.prog (Instr.buildSlice 55 2 #[(0, x43), (1, x45)]) w32 (fun x46 w33 =>
 ∃ (E3 : World → World → Prop) (Φ3 : Nat → Value → World → Prop), Pre E3 ∧ (∀ i v w w', E3 w w' → Φ3 i v w → Φ3 i v w') ∧
 PureQ Tryz.prog (fun z => E3 w33.drew z ∧ Facts Φ3 [] z) (Instr.fieldAt 58 x8 0) (fun x47 =>
 PureQ Tryz.prog (fun z => E3 w33.drew z ∧ Facts Φ3 [] z) (Instr.loadAt 55 x47) (fun x48 =>
 PureQ Tryz.prog (fun z => E3 w33.drew z ∧ Facts Φ3 [] z) (Instr.index 9 x35 x41) (fun x52 =>
 PureQ Tryz.prog (fun z => E3 w33.drew z ∧ Facts Φ3 [] z) (binOp .sub 5 x52 (Value.int IntKind.u8 48)) (fun x53 =>
 PureQ Tryz.prog (fun z => E3 w33.drew z ∧ Facts Φ3 [] z) (Instr.indexAt 55 x46 x53) (fun x54 =>
 PureQ Tryz.prog (fun z => E3 w33.drew z ∧ Facts Φ3 [] z) (Instr.loadAt 22 x54) (fun x55 =>
 (∀ w34 : World, E3 w33.drew w34 → Facts Φ3 [] w34 → Do Tryz.prog (Instr.buildSlice 55 1 #[(0, x55)]) w34 (fun x56 w35 =>
 E3 w34 w35 ∧ Φ3 9 x56 w35) (fun _ _ => False)) ∧ ∀ x56_1 : Value,
 ∀ w36 : World, E3 w33.drew w36 → Facts Φ3 [(9, x56_1)] w36 →
 DoN Tryz.prog (builtin .append #[55, 55] 55 #[false, false] #[x48, x56_1]) w36 (fun x57 w37 =>
 Do Tryz.prog (Instr.fieldAt 58 x8 0) w37 (fun x58 w38 =>
 DoU Tryz.prog (Instr.storeAt 55 x58 x57) w38 (fun w39 =>
 Do Tryz.prog (binOp .add 3 x41 (Value.int IntKind.i64 1)) w39 (fun x63 w40 =>
 Do Tryz.prog (Instr.sliceAt 9 x35 none (some x63) none) w40 (fun x64 w41 =>
 CallS Tryz.prog 18 #[a0, x64] w41 (retK (fun x65 w42 =>
 Do Tryz.prog (Instr.extract x65 0) w42 (fun x66 w43 =>
 Do Tryz.prog (Instr.extract x65 1) w43 (fun _x67 w44 =>
 DoU Tryz.prog (Instr.storeAt 52 x6 x66) w44 (fun w45 =>
 Nxt I2 m2 [] w45) (pkR R)) (pkR R)) (pkR R)) (pkR R))) (pkR R)) (pkR R)) (pkR R)) (pkR R)) (pkR R)))))))) (pkR R)) (pkR R)) (pkR R)) (pkR R)) (pkR R)) (pkR R)) (pkR R)) (pkR R)) (
 Do Tryz.prog (Instr.fieldAt 52 x6 3) w25 (fun x68 w46 =>
 Do Tryz.prog (Instr.loadAt 30 x68) w46 (fun x69 w47 =>
 DoN Tryz.prog (builtin .len #[30] 3 #[false] #[x69]) w47 (fun x70 w48 =>
 ∃ I4 : Nat → List Value → World → Prop, (∃ m, I4 m [(Value.int IntKind.i64 0)] w48) ∧
 ∀ m4 (x71 : Value) (_j4 : Env) (w49 : World), I4 m4 [x71] w49 →
 Do Tryz.prog (binOp .lss 3 x71 x70) w49 (fun x72 w50 =>
 CondV x72 (
 Do Tryz.prog (Instr.indexAt 30 x69 x71) w50 (fun x73 w51 =>
 Do Tryz.prog (Instr.loadAt 83 x73) w51 (fun x74 w52 =>
 Do Tryz.prog (Instr.alloc 83 true (.tuple #[])) w52 (fun x13 w53 =>
 DoU Tryz.prog (Instr.storeAt 83 x13 x74) w53 (fun w54 =>
 ∃ (E5 : World → World → Prop) (Φ5 : Nat → Value → World → Prop), Pre E5 ∧ (∀ i v w w', E5 w w' → Φ5 i v w → Φ5 i v w') ∧
 PureQ Tryz.prog (fun z => E5 w54.drew z ∧ Facts Φ5 [] z) (Instr.fieldAt 58 x8 1) (fun x75 =>
 PureQ Tryz.prog (fun z => E5 w54.drew z ∧ Facts Φ5 [] z) (Instr.loadAt 56 x75) (fun x76 =>
 PureQ Tryz.prog (fun z => E5 w54.drew z ∧ Facts Φ5 [] z) (Instr.fieldAt 83 x13 0) (fun x77 =>
 PureQ Tryz.prog (fun z => E5 w54.drew z ∧ Facts Φ5 [] z) (Instr.loadAt 9 x77) (fun x78 =>
 PureQ Tryz.prog (fun z => E5 w54.drew z ∧ Facts Φ5 [] z) (Instr.fieldAt 83 x13 1) (fun x79 =>
 PureQ Tryz.prog (fun z => E5 w54.drew z ∧ Facts Φ5 [] z) (Instr.loadAt 47 x79) (fun x80 =>
 (∀ w55 : World, E5 w54.drew w55 → Facts Φ5 [] w55 → CallS Tryz.prog 43 #[x80] w55 (retK (fun x81 w56 =>
 E5 w55 w56 ∧ Φ5 6 x81 w56) (fun _ _ => False))) ∧ ∀ x81_1 : Value,
 PureQ Tryz.prog (fun z => E5 w54.drew z ∧ Facts Φ5 [(6, x81_1)] z) (Instr.build 100 #[(0, x78), (1, x81_1)]) (fun x82 =>
 (∀ w57 : World, E5 w54.drew w57 → Facts Φ5 [(6, x81_1)] w57 → Do Tryz.prog (Instr.buildSlice 56 1 #[(0, x82)]) w57 (fun x83 w58 =>
 E5 w57 w58 ∧ Φ5 8 x83 w58) (fun _ _ => False)) ∧ ∀ x83_1 : Value,
 ∀ w59 : World, E5 w54.drew w59 → Facts Φ5 [(8, x83_1), (6, x81_1)] w59 →
 DoN Tryz.prog (builtin .append #[56, 56] 56 #[false, false] #[x76, x83_1]) w59 (fun x84 w60 =>
 Do Tryz.prog (Instr.fieldAt 58 x8 1) w60 (fun x85 w61 =>
 DoU Tryz.prog (Instr.storeAt 56 x85 x84) w61 (fun w62 =>
 Do Tryz.prog (binOp .add 3 x71 (Value.int IntKind.i64 1)) w62 (fun x86 w63 =>
 Nxt I4 m4 [x86] w63) (pkR R)) (pkR R)) (pkR R)) (pkR R))))))))) (pkR R)) (pkR R)) (pkR R)) (pkR R)) (
 Do Tryz.prog (Instr.loadAt 58 x8) w50 (fun x87 w64 =>
 DoU Tryz.prog (Instr.storeAt 58 x4 x87) w64 (fun w65 =>
 ResV Tryz.prog [(.inr (x4, 58)), (.inl (Value.int IntKind.i64 0))] w65 R) (pkR R)) (pkR R))) (pkR R)) (pkR R)) (pkR R)) (pkR R))) (pkR R)) (pkR R)) (pkR R)) (pkR R))) (pkR R)) (pkR R)) (pkR R)) (pkR R)) (pkR R)) (pkR R))) (pkR R)
theorem vc_proof_Make {R : Ending → World → Prop} {a0 a1 : Value} {w : World} (h : V_proof_Make R a0 a1 w) : Calls Tryz.prog 14 #[a0, a1] w R :=
  calls_of_vc (args := [a0, a1]) (fun k => match k with | 9 => ([], [10, 11, 36, 37, 38, 39, 40, 41, 42, 43, 44, 45, 46, 47, 48, 49, 50, 51, 52, 53, 54, 55, 56, 57, 58, 59, 60, 61, 62, 63, 64, 65, 66, 67]) | 15 => ([71], [13, 71, 72, 73, 74, 75, 76, 77, 78, 79, 80, 81, 82, 83, 84, 85, 86]) | _ => ([], [])) (fun k => match k with | 7 => some ([], [5, 19, 20, 21, 22, 23, 24, 25, 26, 27, 28, 29, 30, 31, 32, 33]) | _ => none) (fun _ => none) Tryz.func14 (bodyC_some (by kernel_rfl)) rfl (by kernel_rfl) (by kernel_rfl) (by kernel_rfl) (by kernel_rfl) (Eq.mpr (by kernel_rfl) h)

/-- buttress/proof.Right -/
def V_proof_Right (R : Ending → World → Prop) (a0 : Value) (w : World) : Prop :=
 Do Tryz.prog (Instr.box 58 a0) w (fun x1 w1 =>
 ∃ J1 : List Value → World → Prop, (
 Do Tryz.prog (Instr.fieldAt 58 x1 0) w1 (fun x5 w2 =>
 Do Tryz.prog (Instr.loadAt 55 x5) w2 (fun x6 w3 =>
 DoN Tryz.prog (builtin .len #[55] 3 #[false] #[x6]) w3 (fun x7 w4 =>
 Do Tryz.prog (binOp .gtr 3 x7 (Value.int IntKind.i64 510)) w4 (fun x8 w5 =>
 BoolV x8 (fun b3 =>
 SplitB b3 (
 R (.returned (Value.bool Bool.false)) w5) (
 Do Tryz.prog (Instr.fieldAt 58 x1 1) w5 (fun x10 w6 =>
 Do Tryz.prog (Instr.loadAt 56 x10) w6 (fun x11 w7 =>
 DoN Tryz.prog (builtin .len #[56] 3 #[false] #[x11]) w7 (fun x12 w8 =>
 Do Tryz.prog (binOp .gtr 3 x12 (Value.int IntKind.i64 1)) w8 (fun x13 w9 =>
 BoolV x13 (fun b4 =>
 SplitB b4 (
 Do Tryz.prog (Instr.fieldAt 58 x1 0) w9 (fun x15 w10 =>
 Do Tryz.prog (Instr.loadAt 55 x15) w10 (fun x16 w11 =>
 DoN Tryz.prog (builtin .len #[55] 3 #[false] #[x16]) w11 (fun x17 w12 =>
 Do Tryz.prog ((do eqGuard .neq 3 (Operand.tmp 17) (Operand.const (Value.int IntKind.i64 510)) x17 (Value.int IntKind.i64 510); binOp .neq 3 x17 (Value.int IntKind.i64 510) : Sem Value)) w12 (fun x18 w13 =>
 CondV x18 (
 R (.returned (Value.bool Bool.false)) w13) (
 J1 [] w13)) (pkR R)) (pkR R)) (pkR R)) (pkR R)) (
 J1 [] w9))) (pkR R)) (pkR R)) (pkR R)) (pkR R)))) (pkR R)) (pkR R)) (pkR R)) (pkR R)) ∧
 ∀ (_j1 : Env) (w14 : World), J1 [] w14 →
 Do Tryz.prog (Instr.fieldAt 58 x1 1) w14 (fun x21 w15 =>
 Do Tryz.prog (Instr.loadAt 56 x21) w15 (fun x22 w16 =>
 DoN Tryz.prog (builtin .len #[56] 3 #[false] #[x22]) w16 (fun x23 w17 =>
 ∃ I2 : Nat → List Value → World → Prop, (∃ m, I2 m [(Value.int IntKind.i64 0)] w17) ∧
 ∀ m2 (x24 : Value) (_j2 : Env) (w18 : World), I2 m2 [x24] w18 →
 Do Tryz.prog (binOp .lss 3 x24 x23) w18 (fun x25 w19 =>
 CondV x25 (
 Do Tryz.prog (Instr.indexAt 56 x22 x24) w19 (fun x27 w20 =>
 Do Tryz.prog (Instr.loadAt 100 x27) w20 (fun x28 w21 =>
 Do Tryz.prog (Instr.alloc 100 true (.tuple #[])) w21 (fun x4 w22 =>
 DoU Tryz.prog (Instr.storeAt 100 x4 x28) w22 (fun w23 =>
 ∃ (E3 : World → World → Prop) (Φ3 : Nat → Value → World → Prop), Pre E3 ∧ (∀ i v w w', E3 w w' → Φ3 i v w → Φ3 i v w') ∧
 PureQ Tryz.prog (fun z => E3 w23.drew z ∧ Facts Φ3 [] z) (Instr.fieldAt 100 x4 0) (fun x29 =>
 PureQ Tryz.prog (fun z => E3 w23.drew z ∧ Facts Φ3 [] z) (Instr.loadAt 9 x29) (fun x30 =>
 (∀ w24 : World, E3 w23.drew w24 → Facts Φ3 [] w24 → CallS Tryz.prog 41 #[x30] w24 (retK (fun x31 w25 =>
 E3 w24 w25 ∧ Φ3 2 x31 w25) (fun _ _ => False))) ∧ ∀ x31_1 : Value,
 PureQ Tryz.prog (fun z => E3 w23.drew z ∧ Facts Φ3 [(2, x31_1)] z) (Op.unary .not x31_1) (fun x32 =>
 BoolV x32 (fun b14 =>
 SplitB b14 (
 ∀ w26 : World, E3 w23.drew w26 → Facts Φ3 [(2, x31_1)] w26 →
 R (.returned (Value.bool Bool.false)) w26) (
 PureQ Tryz.prog (fun z => E3 w23.drew z ∧ Facts Φ3 [(2, x31_1)] z) (Instr.fieldAt 100 x4 1) (fun x34 =>
 PureQ Tryz.prog (fun z => E3 w23.drew z ∧ Facts Φ3 [(2, x31_1)] z) (Instr.loadAt 22 x34) (fun x35 =>
 PureN Tryz.prog (fun z => E3 w23.drew z ∧ Facts Φ3 [(2, x31_1)] z) (builtin .len #[22] 3 #[false] #[x35]) (fun x36 =>
 PureQ Tryz.prog (fun z => E3 w23.drew z ∧ Facts Φ3 [(2, x31_1)] z) ((do eqGuard .neq 3 (Operand.tmp 36) (Operand.const (Value.int IntKind.i64 64)) x36 (Value.int IntKind.i64 64); binOp .neq 3 x36 (Value.int IntKind.i64 64) : Sem Value)) (fun x37 =>
 BoolV x37 (fun b15 =>
 SplitB b15 (
 ∀ w27 : World, E3 w23.drew w27 → Facts Φ3 [(2, x31_1)] w27 →
 R (.returned (Value.bool Bool.false)) w27) (
 PureQ Tryz.prog (fun z => E3 w23.drew z ∧ Facts Φ3 [(2, x31_1)] z) (binOp .gtr 3 x24 (Value.int IntKind.i64 0)) (fun x41 =>
 BoolV x41 (fun b16 =>
 SplitB b16 (
 PureQ Tryz.prog (fun z => E3 w23.drew z ∧ Facts Φ3 [(2, x31_1)] z) (Instr.fieldAt 58 x1 1) (fun x43 =>
 PureQ Tryz.prog (fun z => E3 w23.drew z ∧ Facts Φ3 [(2, x31_1)] z) (Instr.loadAt 56 x43) (fun x44 =>
 PureQ Tryz.prog (fun z => E3 w23.drew z ∧ Facts Φ3 [(2, x31_1)] z) (binOp .sub 3 x24 (Value.int IntKind.i64 1)) (fun x46 =>
 PureQ Tryz.prog (fun z => E3 w23.drew z ∧ Facts Φ3 [(2, x31_1)] z) (Instr.indexAt 56 x44 x46) (fun x47 =>
 PureQ Tryz.prog (fun z => E3 w23.drew z ∧ Facts Φ3 [(2, x31_1)] z) (Instr.fieldAt 100 x47 0) (fun x48 =>
 PureQ Tryz.prog (fun z => E3 w23.drew z ∧ Facts Φ3 [(2, x31_1)] z) (Instr.loadAt 9 x48) (fun x49 =>
 PureQ Tryz.prog (fun z => E3 w23.drew z ∧ Facts Φ3 [(2, x31_1)] z) (Instr.fieldAt 100 x4 0) (fun x50 =>
 PureQ Tryz.prog (fun z => E3 w23.drew z ∧ Facts Φ3 [(2, x31_1)] z) (Instr.loadAt 9 x50) (fun x51 =>
 ∀ w28 : World, E3 w23.drew w28 → Facts Φ3 [(2, x31_1)] w28 →
 Do Tryz.prog (binOp .geq 9 x49 x51) w28 (fun x52 w29 =>
 CondV x52 (
 R (.returned (Value.bool Bool.false)) w29) (
 Do Tryz.prog (binOp .add 3 x24 (Value.int IntKind.i64 1)) w29 (fun x55 w30 =>
 Nxt I2 m2 [x55] w30) (pkR R))) (pkR R)))))))))) (
 ∀ w31 : World, E3 w23.drew w31 → Facts Φ3 [(2, x31_1)] w31 →
 Do Tryz.prog (binOp .add 3 x24 (Value.int IntKind.i64 1)) w31 (fun x55_1 w32 =>
 Nxt I2 m2 [x55_1] w32) (pkR R)))))))))))))))) (pkR R)) (pkR R)) (pkR R)) (pkR R)) (
 Do Tryz.prog (Instr.fieldAt 58 x1 0) w19 (fun x56 w33 =>
 Do Tryz.prog (Instr.loadAt 55 x56) w33 (fun x57 w34 =>
 CallS Tryz.prog 72 #[x57, (Value.func (.func 73) #[] #[])] w34 (retK (fun x58 w35 =>
 Do Tryz.prog (Op.unary .not x58) w35 (fun x59 w36 =>
 R (.returned x59) w36) (pkR R)) (pkR R))) (pkR R)) (pkR R))) (pkR R)) (pkR R)) (pkR R)) (pkR R)) (pkR R)
theorem vc_proof_Right {R : Ending → World → Prop} {a0 : Value} {w : World} (h : V_proof_Right R a0 w) : Calls Tryz.prog 38 #[a0] w R :=
  calls_of_vc (args := [a0]) (fun k => match k with | 4 => ([24], [2, 3, 4, 24, 25, 26, 27, 28, 29, 30, 31, 32, 33, 34, 35, 36, 37, 38, 39, 40, 41, 42, 43, 44, 45, 46, 47, 48, 49, 50, 51, 52, 53, 54, 55]) | _ => ([], [])) (fun k => match k with | 3 => some ([], [2, 5, 6, 7, 8, 9, 10, 11, 12, 13, 14, 15, 16, 17, 18, 19, 20]) | _ => none) (fun _ => none) Tryz.func38 (bodyC_some (by kernel_rfl)) rfl (by kernel_rfl) (by kernel_rfl) (by kernel_rfl) (by kernel_rfl) (Eq.mpr (by kernel_rfl) h)

/-- buttress/proof.begin -/
def V_proof_begin (R : Ending → World → Prop) (a0 a1 a2 : Value) (w : World) : Prop :=
 Do Tryz.prog (Instr.box 3 a0) w (fun x3 w1 =>
 Do Tryz.prog (Instr.box 58 a2) w1 (fun x5 w2 =>
 ∃ (E1 : World → World → Prop) (Φ1 : Nat → Value → World → Prop), Pre E1 ∧ (∀ i v w w', E1 w w' → Φ1 i v w → Φ1 i v w') ∧
 PureQ Tryz.prog (fun z => E1 w2.drew z ∧ Facts Φ1 [] z) (Instr.loadAt 58 x5) (fun x9 =>
 (∀ w3 : World, E1 w2.drew w3 → Facts Φ1 [] w3 → CallS Tryz.prog 38 #[x9] w3 (retK (fun x10 w4 =>
 E1 w3 w4 ∧ Φ1 1 x10 w4) (fun _ _ => False))) ∧ ∀ x10_1 : Value,
 PureQ Tryz.prog (fun z => E1 w2.drew z ∧ Facts Φ1 [(1, x10_1)] z) (Op.unary .not x10_1) (fun x11 =>
 BoolV x11 (fun b3 =>
 SplitB b3 (
 ∀ w5 : World, E1 w2.drew w5 → Facts Φ1 [(1, x10_1)] w5 →
 R (.returned (.tuple #[(Value.pointer Option.none), (Value.bool Bool.false)])) w5) (
 (∀ w6 : World, E1 w2.drew w6 → Facts Φ1 [(1, x10_1)] w6 → CallS Tryz.prog 41 #[a1] w6 (retK (fun x14 w7 =>
 E1 w6 w7 ∧ Φ1 5 x14 w7) (fun _ _ => False))) ∧ ∀ x14_1 : Value,
 PureQ Tryz.prog (fun z => E1 w2.drew z ∧ Facts Φ1 [(5, x14_1), (1, x10_1)] z) (Op.unary .not x14_1) (fun x15 =>
 BoolV x15 (fun b4 =>
 SplitB b4 (
 ∀ w8 : World, E1 w2.drew w8 → Facts Φ1 [(5, x14_1), (1, x10_1)] w8 →
 R (.returned (.tuple #[(Value.pointer Option.none), (Value.bool Bool.false)])) w8) (
 (∀ w9 : World, E1 w2.drew w9 → Facts Φ1 [(5, x14_1), (1, x10_1)] w9 → CallS Tryz.prog 15 #[a1] w9 (retK (fun x19 w10 =>
 E1 w9 w10 ∧ Φ1 10 x19 w10) (fun _ _ => False))) ∧ ∀ x19_1 : Value,
 PureQ Tryz.prog (fun z => E1 w2.drew z ∧ Facts Φ1 [(5, x14_1), (1, x10_1)] z) (Instr.loadAt 3 x3) (fun x20 =>
 ∀ w11 : World, E1 w2.drew w11 → Facts Φ1 [(10, x19_1), (5, x14_1), (1, x10_1)] w11 →
 Do Tryz.prog ((do eqGuard .neq 3 (Operand.tmp 19) (Operand.tmp 20) x19_1 x20; binOp .neq 3 x19_1 x20 : Sem Value)) w11 (fun x21 w12 =>
 CondV x21 (
 R (.returned (.tuple #[(Value.pointer Option.none), (Value.bool Bool.false)])) w12) (
 ∃ (E2 : World → World → Prop) (Φ2 : Nat → Value → World → Prop), Pre E2 ∧ (∀ i v w w', E2 w w' → Φ2 i v w → Φ2 i v w') ∧
 PureQ Tryz.prog (fun z => E2 w12.drew z ∧ Facts Φ2 [] z) (Instr.loadAt 58 x5) (fun x23 =>
 PureQ Tryz.prog (fun z => E2 w12.drew z ∧ Facts Φ2 [] z) (Instr.loadAt 3 x3) (fun x24 =>
 (∀ w13 : World, E2 w12.drew w13 → Facts Φ2 [] w13 → CallS Tryz.prog 42 #[a1] w13 (retK (fun x26 w14 =>
 E2 w13 w14 ∧ Φ2 3 x26 w14) (fun _ _ => False))) ∧ ∀ x26_1 : Value,
 PureQ Tryz.prog (fun z => E2 w12.drew z ∧ Facts Φ2 [(3, x26_1)] z) (Instr.build 168 #[(0, x23), (1, x24), (2, x26_1)]) (fun x27 =>
 (∀ w15 : World, E2 w12.drew w15 → Facts Φ2 [(3, x26_1)] w15 → Do Tryz.prog (Instr.box 168 x27) w15 (fun x28 w16 =>
 E2 w15 w16 ∧ Φ2 5 x28 w16) (fun _ _ => False)) ∧ ∀ x28_1 : Value,
 (∀ w17 : World, E2 w12.drew w17 → Facts Φ2 [] w17 → Do Tryz.prog (Instr.alloc 128 true (.tuple #[])) w17 (fun x8 w18 =>
 E2 w17 w18 ∧ Φ2 6 x8 w18) (fun _ _ => False)) ∧ ∀ x8_1 : Value,
 ∀ w19 : World, E2 w12.drew w19 → Facts Φ2 [(6, x8_1), (5, x28_1), (3, x26_1)] w19 →
 DoU Tryz.prog (Instr.storeAt 128 x8_1 x28_1) w19 (fun w20 =>
 ∃ (E3 : World → World → Prop) (Φ3 : Nat → Value → World → Prop), Pre E3 ∧ (∀ i v w w', E3 w w' → Φ3 i v w → Φ3 i v w') ∧
 PureQ Tryz.prog (fun z => E3 w20.drew z ∧ Facts Φ3 [] z) (Instr.loadAt 128 x8_1) (fun x29 =>
 PureQ Tryz.prog (fun z => E3 w20.drew z ∧ Facts Φ3 [] z) (Instr.fieldAt 58 x5 1) (fun x30 =>
 PureQ Tryz.prog (fun z => E3 w20.drew z ∧ Facts Φ3 [] z) (Instr.loadAt 56 x30) (fun x31 =>
 PureQ Tryz.prog (fun z => E3 w20.drew z ∧ Facts Φ3 [] z) (Instr.makeFunc (Fn.func 105) #[] #[x3, x8_1, x5]) (fun x32 =>
 (∀ w21 : World, E3 w20.drew w21 → Facts Φ3 [] w21 → CallS Tryz.prog 104 #[x31, x32] w21 (retK (fun x33 w22 =>
 E3 w21 w22 ∧ Φ3 4 x33 w22) (fun _ _ => False))) ∧ ∀ x33_1 : Value,
 PureQ Tryz.prog (fun z => E3 w20.drew z ∧ Facts Φ3 [(4, x33_1)] z) (Op.unary .not x33_1) (fun x34 =>
 ∀ w23 : World, E3 w20.drew w23 → Facts Φ3 [(4, x33_1)] w23 →
 R (.returned (.tuple #[x29, x34])) w23)))))) (pkR R)))))) (pkR R)))))))))) (pkR R)) (pkR R)
theorem vc_proof_begin {R : Ending → World → Prop} {a0 a1 a2 : Value} {w : World} (h : V_proof_begin R a0 a1 a2 w) : Calls Tryz.prog 69 #[a0, a1, a2] w R :=
  calls_of_vc (args := [a0, a1, a2]) (fun _ => ([], [])) (fun _ => none) (fun _ => none) Tryz.func69 (bodyC_some (by kernel_rfl)) rfl (by kernel_rfl) (by kernel_rfl) (by kernel_rfl) (by kernel_rfl) (Eq.mpr (by kernel_rfl) h)

/-- buttress/proof.Check -/
def V_proof_Check (R : Ending → World → Prop) (a0 a1 a2 a3 : Value) (w : World) : Prop :=
 Do Tryz.prog (Instr.box 58 a3) w (fun x7 w1 =>
 Do Tryz.prog (Instr.loadAt 58 x7) w1 (fun x17 w2 =>
 CallS Tryz.prog 69 #[a0, a2, x17] w2 (retK (fun x18 w3 =>
 Do Tryz.prog (Instr.extract x18 0) w3 (fun x19 w4 =>
 Do Tryz.prog (Instr.extract x18 1) w4 (fun x20 w5 =>
 Do Tryz.prog (Op.unary .not x20) w5 (fun x22 w6 =>
 CondV x22 (
 R (.returned (.tuple #[(Value.slice Option.none 0 0), (Value.int IntKind.i64 23)])) w6) (
 Do Tryz.prog (Instr.alloc 22 true (.tuple #[])) w6 (fun x12 w7 =>
 CallS Tryz.prog 70 #[x19] w7 (retK (fun x24 w8 =>
 RangeF Tryz.prog x24 1 (fun l1 Rec1 y1 w9 R1 =>
 w9.heap[l1]? = some (Rec1 .ready none) ∧
 DoU Tryz.prog (Instr.storeAt 22 x12 (y1 0)) (w9.putObj l1 (Rec1 .busy none)) (fun w10 =>
 R1 .normal w10) (fun _ _ => False)) w8 (fun d1 w11 =>
 Do Tryz.prog (Instr.loadAt 22 x12) w11 (fun x27 w14 =>
 Do Tryz.prog (Instr.buildSlice 55 1 #[(0, x27)]) w14 (fun x28 w15 =>
 CallS Tryz.prog 63 #[x28] w15 (retK (fun x29 w16 =>
 CallS Tryz.prog 30 #[x29, a1] w16 (retK (fun x31 w17 =>
 Do Tryz.prog (Op.unary .not x31) w17 (fun x32 w18 =>
 CondV x32 (
 EndV Tryz.prog (fun w R => R (.returned (.tuple #[(Value.slice Option.none 0 0), (Value.int IntKind.i64 23)])) w) R [d1] .returning w18) (
 CallS Tryz.prog 71 #[x19, a2] w18 (retK (fun x35 w19 =>
 EndV Tryz.prog (fun w R => R (.returned (.tuple #[x35, (Value.int IntKind.i64 0)])) w) R [d1] .returning w19) (fun c w => EndV Tryz.prog (fun w R => False) R [d1] (.panicking c) w)))) (fun c w => EndV Tryz.prog (fun w R => False) R [d1] (.panicking c) w)) (fun c w => EndV Tryz.prog (fun w R => False) R [d1] (.panicking c) w))) (fun c w => EndV Tryz.prog (fun w R => False) R [d1] (.panicking c) w))) (fun c w => EndV Tryz.prog (fun w R => False) R [d1] (.panicking c) w)) (fun c w => EndV Tryz.prog (fun w R => False) R [d1] (.panicking c) w)) (fun d1 w12 => EndV Tryz.prog (fun w R => R (.returned (.tuple #[(Value.slice Option.none 0 0), (Value.int IntKind.i64 0)])) w) R [d1] .returning w12) (fun id1 d1 w13 => (if id1 = 0 then Do Tryz.prog (Instr.loadAt 22 x12) w13 (fun x27_1 w20 =>
 Do Tryz.prog (Instr.buildSlice 55 1 #[(0, x27_1)]) w20 (fun x28_1 w21 =>
 CallS Tryz.prog 63 #[x28_1] w21 (retK (fun x29_1 w22 =>
 CallS Tryz.prog 30 #[x29_1, a1] w22 (retK (fun x31_1 w23 =>
 Do Tryz.prog (Op.unary .not x31_1) w23 (fun x32_1 w24 =>
 CondV x32_1 (
 EndV Tryz.prog (fun w R => R (.returned (.tuple #[(Value.slice Option.none 0 0), (Value.int IntKind.i64 23)])) w) R [d1] .returning w24) (
 CallS Tryz.prog 71 #[x19, a2] w24 (retK (fun x35_1 w25 =>
 EndV Tryz.prog (fun w R => R (.returned (.tuple #[x35_1, (Value.int IntKind.i64 0)])) w) R [d1] .returning w25) (fun c w => EndV Tryz.prog (fun w R => False) R [d1] (.panicking c) w)))) (fun c w => EndV Tryz.prog (fun w R => False) R [d1] (.panicking c) w)) (fun c w => EndV Tryz.prog (fun w R => False) R [d1] (.panicking c) w))) (fun c w => EndV Tryz.prog (fun w R => False) R [d1] (.panicking c) w))) (fun c w => EndV Tryz.prog (fun w R => False) R [d1] (.panicking c) w)) (fun c w => EndV Tryz.prog (fun w R => False) R [d1] (.panicking c) w) else False)) (fun c d1 w => (fun c w => EndV Tryz.prog (fun w R => False) R [d1] (.panicking c) w) c w)) (pkR R))) (pkR R))) (pkR R)) (pkR R)) (pkR R)) (pkR R))) (pkR R)) (pkR R)
theorem vc_proof_Check {R : Ending → World → Prop} {a0 a1 a2 a3 : Value} {w : World} (h : V_proof_Check R a0 a1 a2 a3 w) : Calls Tryz.prog 37 #[a0, a1, a2, a3] w R :=
  calls_of_vcT (args := [a0, a1, a2, a3]) (fun _ => ([], [])) (fun _ => none) (fun _ => none) Tryz.func37 (bodyC_some (by kernel_rfl)) rfl (by kernel_rfl) (by kernel_rfl) (by kernel_rfl) (Eq.mpr (by kernel_rfl) h)

/-- buttress/proof.Holds -/
def V_proof_Holds (R : Ending → World → Prop) (a0 a1 a2 a3 a4 : Value) (w : World) : Prop :=
 Do Tryz.prog (Instr.box 58 a3) w (fun x8 w1 =>
 Do Tryz.prog (Instr.loadAt 58 x8) w1 (fun x17 w2 =>
 CallS Tryz.prog 37 #[a0, a1, a2, x17] w2 (retK (fun x18 w3 =>
 Do Tryz.prog (Instr.extract x18 0) w3 (fun x19 w4 =>
 Do Tryz.prog (Instr.extract x18 1) w4 (fun x20 w5 =>
 Do Tryz.prog ((do eqGuard .neq 44 (Operand.tmp 22) (Operand.const (Value.int IntKind.i64 0)) x20 (Value.int IntKind.i64 0); binOp .neq 44 x20 (Value.int IntKind.i64 0) : Sem Value)) w5 (fun x23 w6 =>
 CondV x23 (
 R (.returned x20) w6) (
 DoN Tryz.prog (builtin .len #[47] 3 #[false] #[a4]) w6 (fun x27 w7 =>
 Do Tryz.prog ((do eqGuard .eql 3 (Operand.tmp 27) (Operand.const (Value.int IntKind.i64 0)) x27 (Value.int IntKind.i64 0); binOp .eql 3 x27 (Value.int IntKind.i64 0) : Sem Value)) w7 (fun x28 w8 =>
 BoolV x28 (fun b2 =>
 SplitB b2 (
 Do Tryz.prog ((do eqGuard .eql 22 (Operand.tmp 30) (Operand.const (Value.slice Option.none 0 0)) x19 (Value.slice Option.none 0 0); binOp .eql 22 x19 (Value.slice Option.none 0 0) : Sem Value)) w8 (fun x31 w9 =>
 CondV x31 (
 R (.returned (Value.int IntKind.i64 0)) w9) (
 DoN Tryz.prog (builtin .len #[47] 3 #[false] #[a4]) w9 (fun x35 w10 =>
 Do Tryz.prog ((do eqGuard .eql 3 (Operand.tmp 35) (Operand.const (Value.int IntKind.i64 0)) x35 (Value.int IntKind.i64 0); binOp .eql 3 x35 (Value.int IntKind.i64 0) : Sem Value)) w10 (fun x36 w11 =>
 CondV x36 (
 CondV x36 (
 R (.returned (Value.int IntKind.i64 23)) w11) (
 R (.returned (Value.int IntKind.i64 0)) w11)) (
 Do Tryz.prog ((do eqGuard .eql 22 (Operand.tmp 37) (Operand.const (Value.slice Option.none 0 0)) x19 (Value.slice Option.none 0 0); binOp .eql 22 x19 (Value.slice Option.none 0 0) : Sem Value)) w11 (fun x38 w12 =>
 CondV x38 (
 CondV x38 (
 R (.returned (Value.int IntKind.i64 23)) w12) (
 R (.returned (Value.int IntKind.i64 0)) w12)) (
 Do Tryz.prog (Instr.indexAt 47 a4 (Value.int IntKind.i64 0)) w12 (fun x40 w13 =>
 Do Tryz.prog (Instr.fieldAt 86 x40 0) w13 (fun x41 w14 =>
 Do Tryz.prog (Instr.loadAt 9 x41) w14 (fun x42 w15 =>
 Do Tryz.prog ((do eqGuard .neq 9 (Operand.tmp 42) (Operand.tmp 43) x42 a2; binOp .neq 9 x42 a2 : Sem Value)) w15 (fun x44 w16 =>
 CondV x44 (
 CondV x44 (
 R (.returned (Value.int IntKind.i64 23)) w16) (
 R (.returned (Value.int IntKind.i64 0)) w16)) (
 CallS Tryz.prog 43 #[a4] w16 (retK (fun x46 w17 =>
 CallS Tryz.prog 30 #[x46, x19] w17 (retK (fun x48 w18 =>
 Do Tryz.prog (Op.unary .not x48) w18 (fun x49 w19 =>
 CondV x49 (
 R (.returned (Value.int IntKind.i64 23)) w19) (
 R (.returned (Value.int IntKind.i64 0)) w19)) (pkR R)) (pkR R))) (pkR R)))) (pkR R)) (pkR R)) (pkR R)) (pkR R))) (pkR R))) (pkR R)) (pkR R))) (pkR R)) (
 DoN Tryz.prog (builtin .len #[47] 3 #[false] #[a4]) w8 (fun x35_1 w20 =>
 Do Tryz.prog ((do eqGuard .eql 3 (Operand.tmp 35) (Operand.const (Value.int IntKind.i64 0)) x35_1 (Value.int IntKind.i64 0); binOp .eql 3 x35_1 (Value.int IntKind.i64 0) : Sem Value)) w20 (fun x36_1 w21 =>
 CondV x36_1 (
 CondV x36_1 (
 R (.returned (Value.int IntKind.i64 23)) w21) (
 R (.returned (Value.int IntKind.i64 0)) w21)) (
 Do Tryz.prog ((do eqGuard .eql 22 (Operand.tmp 37) (Operand.const (Value.slice Option.none 0 0)) x19 (Value.slice Option.none 0 0); binOp .eql 22 x19 (Value.slice Option.none 0 0) : Sem Value)) w21 (fun x38_1 w22 =>
 CondV x38_1 (
 CondV x38_1 (
 R (.returned (Value.int IntKind.i64 23)) w22) (
 R (.returned (Value.int IntKind.i64 0)) w22)) (
 Do Tryz.prog (Instr.indexAt 47 a4 (Value.int IntKind.i64 0)) w22 (fun x40_1 w23 =>
 Do Tryz.prog (Instr.fieldAt 86 x40_1 0) w23 (fun x41_1 w24 =>
 Do Tryz.prog (Instr.loadAt 9 x41_1) w24 (fun x42_1 w25 =>
 Do Tryz.prog ((do eqGuard .neq 9 (Operand.tmp 42) (Operand.tmp 43) x42_1 a2; binOp .neq 9 x42_1 a2 : Sem Value)) w25 (fun x44_1 w26 =>
 CondV x44_1 (
 CondV x44_1 (
 R (.returned (Value.int IntKind.i64 23)) w26) (
 R (.returned (Value.int IntKind.i64 0)) w26)) (
 CallS Tryz.prog 43 #[a4] w26 (retK (fun x46_1 w27 =>
 CallS Tryz.prog 30 #[x46_1, x19] w27 (retK (fun x48_1 w28 =>
 Do Tryz.prog (Op.unary .not x48_1) w28 (fun x49_1 w29 =>
 CondV x49_1 (
 R (.returned (Value.int IntKind.i64 23)) w29) (
 R (.returned (Value.int IntKind.i64 0)) w29)) (pkR R)) (pkR R))) (pkR R)))) (pkR R)) (pkR R)) (pkR R)) (pkR R))) (pkR R))) (pkR R)) (pkR R)))) (pkR R)) (pkR R))) (pkR R)) (pkR R)) (pkR R)) (pkR R))) (pkR R)) (pkR R)
theorem vc_proof_Holds {R : Ending → World → Prop} {a0 a1 a2 a3 a4 : Value} {w : World} (h : V_proof_Holds R a0 a1 a2 a3 a4 w) : Calls Tryz.prog 39 #[a0, a1, a2, a3, a4] w R :=
  calls_of_vc (args := [a0, a1, a2, a3, a4]) (fun _ => ([], [])) (fun _ => none) (fun _ => none) Tryz.func39 (bodyC_some (by kernel_rfl)) rfl (by kernel_rfl) (by kernel_rfl) (by kernel_rfl) (by kernel_rfl) (Eq.mpr (by kernel_rfl) h)

/-- buttress/proof.Texts -/
def V_proof_Texts (R : Ending → World → Prop) (a0 a1 a2 a3 : Value) (w : World) : Prop :=
 Do Tryz.prog (Instr.box 58 a2) w (fun x6 w1 =>
 Do Tryz.prog (Instr.loadAt 58 x6) w1 (fun x16 w2 =>
 CallS Tryz.prog 69 #[a0, a1, x16] w2 (retK (fun x17 w3 =>
 Do Tryz.prog (Instr.extract x17 0) w3 (fun x18 w4 =>
 Do Tryz.prog (Instr.extract x17 1) w4 (fun x19 w5 =>
 Do Tryz.prog (Instr.alloc 128 true (.tuple #[])) w5 (fun x9 w6 =>
 DoU Tryz.prog (Instr.storeAt 128 x9 x18) w6 (fun w7 =>
 CallS Tryz.prog 74 #[a3] w7 (retK (fun x22 w8 =>
 Do Tryz.prog (Instr.extract x22 0) w8 (fun x23 w9 =>
 Do Tryz.prog (Instr.extract x22 1) w9 (fun x24 w10 =>
 Do Tryz.prog (Instr.alloc 22 true (.tuple #[])) w10 (fun x11 w11 =>
 DoU Tryz.prog (Instr.storeAt 22 x11 x23) w11 (fun w12 =>
 Do Tryz.prog (Op.unary .not x19) w12 (fun x26 w13 =>
 BoolV x26 (fun b2 =>
 SplitB b2 (
 R (.returned (Value.slice Option.none 0 0)) w13) (
 Do Tryz.prog ((do eqGuard .neq 44 (Operand.tmp 28) (Operand.const (Value.int IntKind.i64 0)) x24 (Value.int IntKind.i64 0); binOp .neq 44 x24 (Value.int IntKind.i64 0) : Sem Value)) w13 (fun x29 w14 =>
 CondV x29 (
 R (.returned (Value.slice Option.none 0 0)) w14) (
 Do Tryz.prog (Instr.makeFunc (Fn.func 76) #[] #[x11, x9]) w14 (fun x31 w15 =>
 CallS Tryz.prog 75 #[x31] w15 (retK (fun x32 w16 =>
 R (.returned x32) w16) (pkR R))) (pkR R))) (pkR R)))) (pkR R)) (pkR R)) (pkR R)) (pkR R)) (pkR R)) (pkR R))) (pkR R)) (pkR R)) (pkR R)) (pkR R)) (pkR R))) (pkR R)) (pkR R)
theorem vc_proof_Texts {R : Ending → World → Prop} {a0 a1 a2 a3 : Value} {w : World} (h : V_proof_Texts R a0 a1 a2 a3 w) : Calls Tryz.prog 40 #[a0, a1, a2, a3] w R :=
  calls_of_vc (args := [a0, a1, a2, a3]) (fun _ => ([], [])) (fun _ => none) (fun _ => none) Tryz.func40 (bodyC_some (by kernel_rfl)) rfl (by kernel_rfl) (by kernel_rfl) (by kernel_rfl) (by kernel_rfl) (Eq.mpr (by kernel_rfl) h)

/-- (*buttress/proof.walk).up -/
def V_proof_walk_up (R : Ending → World → Prop) (a0 : Value) (w : World) : Prop :=
 Do Tryz.prog (Instr.box 128 a0) w (fun x1 w1 =>
 Do Tryz.prog (Instr.makeFunc (Fn.func 106) #[] #[x1]) w1 (fun x3 w2 =>
 R (.returned x3) w2) (pkR R)) (pkR R)
theorem vc_proof_walk_up {R : Ending → World → Prop} {a0 : Value} {w : World} (h : V_proof_walk_up R a0 w) : Calls Tryz.prog 70 #[a0] w R :=
  calls_of_vc (args := [a0]) (fun _ => ([], [])) (fun _ => none) (fun _ => none) Tryz.func70 (bodyC_some (by kernel_rfl)) rfl (by kernel_rfl) (by kernel_rfl) (by kernel_rfl) (by kernel_rfl) (Eq.mpr (by kernel_rfl) h)

/-- (*buttress/proof.walk).says -/
def V_proof_walk_says (R : Ending → World → Prop) (a0 a1 : Value) (w : World) : Prop :=
 DoN Tryz.prog (nilS a0) w (fun x8 w1 =>
 Do Tryz.prog (Instr.fieldAt 168 x8 0) w1 (fun x9 w2 =>
 Do Tryz.prog (Instr.fieldAt 58 x9 1) w2 (fun x10 w3 =>
 Do Tryz.prog (Instr.loadAt 56 x10) w3 (fun x11 w4 =>
 DoN Tryz.prog (builtin .len #[56] 3 #[false] #[x11]) w4 (fun x12 w5 =>
 ∃ I1 : Nat → List Value → World → Prop, (∃ m, I1 m [(Value.int IntKind.i64 0)] w5) ∧
 ∀ m1 (x13 : Value) (_j1 : Env) (w6 : World), I1 m1 [x13] w6 →
 Do Tryz.prog (binOp .lss 3 x13 x12) w6 (fun x14 w7 =>
 CondV x14 (
 Do Tryz.prog (Instr.indexAt 56 x11 x13) w7 (fun x15 w8 =>
 Do Tryz.prog (Instr.loadAt 100 x15) w8 (fun x16 w9 =>
 Do Tryz.prog (Instr.alloc 100 true (.tuple #[])) w9 (fun x6 w10 =>
 DoU Tryz.prog (Instr.storeAt 100 x6 x16) w10 (fun w11 =>
 Do Tryz.prog (Instr.fieldAt 100 x6 0) w11 (fun x17 w12 =>
 Do Tryz.prog (Instr.loadAt 9 x17) w12 (fun x18 w13 =>
 Do Tryz.prog ((do eqGuard .eql 9 (Operand.tmp 18) (Operand.tmp 19) x18 a1; binOp .eql 9 x18 a1 : Sem Value)) w13 (fun x20 w14 =>
 CondV x20 (
 Do Tryz.prog (Instr.fieldAt 100 x6 1) w14 (fun x21 w15 =>
 Do Tryz.prog (Instr.loadAt 22 x21) w15 (fun x22 w16 =>
 CallS Tryz.prog 35 #[x22] w16 (retK (fun x23 w17 =>
 R (.returned x23) w17) (pkR R))) (pkR R)) (pkR R)) (
 Do Tryz.prog (binOp .add 3 x13 (Value.int IntKind.i64 1)) w14 (fun x24 w18 =>
 Nxt I1 m1 [x24] w18) (pkR R))) (pkR R)) (pkR R)) (pkR R)) (pkR R)) (pkR R)) (pkR R)) (pkR R)) (
 R (.returned (Value.slice Option.none 0 0)) w7)) (pkR R)) (pkR R)) (pkR R)) (pkR R)) (pkR R)) (pkR R)
theorem vc_proof_walk_says {R : Ending → World → Prop} {a0 a1 : Value} {w : World} (h : V_proof_walk_says R a0 a1 w) : Calls Tryz.prog 71 #[a0, a1] w R :=
  calls_of_vc (args := [a0, a1]) (fun k => match k with | 2 => ([13], [4, 6, 13, 14, 15, 16, 17, 18, 19, 20, 21, 22, 23, 24]) | _ => ([], [])) (fun _ => none) (fun _ => none) Tryz.func71 (bodyC_some (by kernel_rfl)) rfl (by kernel_rfl) (by kernel_rfl) (by kernel_rfl) (by kernel_rfl) (Eq.mpr (by kernel_rfl) h)

/-- (*buttress/proof.walk).end -/
def V_proof_walk_end (R : Ending → World → Prop) (a0 : Value) (w : World) : Prop :=
 Do Tryz.prog (Instr.buildSlice 22 3 #[(0, (Value.int IntKind.u8 0)), (1, (Value.int IntKind.u8 1)), (2, (Value.int IntKind.u8 3))]) w (fun x6 w1 =>
 DoN Tryz.prog (nilS a0) w1 (fun x8 w2 =>
 Do Tryz.prog (Instr.fieldAt 168 x8 0) w2 (fun x9 w3 =>
 Do Tryz.prog (Instr.fieldAt 58 x9 1) w3 (fun x10 w4 =>
 Do Tryz.prog (Instr.loadAt 56 x10) w4 (fun x11 w5 =>
 DoN Tryz.prog (builtin .len #[56] 3 #[false] #[x11]) w5 (fun x12 w6 =>
 DoN Tryz.prog (builtin .min #[3, 3] 3 #[false, true] #[x12, (Value.int IntKind.i64 2)]) w6 (fun x13 w7 =>
 Do Tryz.prog (Instr.indexAt 22 x6 x13) w7 (fun x14 w8 =>
 Do Tryz.prog (Instr.loadAt 5 x14) w8 (fun x15 w9 =>
 Do Tryz.prog (Instr.buildSlice 22 1 #[(0, x15)]) w9 (fun x16 w10 =>
 DoN Tryz.prog (nilS a0) w10 (fun x18 w11 =>
 Do Tryz.prog (Instr.fieldAt 168 x18 0) w11 (fun x19 w12 =>
 Do Tryz.prog (Instr.fieldAt 58 x19 1) w12 (fun x20 w13 =>
 Do Tryz.prog (Instr.loadAt 56 x20) w13 (fun x21 w14 =>
 DoN Tryz.prog (builtin .len #[56] 3 #[false] #[x21]) w14 (fun x22 w15 =>
 ∃ I1 : Nat → List Value → World → Prop, (∃ m, I1 m [x16, (Value.int IntKind.i64 0)] w15) ∧
 ∀ m1 (x3 : Value) (x23 : Value) (_j1 : Env) (w16 : World), I1 m1 [x3, x23] w16 →
 Do Tryz.prog (binOp .lss 3 x23 x22) w16 (fun x24 w17 =>
 CondV x24 (
 Do Tryz.prog (Instr.indexAt 56 x21 x23) w17 (fun x25 w18 =>
 Do Tryz.prog (Instr.loadAt 100 x25) w18 (fun x26 w19 =>
 Do Tryz.prog (Instr.alloc 100 true (.tuple #[])) w19 (fun x5 w20 =>
 DoU Tryz.prog (Instr.storeAt 100 x5 x26) w20 (fun w21 =>
 ∃ (E2 : World → World → Prop) (Φ2 : Nat → Value → World → Prop), Pre E2 ∧ (∀ i v w w', E2 w w' → Φ2 i v w → Φ2 i v w') ∧
 PureQ Tryz.prog (fun z => E2 w21.drew z ∧ Facts Φ2 [] z) (Instr.fieldAt 100 x5 0) (fun x28 =>
 PureQ Tryz.prog (fun z => E2 w21.drew z ∧ Facts Φ2 [] z) (Instr.loadAt 9 x28) (fun x29 =>
 (∀ w22 : World, E2 w21.drew w22 → Facts Φ2 [] w22 → Do Tryz.prog (convert 9 22 x29) w22 (fun x30 w23 =>
 E2 w22 w23 ∧ Φ2 3 x30 w23) (fun _ _ => False)) ∧ ∀ x30_1 : Value,
 (∀ w24 : World, E2 w21.drew w24 → Facts Φ2 [(3, x30_1)] w24 → CallS Tryz.prog 102 #[x30_1] w24 (retK (fun x31 w25 =>
 E2 w24 w25 ∧ Φ2 4 x31 w25) (fun _ _ => False))) ∧ ∀ x31_1 : Value,
 PureQ Tryz.prog (fun z => E2 w21.drew z ∧ Facts Φ2 [] z) (Instr.fieldAt 100 x5 1) (fun x32 =>
 PureQ Tryz.prog (fun z => E2 w21.drew z ∧ Facts Φ2 [] z) (Instr.loadAt 22 x32) (fun x33 =>
 ∀ w26 : World, E2 w21.drew w26 → Facts Φ2 [(4, x31_1), (3, x30_1)] w26 →
 Do Tryz.prog (Instr.buildSlice 55 3 #[(0, x3), (1, x31_1), (2, x33)]) w26 (fun x34 w27 =>
 CallS Tryz.prog 77 #[x34] w27 (retK (fun x35 w28 =>
 Do Tryz.prog (binOp .add 3 x23 (Value.int IntKind.i64 1)) w28 (fun x36 w29 =>
 Nxt I1 m1 [x35, x36] w29) (pkR R)) (pkR R))) (pkR R)))))) (pkR R)) (pkR R)) (pkR R)) (pkR R)) (
 R (.returned x3) w17)) (pkR R)) (pkR R)) (pkR R)) (pkR R)) (pkR R)) (pkR R)) (pkR R)) (pkR R)) (pkR R)) (pkR R)) (pkR R)) (pkR R)) (pkR R)) (pkR R)) (pkR R)) (pkR R)
theorem vc_proof_walk_end {R : Ending → World → Prop} {a0 : Value} {w : World} (h : V_proof_walk_end R a0 w) : Calls Tryz.prog 107 #[a0] w R :=
  calls_of_vc (args := [a0]) (fun k => match k with | 3 => ([3, 23], [3, 5, 23, 24, 25, 26, 27, 28, 29, 30, 31, 32, 33, 34, 35, 36]) | _ => ([], [])) (fun _ => none) (fun _ => none) Tryz.func107 (bodyC_some (by kernel_rfl)) rfl (by kernel_rfl) (by kernel_rfl) (by kernel_rfl) (by kernel_rfl) (Eq.mpr (by kernel_rfl) h)

/-- buttress/proof.Right$1 -/
def V_proof_Right_S1 (R : Ending → World → Prop) (a0 : Value) (w : World) : Prop :=
 DoN Tryz.prog (builtin .len #[22] 3 #[false] #[a0]) w (fun x4 w1 =>
 Do Tryz.prog ((do eqGuard .neq 3 (Operand.tmp 4) (Operand.const (Value.int IntKind.i64 64)) x4 (Value.int IntKind.i64 64); binOp .neq 3 x4 (Value.int IntKind.i64 64) : Sem Value)) w1 (fun x5 w2 =>
 R (.returned x5) w2) (pkR R)) (pkR R)
theorem vc_proof_Right_S1 {R : Ending → World → Prop} {a0 : Value} {w : World} (h : V_proof_Right_S1 R a0 w) : Calls Tryz.prog 73 #[a0] w R :=
  calls_of_vc (args := [a0]) (fun _ => ([], [])) (fun _ => none) (fun _ => none) Tryz.func73 (bodyC_some (by kernel_rfl)) rfl (by kernel_rfl) (by kernel_rfl) (by kernel_rfl) (by kernel_rfl) (Eq.mpr (by kernel_rfl) h)

/-- buttress/proof.Texts$1 -/
def V_proof_Texts_S1 (R : Ending → World → Prop) (a0 a1 a2 : Value) (w : World) : Prop :=
 Do Tryz.prog (Instr.buildSlice 22 1 #[(0, (Value.int IntKind.u8 5))]) w (fun x5 w1 =>
 Do Tryz.prog (Instr.loadAt 22 a1) w1 (fun x6 w2 =>
 Do Tryz.prog (Instr.buildSlice 55 2 #[(0, x5), (1, x6)]) w2 (fun x7 w3 =>
 CallS Tryz.prog 77 #[x7] w3 (retK (fun x8 w4 =>
 CallV Tryz.prog a0 [x8] w4 (fun x9 w5 =>
 CondV x9 (
 Do Tryz.prog (Instr.loadAt 128 a2) w5 (fun x10 w6 =>
 CallS Tryz.prog 70 #[x10] w6 (retK (fun x11 w7 =>
 CallV Tryz.prog x11 [a0] w7 (fun _x13 w8 =>
 R (.returned (.tuple #[])) w8) (pkR R)) (pkR R))) (pkR R)) (
 R (.returned (.tuple #[])) w5)) (pkR R)) (pkR R))) (pkR R)) (pkR R)) (pkR R)
theorem vc_proof_Texts_S1 {R : Ending → World → Prop} {a0 a1 a2 : Value} {w : World} (h : V_proof_Texts_S1 R a0 a1 a2 w) : Calls Tryz.prog 76 #[a0, a1, a2] w R :=
  calls_of_vc (args := [a0, a1, a2]) (fun _ => ([], [])) (fun _ => none) (fun _ => none) Tryz.func76 (bodyC_some (by kernel_rfl)) rfl (by kernel_rfl) (by kernel_rfl) (by kernel_rfl) (by kernel_rfl) (Eq.mpr (by kernel_rfl) h)

/-- buttress/proof.begin$1 -/
def V_proof_begin_S1 (R : Ending → World → Prop) (a0 a1 a2 a3 : Value) (w : World) : Prop :=
 Do Tryz.prog (Instr.box 100 a0) w (fun x4 w1 =>
 ∃ (E1 : World → World → Prop) (Φ1 : Nat → Value → World → Prop), Pre E1 ∧ (∀ i v w w', E1 w w' → Φ1 i v w → Φ1 i v w') ∧
 PureQ Tryz.prog (fun z => E1 w1.drew z ∧ Facts Φ1 [] z) (Instr.fieldAt 100 x4 0) (fun x6 =>
 PureQ Tryz.prog (fun z => E1 w1.drew z ∧ Facts Φ1 [] z) (Instr.loadAt 9 x6) (fun x7 =>
 (∀ w2 : World, E1 w1.drew w2 → Facts Φ1 [] w2 → CallS Tryz.prog 15 #[x7] w2 (retK (fun x8 w3 =>
 E1 w2 w3 ∧ Φ1 2 x8 w3) (fun _ _ => False))) ∧ ∀ x8_1 : Value,
 PureQ Tryz.prog (fun z => E1 w1.drew z ∧ Facts Φ1 [] z) (Instr.loadAt 3 a1) (fun x9 =>
 PureQ Tryz.prog (fun z => E1 w1.drew z ∧ Facts Φ1 [(2, x8_1)] z) ((do eqGuard .neq 3 (Operand.tmp 8) (Operand.tmp 9) x8_1 x9; binOp .neq 3 x8_1 x9 : Sem Value)) (fun x10 =>
 BoolV x10 (fun b1 =>
 SplitB b1 (
 ∀ w4 : World, E1 w1.drew w4 → Facts Φ1 [(2, x8_1)] w4 →
 R (.returned (Value.bool Bool.true)) w4) (
 PureQ Tryz.prog (fun z => E1 w1.drew z ∧ Facts Φ1 [(2, x8_1)] z) (Instr.fieldAt 100 x4 0) (fun x12 =>
 PureQ Tryz.prog (fun z => E1 w1.drew z ∧ Facts Φ1 [(2, x8_1)] z) (Instr.loadAt 9 x12) (fun x13 =>
 (∀ w5 : World, E1 w1.drew w5 → Facts Φ1 [(2, x8_1)] w5 → CallS Tryz.prog 42 #[x13] w5 (retK (fun x14 w6 =>
 E1 w5 w6 ∧ Φ1 8 x14 w6) (fun _ _ => False))) ∧ ∀ x14_1 : Value,
 PureQ Tryz.prog (fun z => E1 w1.drew z ∧ Facts Φ1 [(2, x8_1)] z) (Instr.loadAt 128 a2) (fun x15 =>
 PureN Tryz.prog (fun z => E1 w1.drew z ∧ Facts Φ1 [(2, x8_1)] z) (nilS x15) (fun x16 =>
 PureQ Tryz.prog (fun z => E1 w1.drew z ∧ Facts Φ1 [(2, x8_1)] z) (Instr.fieldAt 168 x16 2) (fun x17 =>
 PureQ Tryz.prog (fun z => E1 w1.drew z ∧ Facts Φ1 [(2, x8_1)] z) (Instr.loadAt 9 x17) (fun x18 =>
 PureQ Tryz.prog (fun z => E1 w1.drew z ∧ Facts Φ1 [(2, x8_1)] z) (Instr.fieldAt 58 a3 0) (fun x19 =>
 PureQ Tryz.prog (fun z => E1 w1.drew z ∧ Facts Φ1 [(2, x8_1)] z) (Instr.loadAt 55 x19) (fun x20 =>
 PureN Tryz.prog (fun z => E1 w1.drew z ∧ Facts Φ1 [(2, x8_1)] z) (builtin .len #[55] 3 #[false] #[x20]) (fun x21 =>
 PureQ Tryz.prog (fun z => E1 w1.drew z ∧ Facts Φ1 [(2, x8_1)] z) (Instr.sliceAt 9 x18 none (some x21) none) (fun x22 =>
 ∀ w7 : World, E1 w1.drew w7 → Facts Φ1 [(8, x14_1), (2, x8_1)] w7 →
 CallS Tryz.prog 57 #[x14_1, x22] w7 (retK (fun x23 w8 =>
 Do Tryz.prog (Op.unary .not x23) w8 (fun x24 w9 =>
 R (.returned x24) w9) (pkR R)) (pkR R))))))))))))))))))) (pkR R)
theorem vc_proof_begin_S1 {R : Ending → World → Prop} {a0 a1 a2 a3 : Value} {w : World} (h : V_proof_begin_S1 R a0 a1 a2 a3 w) : Calls Tryz.prog 105 #[a0, a1, a2, a3] w R :=
  calls_of_vc (args := [a0, a1, a2, a3]) (fun _ => ([], [])) (fun _ => none) (fun _ => none) Tryz.func105 (bodyC_some (by kernel_rfl)) rfl (by kernel_rfl) (by kernel_rfl) (by kernel_rfl) (by kernel_rfl) (Eq.mpr (by kernel_rfl) h)

/-- (*buttress/proof.walk).up$1 -/
def V_proof_walk_up_S1 (R : Ending → World → Prop) (a0 a1 : Value) (w : World) : Prop :=
 Do Tryz.prog (Instr.box 135 a0) w (fun x2 w1 =>
 Do Tryz.prog (Instr.loadAt 128 a1) w1 (fun x7 w2 =>
 CallS Tryz.prog 107 #[x7] w2 (retK (fun x8 w3 =>
 Do Tryz.prog (Instr.alloc 22 true (.tuple #[])) w3 (fun x3 w4 =>
 DoU Tryz.prog (Instr.storeAt 22 x3 x8) w4 (fun w5 =>
 Do Tryz.prog (Instr.loadAt 128 a1) w5 (fun x9 w6 =>
 DoN Tryz.prog (nilS x9) w6 (fun x10 w7 =>
 Do Tryz.prog (Instr.fieldAt 168 x10 0) w7 (fun x11 w8 =>
 Do Tryz.prog (Instr.fieldAt 58 x11 0) w8 (fun x12 w9 =>
 Do Tryz.prog (Instr.loadAt 55 x12) w9 (fun x13 w10 =>
 CallS Tryz.prog 108 #[x13] w10 (retK (fun x14 w11 =>
 RangeF Tryz.prog x14 2 (fun l1 Rec1 y1 w12 R1 =>
 w12.heap[l1]? = some (Rec1 .ready none) ∧
 Do Tryz.prog (Instr.loadAt 135 x2) (w12.putObj l1 (Rec1 .busy none)) (fun x17 w13 =>
 Do Tryz.prog (Instr.loadAt 22 x3) w13 (fun x18 w14 =>
 CallV Tryz.prog x17 [x18] w14 (fun x19 w15 =>
 Do Tryz.prog (Op.unary .not x19) w15 (fun x20 w16 =>
 CondV x20 (
 R1 .ret w16) (
 Do Tryz.prog (Instr.buildSlice 22 1 #[(0, (Value.int IntKind.u8 2))]) w16 (fun x21 w17 =>
 Do Tryz.prog (Instr.loadAt 22 x3) w17 (fun x22 w18 =>
 Do Tryz.prog (Instr.buildSlice 55 1 #[(0, x22)]) w18 (fun x23 w19 =>
 CallS Tryz.prog 63 #[x23] w19 (retK (fun x24 w20 =>
 Do Tryz.prog (Instr.buildSlice 55 3 #[(0, x21), (1, x24), (2, (y1 1))]) w20 (fun x26 w21 =>
 Do Tryz.prog (Instr.loadAt 128 a1) w21 (fun x27 w22 =>
 DoN Tryz.prog (nilS x27) w22 (fun x28 w23 =>
 Do Tryz.prog (Instr.fieldAt 168 x28 2) w23 (fun x29 w24 =>
 Do Tryz.prog (Instr.loadAt 9 x29) w24 (fun x30 w25 =>
 Do Tryz.prog (Instr.index 9 x30 (y1 0)) w25 (fun x32 w26 =>
 Do Tryz.prog ((do eqGuard .eql 5 (Operand.tmp 32) (Operand.const (Value.int IntKind.u8 49)) x32 (Value.int IntKind.u8 49); binOp .eql 5 x32 (Value.int IntKind.u8 49) : Sem Value)) w26 (fun x33 w27 =>
 CondV x33 (
 PureQ Tryz.prog (fun _ => True) (Instr.indexAt 55 x26 (Value.int IntKind.i64 2)) (fun x37 =>
 PureQ Tryz.prog (fun _ => True) (Instr.indexAt 55 x26 (Value.int IntKind.i64 1)) (fun x40 =>
 ∃ (E1 : World → World → Prop) (Φ1 : Nat → Value → World → Prop), Pre E1 ∧ (∀ i v w w', E1 w w' → Φ1 i v w → Φ1 i v w') ∧
 PureQ Tryz.prog (fun z => E1 w27.drew z ∧ Facts Φ1 [] z) (Instr.loadAt 22 x37) (fun x38 =>
 PureQ Tryz.prog (fun z => E1 w27.drew z ∧ Facts Φ1 [] z) (Instr.loadAt 22 x40) (fun x41 =>
 ∀ w28 : World, E1 w27.drew w28 → Facts Φ1 [] w28 →
 Do Tryz.prog (Instr.indexAt 55 x26 (Value.int IntKind.i64 1)) w28 (fun x42 w29 =>
 DoU Tryz.prog (Instr.storeAt 22 x42 x38) w29 (fun w30 =>
 Do Tryz.prog (Instr.indexAt 55 x26 (Value.int IntKind.i64 2)) w30 (fun x43 w31 =>
 DoU Tryz.prog (Instr.storeAt 22 x43 x41) w31 (fun w32 =>
 CallS Tryz.prog 77 #[x26] w32 (retK (fun x45 w33 =>
 DoU Tryz.prog (Instr.storeAt 22 x3 x45) w33 (fun w34 =>
 R1 .normal w34) (fun _ _ => False)) (fun _ _ => False))) (fun _ _ => False)) (fun _ _ => False)) (fun _ _ => False)) (fun _ _ => False)))))) (
 CallS Tryz.prog 77 #[x26] w27 (retK (fun x45_1 w35 =>
 DoU Tryz.prog (Instr.storeAt 22 x3 x45_1) w35 (fun w36 =>
 R1 .normal w36) (fun _ _ => False)) (fun _ _ => False)))) (fun _ _ => False)) (fun _ _ => False)) (fun _ _ => False)) (fun _ _ => False)) (fun _ _ => False)) (fun _ _ => False)) (fun _ _ => False)) (fun _ _ => False))) (fun _ _ => False)) (fun _ _ => False)) (fun _ _ => False))) (fun _ _ => False)) (fun _ _ => False)) (fun _ _ => False)) (fun _ _ => False)) w11 (fun d1 w37 =>
 Do Tryz.prog (Instr.loadAt 135 x2) w37 (fun x46 w40 =>
 Do Tryz.prog (Instr.loadAt 22 x3) w40 (fun x47 w41 =>
 CallV Tryz.prog x46 [x47] w41 (fun x48 w42 =>
 CondV x48 (
 ∃ (E2 : World → World → Prop) (Φ2 : Nat → Value → World → Prop), Pre E2 ∧ (∀ i v w w', E2 w w' → Φ2 i v w → Φ2 i v w') ∧
 PureQ Tryz.prog (fun z => E2 w42.drew z ∧ Facts Φ2 [] z) (Instr.loadAt 135 x2) (fun x49 =>
 PureQ Tryz.prog (fun z => E2 w42.drew z ∧ Facts Φ2 [] z) (Instr.loadAt 128 a1) (fun x50 =>
 PureN Tryz.prog (fun z => E2 w42.drew z ∧ Facts Φ2 [] z) (nilS x50) (fun x51 =>
 PureQ Tryz.prog (fun z => E2 w42.drew z ∧ Facts Φ2 [] z) (Instr.fieldAt 168 x51 1) (fun x52 =>
 PureQ Tryz.prog (fun z => E2 w42.drew z ∧ Facts Φ2 [] z) (Instr.loadAt 3 x52) (fun x53 =>
 (∀ w43 : World, E2 w42.drew w43 → Facts Φ2 [] w43 → Do Tryz.prog (convert 3 5 x53) w43 (fun x54 w44 =>
 E2 w43 w44 ∧ Φ2 5 x54 w44) (fun _ _ => False)) ∧ ∀ x54_1 : Value,
 (∀ w45 : World, E2 w42.drew w45 → Facts Φ2 [(5, x54_1)] w45 → Do Tryz.prog (Instr.buildSlice 22 2 #[(0, (Value.int IntKind.u8 4)), (1, x54_1)]) w45 (fun x55 w46 =>
 E2 w45 w46 ∧ Φ2 6 x55 w46) (fun _ _ => False)) ∧ ∀ x55_1 : Value,
 PureQ Tryz.prog (fun z => E2 w42.drew z ∧ Facts Φ2 [] z) (Instr.loadAt 22 x3) (fun x56 =>
 (∀ w47 : World, E2 w42.drew w47 → Facts Φ2 [] w47 → Do Tryz.prog (Instr.buildSlice 55 1 #[(0, x56)]) w47 (fun x57 w48 =>
 E2 w47 w48 ∧ Φ2 8 x57 w48) (fun _ _ => False)) ∧ ∀ x57_1 : Value,
 (∀ w49 : World, E2 w42.drew w49 → Facts Φ2 [(8, x57_1)] w49 → CallS Tryz.prog 63 #[x57_1] w49 (retK (fun x58 w50 =>
 E2 w49 w50 ∧ Φ2 9 x58 w50) (fun _ _ => False))) ∧ ∀ x58_1 : Value,
 (∀ w51 : World, E2 w42.drew w51 → Facts Φ2 [(9, x58_1), (8, x57_1), (6, x55_1), (5, x54_1)] w51 → Do Tryz.prog (Instr.buildSlice 55 2 #[(0, x55_1), (1, x58_1)]) w51 (fun x59 w52 =>
 E2 w51 w52 ∧ Φ2 10 x59 w52) (fun _ _ => False)) ∧ ∀ x59_1 : Value,
 (∀ w53 : World, E2 w42.drew w53 → Facts Φ2 [(10, x59_1), (9, x58_1), (8, x57_1), (6, x55_1), (5, x54_1)] w53 → CallS Tryz.prog 77 #[x59_1] w53 (retK (fun x60 w54 =>
 E2 w53 w54 ∧ Φ2 11 x60 w54) (fun _ _ => False))) ∧ ∀ x60_1 : Value,
 ∀ w55 : World, E2 w42.drew w55 → Facts Φ2 [(11, x60_1), (10, x59_1), (9, x58_1), (8, x57_1), (6, x55_1), (5, x54_1)] w55 →
 CallV Tryz.prog x49 [x60_1] w55 (fun _x61 w56 =>
 EndV Tryz.prog (fun w R => R (.returned (.tuple #[])) w) R [d1] .returning w56) (fun c w => EndV Tryz.prog (fun w R => R (.returned (.tuple #[])) w) R [d1] (.panicking c) w)))))))) (
 EndV Tryz.prog (fun w R => R (.returned (.tuple #[])) w) R [d1] .returning w42)) (fun c w => EndV Tryz.prog (fun w R => R (.returned (.tuple #[])) w) R [d1] (.panicking c) w)) (fun c w => EndV Tryz.prog (fun w R => R (.returned (.tuple #[])) w) R [d1] (.panicking c) w)) (fun c w => EndV Tryz.prog (fun w R => R (.returned (.tuple #[])) w) R [d1] (.panicking c) w)) (fun d1 w38 => EndV Tryz.prog (fun w R => R (.returned (.tuple #[])) w) R [d1] .returning w38) (fun id1 d1 w39 => (if id1 = 0 then Do Tryz.prog (Instr.loadAt 135 x2) w39 (fun x46_1 w57 =>
 Do Tryz.prog (Instr.loadAt 22 x3) w57 (fun x47_1 w58 =>
 CallV Tryz.prog x46_1 [x47_1] w58 (fun x48_1 w59 =>
 CondV x48_1 (
 ∃ (E3 : World → World → Prop) (Φ3 : Nat → Value → World → Prop), Pre E3 ∧ (∀ i v w w', E3 w w' → Φ3 i v w → Φ3 i v w') ∧
 PureQ Tryz.prog (fun z => E3 w59.drew z ∧ Facts Φ3 [] z) (Instr.loadAt 135 x2) (fun x49_1 =>
 PureQ Tryz.prog (fun z => E3 w59.drew z ∧ Facts Φ3 [] z) (Instr.loadAt 128 a1) (fun x50_1 =>
 PureN Tryz.prog (fun z => E3 w59.drew z ∧ Facts Φ3 [] z) (nilS x50_1) (fun x51_1 =>
 PureQ Tryz.prog (fun z => E3 w59.drew z ∧ Facts Φ3 [] z) (Instr.fieldAt 168 x51_1 1) (fun x52_1 =>
 PureQ Tryz.prog (fun z => E3 w59.drew z ∧ Facts Φ3 [] z) (Instr.loadAt 3 x52_1) (fun x53_1 =>
 (∀ w60 : World, E3 w59.drew w60 → Facts Φ3 [] w60 → Do Tryz.prog (convert 3 5 x53_1) w60 (fun x54_2 w61 =>
 E3 w60 w61 ∧ Φ3 5 x54_2 w61) (fun _ _ => False)) ∧ ∀ x54_3 : Value,
 (∀ w62 : World, E3 w59.drew w62 → Facts Φ3 [(5, x54_3)] w62 → Do Tryz.prog (Instr.buildSlice 22 2 #[(0, (Value.int IntKind.u8 4)), (1, x54_3)]) w62 (fun x55_2 w63 =>
 E3 w62 w63 ∧ Φ3 6 x55_2 w63) (fun _ _ => False)) ∧ ∀ x55_3 : Value,
 PureQ Tryz.prog (fun z => E3 w59.drew z ∧ Facts Φ3 [] z) (Instr.loadAt 22 x3) (fun x56_1 =>
 (∀ w64 : World, E3 w59.drew w64 → Facts Φ3 [] w64 → Do Tryz.prog (Instr.buildSlice 55 1 #[(0, x56_1)]) w64 (fun x57_2 w65 =>
 E3 w64 w65 ∧ Φ3 8 x57_2 w65) (fun _ _ => False)) ∧ ∀ x57_3 : Value,
 (∀ w66 : World, E3 w59.drew w66 → Facts Φ3 [(8, x57_3)] w66 → CallS Tryz.prog 63 #[x57_3] w66 (retK (fun x58_2 w67 =>
 E3 w66 w67 ∧ Φ3 9 x58_2 w67) (fun _ _ => False))) ∧ ∀ x58_3 : Value,
 (∀ w68 : World, E3 w59.drew w68 → Facts Φ3 [(9, x58_3), (8, x57_3), (6, x55_3), (5, x54_3)] w68 → Do Tryz.prog (Instr.buildSlice 55 2 #[(0, x55_3), (1, x58_3)]) w68 (fun x59_2 w69 =>
 E3 w68 w69 ∧ Φ3 10 x59_2 w69) (fun _ _ => False)) ∧ ∀ x59_3 : Value,
 (∀ w70 : World, E3 w59.drew w70 → Facts Φ3 [(10, x59_3), (9, x58_3), (8, x57_3), (6, x55_3), (5, x54_3)] w70 → CallS Tryz.prog 77 #[x59_3] w70 (retK (fun x60_2 w71 =>
 E3 w70 w71 ∧ Φ3 11 x60_2 w71) (fun _ _ => False))) ∧ ∀ x60_3 : Value,
 ∀ w72 : World, E3 w59.drew w72 → Facts Φ3 [(11, x60_3), (10, x59_3), (9, x58_3), (8, x57_3), (6, x55_3), (5, x54_3)] w72 →
 CallV Tryz.prog x49_1 [x60_3] w72 (fun _x61_1 w73 =>
 EndV Tryz.prog (fun w R => R (.returned (.tuple #[])) w) R [d1] .returning w73) (fun c w => EndV Tryz.prog (fun w R => R (.returned (.tuple #[])) w) R [d1] (.panicking c) w)))))))) (
 EndV Tryz.prog (fun w R => R (.returned (.tuple #[])) w) R [d1] .returning w59)) (fun c w => EndV Tryz.prog (fun w R => R (.returned (.tuple #[])) w) R [d1] (.panicking c) w)) (fun c w => EndV Tryz.prog (fun w R => R (.returned (.tuple #[])) w) R [d1] (.panicking c) w)) (fun c w => EndV Tryz.prog (fun w R => R (.returned (.tuple #[])) w) R [d1] (.panicking c) w) else False)) (fun c d1 w => (fun c w => EndV Tryz.prog (fun w R => R (.returned (.tuple #[])) w) R [d1] (.panicking c) w) c w)) (pkR R))) (pkR R)) (pkR R)) (pkR R)) (pkR R)) (pkR R)) (pkR R)) (pkR R)) (pkR R))) (pkR R)) (pkR R)
theorem vc_proof_walk_up_S1 {R : Ending → World → Prop} {a0 a1 : Value} {w : World} (h : V_proof_walk_up_S1 R a0 a1 w) : Calls Tryz.prog 106 #[a0, a1] w R :=
  calls_of_vcT (args := [a0, a1]) (fun _ => ([], [])) (fun _ => none) (fun k => match k with | 8 => some ([0, 1, 2, 3, 5, 6, 4, 7, 8, 9, 10, 11], 6) | _ => none) Tryz.func106 (bodyC_some (by kernel_rfl)) rfl (by kernel_rfl) (by kernel_rfl) (by kernel_rfl) (Eq.mpr (by kernel_rfl) h)

/-- slices.Backward[[][]byte,[]byte] -/
def V_slices_Backward_byte_byte (R : Ending → World → Prop) (a0 : Value) (w : World) : Prop :=
 Do Tryz.prog (Instr.box 55 a0) w (fun x1 w1 =>
 Do Tryz.prog (Instr.makeFunc (Fn.func 144) #[] #[x1]) w1 (fun x3 w2 =>
 R (.returned x3) w2) (pkR R)) (pkR R)
theorem vc_slices_Backward_byte_byte {R : Ending → World → Prop} {a0 : Value} {w : World} (h : V_slices_Backward_byte_byte R a0 w) : Calls Tryz.prog 108 #[a0] w R :=
  calls_of_vc (args := [a0]) (fun _ => ([], [])) (fun _ => none) (fun _ => none) Tryz.func108 (bodyC_some (by kernel_rfl)) rfl (by kernel_rfl) (by kernel_rfl) (by kernel_rfl) (by kernel_rfl) (Eq.mpr (by kernel_rfl) h)

/-- slices.Backward[[][]byte,[]byte]$1 -/
def V_slices_Backward_byte_byte__S1 (R : Ending → World → Prop) (a0 a1 : Value) (w : World) : Prop :=
 Do Tryz.prog (Instr.loadAt 55 a1) w (fun x4 w1 =>
 DoN Tryz.prog (builtin .len #[55] 3 #[false] #[x4]) w1 (fun x5 w2 =>
 Do Tryz.prog (binOp .sub 3 x5 (Value.int IntKind.i64 1)) w2 (fun x6 w3 =>
 ∃ I1 : Nat → List Value → World → Prop, (∃ m, I1 m [x6] w3) ∧
 ∀ m1 (x3 : Value) (_j1 : Env) (w4 : World), I1 m1 [x3] w4 →
 Do Tryz.prog (binOp .geq 3 x3 (Value.int IntKind.i64 0)) w4 (fun x8 w5 =>
 CondV x8 (
 Do Tryz.prog (Instr.loadAt 55 a1) w5 (fun x13 w6 =>
 Do Tryz.prog (Instr.indexAt 55 x13 x3) w6 (fun x15 w7 =>
 Do Tryz.prog (Instr.loadAt 22 x15) w7 (fun x16 w8 =>
 CallV Tryz.prog a0 [x3, x16] w8 (fun x17 w9 =>
 Do Tryz.prog (Op.unary .not x17) w9 (fun x18 w10 =>
 CondV x18 (
 R (.returned (.tuple #[])) w10) (
 Do Tryz.prog (binOp .sub 3 x3 (Value.int IntKind.i64 1)) w10 (fun x10 w11 =>
 Nxt I1 m1 [x10] w11) (pkR R))) (pkR R)) (pkR R)) (pkR R)) (pkR R)) (pkR R)) (
 R (.returned (.tuple #[])) w5)) (pkR R)) (pkR R)) (pkR R)) (pkR R)
theorem vc_slices_Backward_byte_byte__S1 {R : Ending → World → Prop} {a0 a1 : Value} {w : World} (h : V_slices_Backward_byte_byte__S1 R a0 a1 w) : Calls Tryz.prog 144 #[a0, a1] w R :=
  calls_of_vc (args := [a0, a1]) (fun k => match k with | 1 => ([3], [3, 7, 8, 9, 10, 11, 12, 13, 14, 15, 16, 17, 18]) | _ => ([], [])) (fun _ => none) (fun _ => none) Tryz.func144 (bodyC_some (by kernel_rfl)) rfl (by kernel_rfl) (by kernel_rfl) (by kernel_rfl) (by kernel_rfl) (Eq.mpr (by kernel_rfl) h)

/-- slices.ContainsFunc[[][]byte,[]byte] -/
def V_slices_ContainsFunc_byte_byte (R : Ending → World → Prop) (a0 a1 : Value) (w : World) : Prop :=
 CallS Tryz.prog 109 #[a0, a1] w (retK (fun x7 w1 =>
 Do Tryz.prog (binOp .geq 3 x7 (Value.int IntKind.i64 0)) w1 (fun x8 w2 =>
 R (.returned x8) w2) (pkR R)) (pkR R))
theorem vc_slices_ContainsFunc_byte_byte {R : Ending → World → Prop} {a0 a1 : Value} {w : World} (h : V_slices_ContainsFunc_byte_byte R a0 a1 w) : Calls Tryz.prog 72 #[a0, a1] w R :=
  calls_of_vc (args := [a0, a1]) (fun _ => ([], [])) (fun _ => none) (fun _ => none) Tryz.func72 (bodyC_some (by kernel_rfl)) rfl (by kernel_rfl) (by kernel_rfl) (by kernel_rfl) (by kernel_rfl) (Eq.mpr (by kernel_rfl) h)

/-- slices.IndexFunc[[][]byte,[]byte] -/
def V_slices_IndexFunc_byte_byte (R : Ending → World → Prop) (a0 a1 : Value) (w : World) : Prop :=
 DoN Tryz.prog (builtin .len #[55] 3 #[false] #[a0]) w (fun x7 w1 =>
 ∃ I1 : Nat → List Value → World → Prop, (∃ m, I1 m [(Value.int IntKind.i64 0)] w1) ∧
 ∀ m1 (x8 : Value) (_j1 : Env) (w2 : World), I1 m1 [x8] w2 →
 Do Tryz.prog (binOp .lss 3 x8 x7) w2 (fun x9 w3 =>
 CondV x9 (
 Do Tryz.prog (Instr.indexAt 55 a0 x8) w3 (fun x14 w4 =>
 Do Tryz.prog (Instr.loadAt 22 x14) w4 (fun x15 w5 =>
 CallV Tryz.prog a1 [x15] w5 (fun x16 w6 =>
 CondV x16 (
 R (.returned x8) w6) (
 Do Tryz.prog (binOp .add 3 x8 (Value.int IntKind.i64 1)) w6 (fun x18 w7 =>
 Nxt I1 m1 [x18] w7) (pkR R))) (pkR R)) (pkR R)) (pkR R)) (
 R (.returned (Value.int IntKind.i64 (-1))) w3)) (pkR R)) (pkR R)
theorem vc_slices_IndexFunc_byte_byte {R : Ending → World → Prop} {a0 a1 : Value} {w : World} (h : V_slices_IndexFunc_byte_byte R a0 a1 w) : Calls Tryz.prog 109 #[a0, a1] w R :=
  calls_of_vc (args := [a0, a1]) (fun k => match k with | 2 => ([8], [4, 5, 8, 9, 10, 11, 12, 13, 14, 15, 16, 17, 18]) | _ => ([], [])) (fun _ => none) (fun _ => none) Tryz.func109 (bodyC_some (by kernel_rfl)) rfl (by kernel_rfl) (by kernel_rfl) (by kernel_rfl) (by kernel_rfl) (Eq.mpr (by kernel_rfl) h)

/-- slices.ContainsFunc[[]buttress/api.Stub,buttress/api.Stub] -/
def V_slices_ContainsFunc_api_Stub_api_Stub (R : Ending → World → Prop) (a0 a1 : Value) (w : World) : Prop :=
 CallS Tryz.prog 143 #[a0, a1] w (retK (fun x7 w1 =>
 Do Tryz.prog (binOp .geq 3 x7 (Value.int IntKind.i64 0)) w1 (fun x8 w2 =>
 R (.returned x8) w2) (pkR R)) (pkR R))
theorem vc_slices_ContainsFunc_api_Stub_api_Stub {R : Ending → World → Prop} {a0 a1 : Value} {w : World} (h : V_slices_ContainsFunc_api_Stub_api_Stub R a0 a1 w) : Calls Tryz.prog 104 #[a0, a1] w R :=
  calls_of_vc (args := [a0, a1]) (fun _ => ([], [])) (fun _ => none) (fun _ => none) Tryz.func104 (bodyC_some (by kernel_rfl)) rfl (by kernel_rfl) (by kernel_rfl) (by kernel_rfl) (by kernel_rfl) (Eq.mpr (by kernel_rfl) h)

/-- slices.IndexFunc[[]buttress/api.Stub,buttress/api.Stub] -/
def V_slices_IndexFunc_api_Stub_api_Stub (R : Ending → World → Prop) (a0 a1 : Value) (w : World) : Prop :=
 DoN Tryz.prog (builtin .len #[56] 3 #[false] #[a0]) w (fun x7 w1 =>
 ∃ I1 : Nat → List Value → World → Prop, (∃ m, I1 m [(Value.int IntKind.i64 0)] w1) ∧
 ∀ m1 (x8 : Value) (_j1 : Env) (w2 : World), I1 m1 [x8] w2 →
 Do Tryz.prog (binOp .lss 3 x8 x7) w2 (fun x9 w3 =>
 CondV x9 (
 Do Tryz.prog (Instr.indexAt 56 a0 x8) w3 (fun x14 w4 =>
 Do Tryz.prog (Instr.loadAt 100 x14) w4 (fun x15 w5 =>
 CallV Tryz.prog a1 [x15] w5 (fun x16 w6 =>
 CondV x16 (
 R (.returned x8) w6) (
 Do Tryz.prog (binOp .add 3 x8 (Value.int IntKind.i64 1)) w6 (fun x18 w7 =>
 Nxt I1 m1 [x18] w7) (pkR R))) (pkR R)) (pkR R)) (pkR R)) (
 R (.returned (Value.int IntKind.i64 (-1))) w3)) (pkR R)) (pkR R)
theorem vc_slices_IndexFunc_api_Stub_api_Stub {R : Ending → World → Prop} {a0 a1 : Value} {w : World} (h : V_slices_IndexFunc_api_Stub_api_Stub R a0 a1 w) : Calls Tryz.prog 143 #[a0, a1] w R :=
  calls_of_vc (args := [a0, a1]) (fun k => match k with | 2 => ([8], [4, 5, 8, 9, 10, 11, 12, 13, 14, 15, 16, 17, 18]) | _ => ([], [])) (fun _ => none) (fun _ => none) Tryz.func143 (bodyC_some (by kernel_rfl)) rfl (by kernel_rfl) (by kernel_rfl) (by kernel_rfl) (by kernel_rfl) (Eq.mpr (by kernel_rfl) h)

/-- slices.Collect[[]byte] -/
def V_slices_Collect_byte (R : Ending → World → Prop) (a0 : Value) (w : World) : Prop :=
 CallS Tryz.prog 114 #[(Value.slice Option.none 0 0), a0] w (retK (fun x4 w1 =>
 R (.returned x4) w1) (pkR R))
theorem vc_slices_Collect_byte {R : Ending → World → Prop} {a0 : Value} {w : World} (h : V_slices_Collect_byte R a0 w) : Calls Tryz.prog 75 #[a0] w R :=
  calls_of_vc (args := [a0]) (fun _ => ([], [])) (fun _ => none) (fun _ => none) Tryz.func75 (bodyC_some (by kernel_rfl)) rfl (by kernel_rfl) (by kernel_rfl) (by kernel_rfl) (by kernel_rfl) (Eq.mpr (by kernel_rfl) h)

/-- slices.AppendSeq[[][]byte,[]byte] -/
def V_slices_AppendSeq_byte_byte (R : Ending → World → Prop) (a0 a1 : Value) (w : World) : Prop :=
 Do Tryz.prog (Instr.box 55 a0) w (fun x2 w1 =>
 RangeF Tryz.prog a1 1 (fun l1 Rec1 y1 w2 R1 =>
 w2.heap[l1]? = some (Rec1 .ready none) ∧
 Do Tryz.prog (Instr.loadAt 55 x2) (w2.putObj l1 (Rec1 .busy none)) (fun x8 w3 =>
 Do Tryz.prog (Instr.buildSlice 55 1 #[(0, (y1 0))]) w3 (fun x10 w4 =>
 DoN Tryz.prog (builtin .append #[55, 55] 55 #[false, false] #[x8, x10]) w4 (fun x11 w5 =>
 DoU Tryz.prog (Instr.storeAt 55 x2 x11) w5 (fun w6 =>
 R1 .normal w6) (fun _ _ => False)) (fun _ _ => False)) (fun _ _ => False)) (fun _ _ => False)) w1 (fun d1 w7 =>
 Do Tryz.prog (Instr.loadAt 55 x2) w7 (fun x12 w10 =>
 EndV Tryz.prog (fun w R => R (.returned x12) w) R [d1] .returning w10) (fun c w => EndV Tryz.prog (fun w R => False) R [d1] (.panicking c) w)) (fun d1 w8 => EndV Tryz.prog (fun w R => R (.returned (Value.slice Option.none 0 0)) w) R [d1] .returning w8) (fun id1 d1 w9 => (if id1 = 0 then Do Tryz.prog (Instr.loadAt 55 x2) w9 (fun x12_1 w11 =>
 EndV Tryz.prog (fun w R => R (.returned x12_1) w) R [d1] .returning w11) (fun c w => EndV Tryz.prog (fun w R => False) R [d1] (.panicking c) w) else False)) (fun c d1 w => (fun c w => EndV Tryz.prog (fun w R => False) R [d1] (.panicking c) w) c w)) (pkR R)
theorem vc_slices_AppendSeq_byte_byte {R : Ending → World → Prop} {a0 a1 : Value} {w : World} (h : V_slices_AppendSeq_byte_byte R a0 a1 w) : Calls Tryz.prog 114 #[a0, a1] w R :=
  calls_of_vcT (args := [a0, a1]) (fun _ => ([], [])) (fun _ => none) (fun _ => none) Tryz.func114 (bodyC_some (by kernel_rfl)) rfl (by kernel_rfl) (by kernel_rfl) (by kernel_rfl) (Eq.mpr (by kernel_rfl) h)

/-- buttress/buttresslaw13.key0 -/
def V_buttresslaw13_key0 (R : Ending → World → Prop) (w : World) : Prop :=
 ∃ I1 : Nat → List Value → World → Prop, (∃ m, I1 m [(Value.string (ByteArray.mk #[97])), (Value.int IntKind.i64 0)] w) ∧
 ∀ m1 (x1 : Value) (x2 : Value) (_j1 : Env) (w1 : World), I1 m1 [x1, x2] w1 →
 Do Tryz.prog (binOp .lss 3 x2 (Value.int IntKind.i64 200)) w1 (fun x4 w2 =>
 BoolV x4 (fun b4 =>
 SplitB b4 (
 CallS Tryz.prog 15 #[x1] w2 (retK (fun x7 w3 =>
 Do Tryz.prog ((do eqGuard .neq 3 (Operand.tmp 7) (Operand.const (Value.int IntKind.i64 0)) x7 (Value.int IntKind.i64 0); binOp .neq 3 x7 (Value.int IntKind.i64 0) : Sem Value)) w3 (fun x8 w4 =>
 CondV x8 (
 Do Tryz.prog (binOp .rem 3 x2 (Value.int IntKind.i64 26)) w4 (fun x13 w5 =>
 Do Tryz.prog (binOp .add 3 (Value.int IntKind.i64 97) x13) w5 (fun x14 w6 =>
 Do Tryz.prog (convert 3 5 x14) w6 (fun x15 w7 =>
 Do Tryz.prog (binOp .quo 3 x2 (Value.int IntKind.i64 26)) w7 (fun x17 w8 =>
 Do Tryz.prog (binOp .add 3 (Value.int IntKind.i64 97) x17) w8 (fun x18 w9 =>
 Do Tryz.prog (convert 3 5 x18) w9 (fun x19 w10 =>
 Do Tryz.prog (Instr.buildSlice 22 2 #[(0, x15), (1, x19)]) w10 (fun x20 w11 =>
 Do Tryz.prog (convert 22 9 x20) w11 (fun x21 w12 =>
 Do Tryz.prog (binOp .add 3 x2 (Value.int IntKind.i64 1)) w12 (fun x11 w13 =>
 Nxt I1 m1 [x21, x11] w13) (pkR R)) (pkR R)) (pkR R)) (pkR R)) (pkR R)) (pkR R)) (pkR R)) (pkR R)) (pkR R)) (
 R (.returned x1) w4)) (pkR R)) (pkR R))) (
 R (.returned x1) w2))) (pkR R)
theorem vc_buttresslaw13_key0 {R : Ending → World → Prop} {w : World} (h : V_buttresslaw13_key0 R w) : Calls Tryz.prog 36 #[] w R :=
  calls_of_vc (args := []) (fun k => match k with | 3 => ([1, 2], [1, 2, 3, 4, 5, 6, 7, 8, 9, 10, 11, 12, 13, 14, 15, 16, 17, 18, 19, 20, 21]) | _ => ([], [])) (fun _ => none) (fun _ => none) Tryz.func36 (bodyC_some (by kernel_rfl)) rfl (by kernel_rfl) (by kernel_rfl) (by kernel_rfl) (by kernel_rfl) (Eq.mpr (by kernel_rfl) h)

/-- buttress/buttresslaw13.awake -/
def V_buttresslaw13_awake (R : Ending → World → Prop) (w : World) : Prop :=
 CallS Tryz.prog 8 #[(Value.int IntKind.i64 0)] w (retK (fun x8 w1 =>
 CallS Tryz.prog 36 #[] w1 (retK (fun x9 w2 =>
 CallS Tryz.prog 14 #[x8, x9] w2 (retK (fun x13 w3 =>
 Do Tryz.prog (Instr.extract x13 0) w3 (fun x14 w4 =>
 Do Tryz.prog (Instr.extract x13 1) w4 (fun x15 w5 =>
 Do Tryz.prog (Instr.alloc 58 true (.tuple #[])) w5 (fun x3 w6 =>
 DoU Tryz.prog (Instr.storeAt 58 x3 x14) w6 (fun w7 =>
 ∃ (E1 : World → World → Prop) (Φ1 : Nat → Value → World → Prop), Pre E1 ∧ (∀ i v w w', E1 w w' → Φ1 i v w → Φ1 i v w') ∧
 (∀ w8 : World, E1 w7.drew w8 → Facts Φ1 [] w8 → CallS Tryz.prog 22 #[x8] w8 (retK (fun x18 w9 =>
 E1 w8 w9 ∧ Φ1 1 x18 w9) (fun _ _ => False))) ∧ ∀ x18_1 : Value,
 PureQ Tryz.prog (fun z => E1 w7.drew z ∧ Facts Φ1 [] z) (Instr.loadAt 58 x3) (fun x20 =>
 (∀ w10 : World, E1 w7.drew w10 → Facts Φ1 [(1, x18_1)] w10 → CallS Tryz.prog 37 #[(Value.int IntKind.i64 0), x18_1, x9, x20] w10 (retK (fun x21 w11 =>
 E1 w10 w11 ∧ Φ1 4 x21 w11) (fun _ _ => False))) ∧ ∀ x21_1 : Value,
 PureQ Tryz.prog (fun z => E1 w7.drew z ∧ Facts Φ1 [(4, x21_1), (1, x18_1)] z) (Instr.extract x21_1 0) (fun x22 =>
 PureQ Tryz.prog (fun z => E1 w7.drew z ∧ Facts Φ1 [(4, x21_1), (1, x18_1)] z) (Instr.extract x21_1 1) (fun x23 =>
 ∀ w12 : World, E1 w7.drew w12 → Facts Φ1 [(4, x21_1), (1, x18_1)] w12 →
 Do Tryz.prog (Instr.makeSlice 22 (Value.int IntKind.i64 64) (Value.int IntKind.i64 64)) w12 (fun x24 w13 =>
 ∃ (E2 : World → World → Prop) (Φ2 : Nat → Value → World → Prop), Pre E2 ∧ (∀ i v w w', E2 w w' → Φ2 i v w → Φ2 i v w') ∧
 PureQ Tryz.prog (fun z => E2 w13.drew z ∧ Facts Φ2 [] z) ((do eqGuard .eql 44 (Operand.tmp 25) (Operand.const (Value.int IntKind.i64 0)) x15 (Value.int IntKind.i64 0); binOp .eql 44 x15 (Value.int IntKind.i64 0) : Sem Value)) (fun x26 =>
 BoolV x26 (fun b1 =>
 SplitB b1 (
 PureQ Tryz.prog (fun z => E2 w13.drew z ∧ Facts Φ2 [] z) ((do eqGuard .eql 44 (Operand.tmp 28) (Operand.const (Value.int IntKind.i64 0)) x23 (Value.int IntKind.i64 0); binOp .eql 44 x23 (Value.int IntKind.i64 0) : Sem Value)) (fun x29 =>
 BoolV x29 (fun b2 =>
 SplitB b2 (
 PureN Tryz.prog (fun z => E2 w13.drew z ∧ Facts Φ2 [] z) (builtin .len #[22] 3 #[false] #[x22]) (fun x33 =>
 PureQ Tryz.prog (fun z => E2 w13.drew z ∧ Facts Φ2 [] z) ((do eqGuard .eql 3 (Operand.tmp 33) (Operand.const (Value.int IntKind.i64 0)) x33 (Value.int IntKind.i64 0); binOp .eql 3 x33 (Value.int IntKind.i64 0) : Sem Value)) (fun x34 =>
 BoolV x34 (fun b3 =>
 SplitB b3 (
 PureQ Tryz.prog (fun z => E2 w13.drew z ∧ Facts Φ2 [] z) (Instr.loadAt 58 x3) (fun x37 =>
 (∀ w14 : World, E2 w13.drew w14 → Facts Φ2 [] w14 → CallS Tryz.prog 38 #[x37] w14 (retK (fun x38 w15 =>
 E2 w14 w15 ∧ Φ2 13 x38 w15 ∧ ∃ b, x38 = .bool b) (fun _ _ => False))) ∧ ∀ b4 : Bool,
 SplitB b4 (
 (∀ w16 : World, E2 w13.drew w16 → Facts Φ2 [(13, (Value.bool b4))] w16 → CallS Tryz.prog 22 #[x8] w16 (retK (fun x42 w17 =>
 E2 w16 w17 ∧ Φ2 17 x42 w17) (fun _ _ => False))) ∧ ∀ x42_1 : Value,
 PureQ Tryz.prog (fun z => E2 w13.drew z ∧ Facts Φ2 [(13, (Value.bool b4))] z) (Instr.loadAt 58 x3) (fun x44 =>
 (∀ w18 : World, E2 w13.drew w18 → Facts Φ2 [(17, x42_1), (13, (Value.bool b4))] w18 → CallS Tryz.prog 39 #[(Value.int IntKind.i64 0), x42_1, x9, x44, (Value.slice Option.none 0 0)] w18 (retK (fun x45 w19 =>
 E2 w18 w19 ∧ Φ2 20 x45 w19) (fun _ _ => False))) ∧ ∀ x45_1 : Value,
 PureQ Tryz.prog (fun z => E2 w13.drew z ∧ Facts Φ2 [(20, x45_1), (17, x42_1), (13, (Value.bool b4))] z) ((do eqGuard .eql 44 (Operand.tmp 45) (Operand.const (Value.int IntKind.i64 0)) x45_1 (Value.int IntKind.i64 0); binOp .eql 44 x45_1 (Value.int IntKind.i64 0) : Sem Value)) (fun x46 =>
 BoolV x46 (fun b5 =>
 SplitB b5 (
 PureQ Tryz.prog (fun z => E2 w13.drew z ∧ Facts Φ2 [(20, x45_1), (17, x42_1), (13, (Value.bool b4))] z) (Instr.loadAt 58 x3) (fun x51 =>
 (∀ w20 : World, E2 w13.drew w20 → Facts Φ2 [(20, x45_1), (17, x42_1), (13, (Value.bool b4))] w20 → CallS Tryz.prog 39 #[(Value.int IntKind.i64 0), x24, x9, x51, (Value.slice Option.none 0 0)] w20 (retK (fun x52 w21 =>
 E2 w20 w21 ∧ Φ2 27 x52 w21) (fun _ _ => False))) ∧ ∀ x52_1 : Value,
 PureQ Tryz.prog (fun z => E2 w13.drew z ∧ Facts Φ2 [(27, x52_1), (20, x45_1), (17, x42_1), (13, (Value.bool b4))] z) ((do eqGuard .eql 44 (Operand.tmp 52) (Operand.const (Value.int IntKind.i64 23)) x52_1 (Value.int IntKind.i64 23); binOp .eql 44 x52_1 (Value.int IntKind.i64 23) : Sem Value)) (fun x53 =>
 BoolV x53 (fun b6 =>
 SplitB b6 (
 PureQ Tryz.prog (fun z => E2 w13.drew z ∧ Facts Φ2 [(27, x52_1), (20, x45_1), (17, x42_1), (13, (Value.bool b4))] z) (Instr.loadAt 58 x3) (fun x57 =>
 ∀ w22 : World, E2 w13.drew w22 → Facts Φ2 [(27, x52_1), (20, x45_1), (17, x42_1), (13, (Value.bool b4))] w22 →
 CallS Tryz.prog 40 #[(Value.int IntKind.i64 0), x9, x57, (Value.slice Option.none 0 0)] w22 (retK (fun x58 w23 =>
 DoN Tryz.prog (builtin .len #[55] 3 #[false] #[x58]) w23 (fun x59 w24 =>
 Do Tryz.prog ((do eqGuard .eql 3 (Operand.tmp 59) (Operand.const (Value.int IntKind.i64 3)) x59 (Value.int IntKind.i64 3); binOp .eql 3 x59 (Value.int IntKind.i64 3) : Sem Value)) w24 (fun x60 w25 =>
 R (.returned x60) w25) (pkR R)) (pkR R)) (pkR R)))) (
 ∀ w26 : World, E2 w13.drew w26 → Facts Φ2 [(27, x52_1), (20, x45_1), (17, x42_1), (13, (Value.bool b4))] w26 →
 R (.returned (Value.bool Bool.false)) w26))))) (
 ∀ w27 : World, E2 w13.drew w27 → Facts Φ2 [(20, x45_1), (17, x42_1), (13, (Value.bool b4))] w27 →
 R (.returned (Value.bool Bool.false)) w27))))) (
 ∀ w28 : World, E2 w13.drew w28 → Facts Φ2 [(13, (Value.bool b4))] w28 →
 R (.returned (Value.bool Bool.false)) w28))) (
 ∀ w29 : World, E2 w13.drew w29 → Facts Φ2 [] w29 →
 R (.returned (Value.bool Bool.false)) w29))))) (
 ∀ w30 : World, E2 w13.drew w30 → Facts Φ2 [] w30 →
 R (.returned (Value.bool Bool.false)) w30)))) (
 ∀ w31 : World, E2 w13.drew w31 → Facts Φ2 [] w31 →
 R (.returned (Value.bool Bool.false)) w31)))) (pkR R))))) (pkR R)) (pkR R)) (pkR R)) (pkR R)) (pkR R))) (pkR R))) (pkR R))
theorem vc_buttresslaw13_awake {R : Ending → World → Prop} {w : World} (h : V_buttresslaw13_awake R w) : Calls Tryz.prog 13 #[] w R :=
  calls_of_vc (args := []) (fun _ => ([], [])) (fun _ => none) (fun _ => none) Tryz.func13 (bodyC_some (by kernel_rfl)) rfl (by kernel_rfl) (by kernel_rfl) (by kernel_rfl) (by kernel_rfl) (Eq.mpr (by kernel_rfl) h)

/-- buttress/buttresslaw13.ProofNone -/
def V_buttresslaw13_ProofNone (R : Ending → World → Prop) (a0 : Value) (w : World) : Prop :=
 CallS Tryz.prog 13 #[] w (retK (fun x11 w1 =>
 Do Tryz.prog (Op.unary .not x11) w1 (fun x12 w2 =>
 CondV x12 (
 R (.returned (Value.bool Bool.false)) w2) (
 DoN Tryz.prog (builtin .len #[9] 3 #[false] #[a0]) w2 (fun x14 w3 =>
 Do Tryz.prog (binOp .gtr 3 x14 (Value.int IntKind.i64 200)) w3 (fun x15 w4 =>
 CondV x15 (
 R (.returned (Value.bool Bool.true)) w4) (
 CallS Tryz.prog 14 #[(Value.pointer Option.none), a0] w4 (retK (fun x18 w5 =>
 Do Tryz.prog (Instr.extract x18 0) w5 (fun x19 w6 =>
 Do Tryz.prog (Instr.extract x18 1) w6 (fun x20 w7 =>
 Do Tryz.prog (Instr.alloc 58 true (.tuple #[])) w7 (fun x3 w8 =>
 DoU Tryz.prog (Instr.storeAt 58 x3 x19) w8 (fun w9 =>
 Do Tryz.prog (Instr.build 36 #[]) w9 (fun x22 w10 =>
 Do Tryz.prog (Instr.box 36 x22) w10 (fun x23 w11 =>
 CallS Tryz.prog 14 #[x23, a0] w11 (retK (fun x25 w12 =>
 Do Tryz.prog (Instr.extract x25 0) w12 (fun x26 w13 =>
 Do Tryz.prog (Instr.extract x25 1) w13 (fun x27 w14 =>
 Do Tryz.prog (Instr.alloc 58 true (.tuple #[])) w14 (fun x5 w15 =>
 DoU Tryz.prog (Instr.storeAt 58 x5 x26) w15 (fun w16 =>
 Do Tryz.prog ((do eqGuard .neq 44 (Operand.tmp 28) (Operand.const (Value.int IntKind.i64 1)) x20 (Value.int IntKind.i64 1); binOp .neq 44 x20 (Value.int IntKind.i64 1) : Sem Value)) w16 (fun x29 w17 =>
 BoolV x29 (fun b2 =>
 SplitB b2 (
 R (.returned (Value.bool Bool.false)) w17) (
 Do Tryz.prog ((do eqGuard .neq 44 (Operand.tmp 31) (Operand.const (Value.int IntKind.i64 1)) x27 (Value.int IntKind.i64 1); binOp .neq 44 x27 (Value.int IntKind.i64 1) : Sem Value)) w17 (fun x32 w18 =>
 CondV x32 (
 R (.returned (Value.bool Bool.false)) w18) (
 ∃ I1 : Nat → List Value → World → Prop, (∃ m, I1 m [(Value.int IntKind.i64 0)] w18) ∧
 ∀ m1 (x7 : Value) (_j1 : Env) (w19 : World), I1 m1 [x7] w19 →
 Do Tryz.prog (binOp .lss 3 x7 (Value.int IntKind.i64 4)) w19 (fun x35 w20 =>
 CondV x35 (
 CallS Tryz.prog 8 #[x7] w20 (retK (fun x40 w21 =>
 CallS Tryz.prog 14 #[x40, a0] w21 (retK (fun x42 w22 =>
 Do Tryz.prog (Instr.extract x42 0) w22 (fun x43 w23 =>
 Do Tryz.prog (Instr.extract x42 1) w23 (fun x44 w24 =>
 Do Tryz.prog (Instr.alloc 58 true (.tuple #[])) w24 (fun x8 w25 =>
 DoU Tryz.prog (Instr.storeAt 58 x8 x43) w25 (fun w26 =>
 ∃ J2 : List Value → World → Prop, (
 DoN Tryz.prog (builtin .len #[9] 3 #[false] #[a0]) w26 (fun x46 w27 =>
 Do Tryz.prog (binOp .geq 3 x46 (Value.int IntKind.i64 1)) w27 (fun x47 w28 =>
 BoolV x47 (fun b23 =>
 SplitB b23 (
 DoN Tryz.prog (builtin .len #[9] 3 #[false] #[a0]) w28 (fun x50 w29 =>
 Do Tryz.prog (binOp .leq 3 x50 (Value.int IntKind.i64 64)) w29 (fun x51 w30 =>
 BoolV x51 (fun b24 =>
 SplitB b24 (
 CallS Tryz.prog 15 #[a0] w30 (retK (fun x55 w31 =>
 Do Tryz.prog ((do eqGuard .eql 3 (Operand.tmp 55) (Operand.tmp 56) x55 x7; binOp .eql 3 x55 x7 : Sem Value)) w31 (fun x57 w32 =>
 J2 [x57] w32) (pkR R)) (pkR R))) (
 J2 [(Value.bool Bool.false)] w30))) (pkR R)) (pkR R)) (
 J2 [(Value.bool Bool.false)] w28))) (pkR R)) (pkR R)) ∧
 ∀ (x10 : Value) (_j2 : Env) (w33 : World), J2 [x10] w33 →
 Do Tryz.prog ((do eqGuard .eql 44 (Operand.tmp 60) (Operand.const (Value.int IntKind.i64 0)) x44 (Value.int IntKind.i64 0); binOp .eql 44 x44 (Value.int IntKind.i64 0) : Sem Value)) w33 (fun x61 w34 =>
 Do Tryz.prog ((do eqGuard .neq 4 (Operand.tmp 59) (Operand.tmp 61) x10 x61; binOp .neq 4 x10 x61 : Sem Value)) w34 (fun x62 w35 =>
 BoolV x62 (fun b25 =>
 SplitB b25 (
 R (.returned (Value.bool Bool.false)) w35) (
 Do Tryz.prog (Op.unary .not x10) w35 (fun x65 w36 =>
 BoolV x65 (fun b26 =>
 SplitB b26 (
 Do Tryz.prog ((do eqGuard .neq 44 (Operand.tmp 67) (Operand.const (Value.int IntKind.i64 22)) x44 (Value.int IntKind.i64 22); binOp .neq 44 x44 (Value.int IntKind.i64 22) : Sem Value)) w36 (fun x68 w37 =>
 CondV x68 (
 R (.returned (Value.bool Bool.false)) w37) (
 Do Tryz.prog (binOp .add 3 x7 (Value.int IntKind.i64 1)) w37 (fun x37 w38 =>
 Nxt I1 m1 [x37] w38) (pkR R))) (pkR R)) (
 Do Tryz.prog (binOp .add 3 x7 (Value.int IntKind.i64 1)) w36 (fun x37_1 w39 =>
 Nxt I1 m1 [x37_1] w39) (pkR R)))) (pkR R)))) (pkR R)) (pkR R)) (pkR R)) (pkR R)) (pkR R)) (pkR R)) (pkR R))) (pkR R))) (
 R (.returned (Value.bool Bool.true)) w20)) (pkR R))) (pkR R)))) (pkR R)) (pkR R)) (pkR R)) (pkR R)) (pkR R)) (pkR R))) (pkR R)) (pkR R)) (pkR R)) (pkR R)) (pkR R)) (pkR R)) (pkR R)))) (pkR R)) (pkR R))) (pkR R)) (pkR R))
theorem vc_buttresslaw13_ProofNone {R : Ending → World → Prop} {a0 : Value} {w : World} (h : V_buttresslaw13_ProofNone R a0 w) : Calls Tryz.prog 4 #[a0] w R :=
  calls_of_vc (args := [a0]) (fun k => match k with | 10 => ([7], [2, 7, 8, 9, 10, 34, 35, 36, 37, 38, 39, 40, 41, 42, 43, 44, 45, 46, 47, 48, 49, 50, 51, 52, 53, 54, 55, 56, 57, 58, 59, 60, 61, 62, 63, 64, 65, 66, 67, 68, 69, 70]) | _ => ([], [])) (fun k => match k with | 14 => some ([10], [10, 45, 46, 47, 48, 49, 50, 51, 52, 53, 54, 55, 56, 57, 58]) | _ => none) (fun _ => none) Tryz.func4 (bodyC_some (by kernel_rfl)) rfl (by kernel_rfl) (by kernel_rfl) (by kernel_rfl) (by kernel_rfl) (Eq.mpr (by kernel_rfl) h)

end Go.Proofs.YtpdceilhgaladaaGreatDoor
