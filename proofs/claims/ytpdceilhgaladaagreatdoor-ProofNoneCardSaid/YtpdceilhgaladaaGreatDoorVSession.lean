/- PRINTED BY gen.py (a program of this claim): what each function comes to, operation by operation. -/
import Derived.Test.YtpdceilhgaladaaGreatDoorProg
import Derived.Test.YtpdceilhgaladaaGreatDoorVc
import Derived.KernelRfl
set_option maxRecDepth 100000
namespace Go.Proofs.YtpdceilhgaladaaGreatDoor
open Go.Vc

/-- buttress/session.New -/
def V_session_New (R : Ending → World → Prop) (a0 a1 a2 : Value) (w : World) : Prop :=
 CallS Tryz.prog 26 #[a0] w (retK (fun x9 w1 =>
 Do Tryz.prog ((do eqGuard .eql 28 (Operand.tmp 10) (Operand.const (Value.pointer Option.none)) x9 (Value.pointer Option.none); binOp .eql 28 x9 (Value.pointer Option.none) : Sem Value)) w1 (fun x11 w2 =>
 BoolV x11 (fun b4 =>
 SplitB b4 (
 R (.returned (Value.pointer Option.none)) w2) (
 Do Tryz.prog (binOp .lss 3 a1 (Value.int IntKind.i64 1)) w2 (fun x14 w3 =>
 BoolV x14 (fun b5 =>
 SplitB b5 (
 R (.returned (Value.pointer Option.none)) w3) (
 Do Tryz.prog (binOp .gtr 3 a1 (Value.int IntKind.i64 7)) w3 (fun x18 w4 =>
 BoolV x18 (fun b6 =>
 SplitB b6 (
 R (.returned (Value.pointer Option.none)) w4) (
 Do Tryz.prog (binOp .lss 3 a2 (Value.int IntKind.i64 1)) w4 (fun x22 w5 =>
 CondV x22 (
 R (.returned (Value.pointer Option.none)) w5) (
 Do Tryz.prog (Instr.build 38 #[(0, x9)]) w5 (fun x25 w6 =>
 Do Tryz.prog (Instr.makeMap 34 none) w6 (fun x26 w7 =>
 Do Tryz.prog (Instr.build 40 #[(0, x26)]) w7 (fun x27 w8 =>
 Do Tryz.prog (Instr.build 42 #[(0, x25), (1, x27), (2, a1), (3, (Value.bool Bool.false))]) w8 (fun x29 w9 =>
 Do Tryz.prog (Instr.box 42 x29) w9 (fun x30 w10 =>
 R (.returned x30) w10) (pkR R)) (pkR R)) (pkR R)) (pkR R)) (pkR R))) (pkR R)))) (pkR R)))) (pkR R)))) (pkR R)) (pkR R))
theorem vc_session_New {R : Ending → World → Prop} {a0 a1 a2 : Value} {w : World} (h : V_session_New R a0 a1 a2 w) : Calls Tryz.prog 7 #[a0, a1, a2] w R :=
  calls_of_vc (args := [a0, a1, a2]) (fun _ => ([], [])) (fun _ => none) (fun _ => none) Tryz.func7 (bodyC_some (by kernel_rfl)) rfl (by kernel_rfl) (by kernel_rfl) (by kernel_rfl) (by kernel_rfl) (Eq.mpr (by kernel_rfl) h)

/-- (*buttress/session.Pull).there -/
def V_session_Pull_there (R : Ending → World → Prop) (a0 : Value) (w : World) : Prop :=
 Do Tryz.prog ((do eqGuard .neq 26 (Operand.tmp 3) (Operand.const (Value.pointer Option.none)) a0 (Value.pointer Option.none); binOp .neq 26 a0 (Value.pointer Option.none) : Sem Value)) w (fun x4 w1 =>
 BoolV x4 (fun b1 =>
 SplitB b1 (
 DoN Tryz.prog (nilS a0) w1 (fun x7 w2 =>
 Do Tryz.prog (Instr.fieldAt 42 x7 2) w2 (fun x8 w3 =>
 Do Tryz.prog (Instr.loadAt 3 x8) w3 (fun x9 w4 =>
 Do Tryz.prog (binOp .gtr 3 x9 (Value.int IntKind.i64 0)) w4 (fun x10 w5 =>
 R (.returned x10) w5) (pkR R)) (pkR R)) (pkR R)) (pkR R)) (
 R (.returned (Value.bool Bool.false)) w1))) (pkR R)
theorem vc_session_Pull_there {R : Ending → World → Prop} {a0 : Value} {w : World} (h : V_session_Pull_there R a0 w) : Calls Tryz.prog 28 #[a0] w R :=
  calls_of_vc (args := [a0]) (fun _ => ([], [])) (fun _ => none) (fun _ => none) Tryz.func28 (bodyC_some (by kernel_rfl)) rfl (by kernel_rfl) (by kernel_rfl) (by kernel_rfl) (by kernel_rfl) (Eq.mpr (by kernel_rfl) h)

/-- (*buttress/session.Pull).Offer -/
def V_session_Pull_Offer (R : Ending → World → Prop) (a0 a1 a2 : Value) (w : World) : Prop :=
 Do Tryz.prog (Instr.box 24 a1) w (fun x4 w1 =>
 ∃ J1 : List Value → World → Prop, (
 CallS Tryz.prog 28 #[a0] w1 (retK (fun x10 w2 =>
 Do Tryz.prog (Op.unary .not x10) w2 (fun x11 w3 =>
 CondV x11 (
 R (.returned (.tuple #[(Value.slice Option.none 0 0), (Value.int IntKind.i64 1)])) w3) (
 DoN Tryz.prog (nilS a0) w3 (fun x14 w4 =>
 Do Tryz.prog (Instr.fieldAt 42 x14 3) w4 (fun x15 w5 =>
 Do Tryz.prog (Instr.loadAt 4 x15) w5 (fun x16 w6 =>
 CondV x16 (
 R (.returned (.tuple #[(Value.slice Option.none 0 0), (Value.int IntKind.i64 27)])) w6) (
 Do Tryz.prog (Instr.loadAt 24 x4) w6 (fun x18 w7 =>
 CallS Tryz.prog 29 #[x18] w7 (retK (fun x19 w8 =>
 Do Tryz.prog (Op.unary .not x19) w8 (fun x20 w9 =>
 CondV x20 (
 CondV x20 (
 R (.returned (.tuple #[(Value.slice Option.none 0 0), (Value.int IntKind.i64 22)])) w9) (
 ∃ (E2 : World → World → Prop) (Φ2 : Nat → Value → World → Prop), Pre E2 ∧ (∀ i v w w', E2 w w' → Φ2 i v w → Φ2 i v w') ∧
 PureQ Tryz.prog (fun z => E2 w9.drew z ∧ Facts Φ2 [] z) (Instr.fieldAt 24 x4 1) (fun x38 =>
 PureQ Tryz.prog (fun z => E2 w9.drew z ∧ Facts Φ2 [] z) (Instr.loadAt 3 x38) (fun x39 =>
 (∀ w10 : World, E2 w9.drew w10 → Facts Φ2 [] w10 → CallS Tryz.prog 31 #[x39, a2] w10 (retK (fun x41 w11 =>
 E2 w10 w11 ∧ Φ2 3 x41 w11) (fun _ _ => False))) ∧ ∀ x41_1 : Value,
 PureQ Tryz.prog (fun z => E2 w9.drew z ∧ Facts Φ2 [] z) (Instr.fieldAt 24 x4 3) (fun x42 =>
 PureQ Tryz.prog (fun z => E2 w9.drew z ∧ Facts Φ2 [] z) (Instr.loadAt 22 x42) (fun x43 =>
 ∀ w12 : World, E2 w9.drew w12 → Facts Φ2 [(3, x41_1)] w12 →
 CallS Tryz.prog 30 #[x41_1, x43] w12 (retK (fun x44 w13 =>
 Do Tryz.prog (Op.unary .not x44) w13 (fun x45 w14 =>
 CondV x45 (
 R (.returned (.tuple #[(Value.slice Option.none 0 0), (Value.int IntKind.i64 23)])) w14) (
 J1 [] w14)) (pkR R)) (pkR R)))))))) (
 ∃ (E3 : World → World → Prop) (Φ3 : Nat → Value → World → Prop), Pre E3 ∧ (∀ i v w w', E3 w w' → Φ3 i v w → Φ3 i v w') ∧
 PureQ Tryz.prog (fun z => E3 w9.drew z ∧ Facts Φ3 [] z) (Instr.fieldAt 24 x4 0) (fun x21 =>
 PureQ Tryz.prog (fun z => E3 w9.drew z ∧ Facts Φ3 [] z) (Instr.loadAt 3 x21) (fun x22 =>
 PureN Tryz.prog (fun z => E3 w9.drew z ∧ Facts Φ3 [] z) (nilS a0) (fun x24 =>
 PureQ Tryz.prog (fun z => E3 w9.drew z ∧ Facts Φ3 [] z) (Instr.fieldAt 42 x24 2) (fun x25 =>
 PureQ Tryz.prog (fun z => E3 w9.drew z ∧ Facts Φ3 [] z) (Instr.loadAt 3 x25) (fun x26 =>
 ∀ w15 : World, E3 w9.drew w15 → Facts Φ3 [] w15 →
 Do Tryz.prog ((do eqGuard .neq 3 (Operand.tmp 22) (Operand.tmp 26) x22 x26; binOp .neq 3 x22 x26 : Sem Value)) w15 (fun x27 w16 =>
 CondV x27 (
 CondV x27 (
 R (.returned (.tuple #[(Value.slice Option.none 0 0), (Value.int IntKind.i64 22)])) w16) (
 ∃ (E4 : World → World → Prop) (Φ4 : Nat → Value → World → Prop), Pre E4 ∧ (∀ i v w w', E4 w w' → Φ4 i v w → Φ4 i v w') ∧
 PureQ Tryz.prog (fun z => E4 w16.drew z ∧ Facts Φ4 [] z) (Instr.fieldAt 24 x4 1) (fun x38_1 =>
 PureQ Tryz.prog (fun z => E4 w16.drew z ∧ Facts Φ4 [] z) (Instr.loadAt 3 x38_1) (fun x39_1 =>
 (∀ w17 : World, E4 w16.drew w17 → Facts Φ4 [] w17 → CallS Tryz.prog 31 #[x39_1, a2] w17 (retK (fun x41_2 w18 =>
 E4 w17 w18 ∧ Φ4 3 x41_2 w18) (fun _ _ => False))) ∧ ∀ x41_3 : Value,
 PureQ Tryz.prog (fun z => E4 w16.drew z ∧ Facts Φ4 [] z) (Instr.fieldAt 24 x4 3) (fun x42_1 =>
 PureQ Tryz.prog (fun z => E4 w16.drew z ∧ Facts Φ4 [] z) (Instr.loadAt 22 x42_1) (fun x43_1 =>
 ∀ w19 : World, E4 w16.drew w19 → Facts Φ4 [(3, x41_3)] w19 →
 CallS Tryz.prog 30 #[x41_3, x43_1] w19 (retK (fun x44_1 w20 =>
 Do Tryz.prog (Op.unary .not x44_1) w20 (fun x45_1 w21 =>
 CondV x45_1 (
 R (.returned (.tuple #[(Value.slice Option.none 0 0), (Value.int IntKind.i64 23)])) w21) (
 J1 [] w21)) (pkR R)) (pkR R)))))))) (
 ∃ (E5 : World → World → Prop) (Φ5 : Nat → Value → World → Prop), Pre E5 ∧ (∀ i v w w', E5 w w' → Φ5 i v w → Φ5 i v w') ∧
 PureQ Tryz.prog (fun z => E5 w16.drew z ∧ Facts Φ5 [] z) (Instr.fieldAt 24 x4 1) (fun x28 =>
 PureQ Tryz.prog (fun z => E5 w16.drew z ∧ Facts Φ5 [] z) (Instr.loadAt 3 x28) (fun x29 =>
 PureN Tryz.prog (fun z => E5 w16.drew z ∧ Facts Φ5 [] z) (nilS a0) (fun x31 =>
 PureQ Tryz.prog (fun z => E5 w16.drew z ∧ Facts Φ5 [] z) (Instr.fieldAt 42 x31 0) (fun x32 =>
 PureQ Tryz.prog (fun z => E5 w16.drew z ∧ Facts Φ5 [] z) (Instr.fieldAt 38 x32 0) (fun x33 =>
 PureQ Tryz.prog (fun z => E5 w16.drew z ∧ Facts Φ5 [] z) (Instr.loadAt 28 x33) (fun x34 =>
 (∀ w22 : World, E5 w16.drew w22 → Facts Φ5 [] w22 → CallS Tryz.prog 21 #[x34] w22 (retK (fun x35 w23 =>
 E5 w22 w23 ∧ Φ5 7 x35 w23) (fun _ _ => False))) ∧ ∀ x35_1 : Value,
 ∀ w24 : World, E5 w16.drew w24 → Facts Φ5 [(7, x35_1)] w24 →
 Do Tryz.prog ((do eqGuard .neq 3 (Operand.tmp 29) (Operand.tmp 35) x29 x35_1; binOp .neq 3 x29 x35_1 : Sem Value)) w24 (fun x36 w25 =>
 CondV x36 (
 R (.returned (.tuple #[(Value.slice Option.none 0 0), (Value.int IntKind.i64 22)])) w25) (
 ∃ (E6 : World → World → Prop) (Φ6 : Nat → Value → World → Prop), Pre E6 ∧ (∀ i v w w', E6 w w' → Φ6 i v w → Φ6 i v w') ∧
 PureQ Tryz.prog (fun z => E6 w25.drew z ∧ Facts Φ6 [] z) (Instr.fieldAt 24 x4 1) (fun x38_2 =>
 PureQ Tryz.prog (fun z => E6 w25.drew z ∧ Facts Φ6 [] z) (Instr.loadAt 3 x38_2) (fun x39_2 =>
 (∀ w26 : World, E6 w25.drew w26 → Facts Φ6 [] w26 → CallS Tryz.prog 31 #[x39_2, a2] w26 (retK (fun x41_4 w27 =>
 E6 w26 w27 ∧ Φ6 3 x41_4 w27) (fun _ _ => False))) ∧ ∀ x41_5 : Value,
 PureQ Tryz.prog (fun z => E6 w25.drew z ∧ Facts Φ6 [] z) (Instr.fieldAt 24 x4 3) (fun x42_2 =>
 PureQ Tryz.prog (fun z => E6 w25.drew z ∧ Facts Φ6 [] z) (Instr.loadAt 22 x42_2) (fun x43_2 =>
 ∀ w28 : World, E6 w25.drew w28 → Facts Φ6 [(3, x41_5)] w28 →
 CallS Tryz.prog 30 #[x41_5, x43_2] w28 (retK (fun x44_2 w29 =>
 Do Tryz.prog (Op.unary .not x44_2) w29 (fun x45_2 w30 =>
 CondV x45_2 (
 R (.returned (.tuple #[(Value.slice Option.none 0 0), (Value.int IntKind.i64 23)])) w30) (
 J1 [] w30)) (pkR R)) (pkR R)))))))) (pkR R))))))))) (pkR R)))))))) (pkR R)) (pkR R))) (pkR R))) (pkR R)) (pkR R)) (pkR R))) (pkR R)) (pkR R))) ∧
 ∀ (_j1 : Env) (w31 : World), J1 [] w31 →
 DoN Tryz.prog (nilS a0) w31 (fun x47 w32 =>
 Do Tryz.prog (Instr.fieldAt 42 x47 3) w32 (fun x48 w33 =>
 DoU Tryz.prog (Instr.storeAt 4 x48 (Value.bool Bool.true)) w33 (fun w34 =>
 Do Tryz.prog (Instr.buildSlice 55 1 #[(0, a2)]) w34 (fun x51 w35 =>
 Do Tryz.prog (Instr.buildSlice 31 1 #[(0, (Value.string (ByteArray.mk #[])))]) w35 (fun x52 w36 =>
 CallS Tryz.prog 32 #[a0, x51, x52] w36 (retK (fun x53 w37 =>
 R (.returned (.tuple #[x53, (Value.int IntKind.i64 0)])) w37) (pkR R))) (pkR R)) (pkR R)) (pkR R)) (pkR R)) (pkR R)) (pkR R)
theorem vc_session_Pull_Offer {R : Ending → World → Prop} {a0 a1 a2 : Value} {w : World} (h : V_session_Pull_Offer R a0 a1 a2 w) : Calls Tryz.prog 9 #[a0, a1, a2] w R :=
  calls_of_vc (args := [a0, a1, a2]) (fun _ => ([], [])) (fun k => match k with | 11 => some ([], [6, 7, 8, 9, 10, 11, 12, 13, 14, 15, 16, 17, 18, 19, 20, 21, 22, 23, 24, 25, 26, 27, 28, 29, 30, 31, 32, 33, 34, 35, 36, 37, 38, 39, 40, 41, 42, 43, 44, 45]) | _ => none) (fun _ => none) Tryz.func9 (bodyC_some (by kernel_rfl)) rfl (by kernel_rfl) (by kernel_rfl) (by kernel_rfl) (by kernel_rfl) (Eq.mpr (by kernel_rfl) h)

/-- (*buttress/session.Pull).Node -/
def V_session_Pull_Node (R : Ending → World → Prop) (a0 a1 a2 : Value) (w : World) : Prop :=
 Do Tryz.prog (Instr.box 52 a2) w (fun x5 w1 =>
 CallS Tryz.prog 28 #[a0] w1 (retK (fun x16 w2 =>
 Do Tryz.prog (Op.unary .not x16) w2 (fun x17 w3 =>
 CondV x17 (
 R (.returned (.tuple #[(Value.slice Option.none 0 0), (Value.slice Option.none 0 0), (Value.int IntKind.i64 1)])) w3) (
 DoN Tryz.prog (nilS a0) w3 (fun x20 w4 =>
 Do Tryz.prog (Instr.fieldAt 42 x20 1) w4 (fun x21 w5 =>
 Do Tryz.prog (Instr.fieldAt 40 x21 0) w5 (fun x22 w6 =>
 Do Tryz.prog (Instr.loadAt 34 x22) w6 (fun x23 w7 =>
 Do Tryz.prog (Instr.lookup 34 x23 a1 true) w7 (fun x25 w8 =>
 Do Tryz.prog (Instr.extract x25 0) w8 (fun x26 w9 =>
 Do Tryz.prog (Instr.extract x25 1) w9 (fun x27 w10 =>
 Do Tryz.prog (Op.unary .not x27) w10 (fun x30 w11 =>
 CondV x30 (
 R (.returned (.tuple #[(Value.slice Option.none 0 0), (Value.slice Option.none 0 0), (Value.int IntKind.i64 27)])) w11) (
 Do Tryz.prog (Instr.loadAt 52 x5) w11 (fun x35 w12 =>
 CallS Tryz.prog 33 #[a0, a1, x26, x35] w12 (retK (fun x36 w13 =>
 Do Tryz.prog (Op.unary .not x36) w13 (fun x37 w14 =>
 CondV x37 (
 R (.returned (.tuple #[(Value.slice Option.none 0 0), (Value.slice Option.none 0 0), (Value.int IntKind.i64 23)])) w14) (
 DoN Tryz.prog (nilS a0) w14 (fun x39 w15 =>
 Do Tryz.prog (Instr.fieldAt 42 x39 1) w15 (fun x40 w16 =>
 Do Tryz.prog (Instr.fieldAt 40 x40 0) w16 (fun x41 w17 =>
 Do Tryz.prog (Instr.loadAt 34 x41) w17 (fun x42 w18 =>
 DoN Tryz.prog (builtin .delete #[34, 9] 0 #[false, false] #[x42, a1]) w18 (fun _u w19 =>
 ∃ J1 : List Value → World → Prop, (
 Do Tryz.prog (Instr.fieldAt 52 x5 0) w19 (fun x44 w20 =>
 Do Tryz.prog (Instr.loadAt 50 x44) w20 (fun x45 w21 =>
 Do Tryz.prog ((do eqGuard .eql 50 (Operand.tmp 45) (Operand.const (Value.int IntKind.u8 3)) x45 (Value.int IntKind.u8 3); binOp .eql 50 x45 (Value.int IntKind.u8 3) : Sem Value)) w21 (fun x46 w22 =>
 CondV x46 (
 Do Tryz.prog (Instr.fieldAt 52 x5 1) w22 (fun x48 w23 =>
 Do Tryz.prog (Instr.loadAt 22 x48) w23 (fun x49 w24 =>
 Do Tryz.prog (Instr.fieldAt 52 x5 2) w24 (fun x50 w25 =>
 Do Tryz.prog (Instr.loadAt 22 x50) w25 (fun x51 w26 =>
 Do Tryz.prog (Instr.buildSlice 55 2 #[(0, x49), (1, x51)]) w26 (fun x52 w27 =>
 Do Tryz.prog (binOp .add 9 a1 (Value.string (ByteArray.mk #[48]))) w27 (fun x54 w28 =>
 Do Tryz.prog (binOp .add 9 a1 (Value.string (ByteArray.mk #[49]))) w28 (fun x56 w29 =>
 Do Tryz.prog (Instr.buildSlice 31 2 #[(0, x54), (1, x56)]) w29 (fun x57 w30 =>
 CallS Tryz.prog 32 #[a0, x52, x57] w30 (retK (fun x58 w31 =>
 J1 [x58] w31) (pkR R))) (pkR R)) (pkR R)) (pkR R)) (pkR R)) (pkR R)) (pkR R)) (pkR R)) (pkR R)) (
 J1 [(Value.slice Option.none 0 0)] w22)) (pkR R)) (pkR R)) (pkR R)) ∧
 ∀ (x7 : Value) (_j1 : Env) (w32 : World), J1 [x7] w32 →
 DoN Tryz.prog (nilS a0) w32 (fun x60 w33 =>
 Do Tryz.prog (Instr.fieldAt 42 x60 1) w33 (fun x61 w34 =>
 Do Tryz.prog (Instr.fieldAt 40 x61 1) w34 (fun x62 w35 =>
 Do Tryz.prog (Instr.loadAt 3 x62) w35 (fun x63 w36 =>
 Do Tryz.prog (binOp .gtr 3 x63 (Value.int IntKind.i64 261632)) w36 (fun x64 w37 =>
 CondV x64 (
 DoN Tryz.prog (nilS a0) w37 (fun x66 w38 =>
 Do Tryz.prog (Instr.fieldAt 42 x66 1) w38 (fun x67 w39 =>
 Do Tryz.prog (Instr.fieldAt 40 x67 0) w39 (fun x68 w40 =>
 Do Tryz.prog (Instr.loadAt 34 x68) w40 (fun x69 w41 =>
 DoN Tryz.prog (builtin .clear #[34] 0 #[false] #[x69]) w41 (fun _u_1 w42 =>
 R (.returned (.tuple #[(Value.slice Option.none 0 0), (Value.slice Option.none 0 0), (Value.int IntKind.i64 3)])) w42) (pkR R)) (pkR R)) (pkR R)) (pkR R)) (pkR R)) (
 Do Tryz.prog (Instr.fieldAt 52 x5 3) w37 (fun x70 w43 =>
 Do Tryz.prog (Instr.loadAt 30 x70) w43 (fun x71 w44 =>
 DoN Tryz.prog (builtin .len #[30] 3 #[false] #[x71]) w44 (fun x72 w45 =>
 ∃ I2 : Nat → List Value → World → Prop, (∃ m, I2 m [(Value.slice Option.none 0 0), (Value.int IntKind.i64 0)] w45) ∧
 ∀ m2 (x6 : Value) (x73 : Value) (_j2 : Env) (w46 : World), I2 m2 [x6, x73] w46 →
 Do Tryz.prog (binOp .lss 3 x73 x72) w46 (fun x74 w47 =>
 CondV x74 (
 Do Tryz.prog (Instr.indexAt 30 x71 x73) w47 (fun x75 w48 =>
 Do Tryz.prog (Instr.loadAt 83 x75) w48 (fun x76 w49 =>
 Do Tryz.prog (Instr.alloc 83 true (.tuple #[])) w49 (fun x12 w50 =>
 DoU Tryz.prog (Instr.storeAt 83 x12 x76) w50 (fun w51 =>
 Do Tryz.prog (Instr.fieldAt 83 x12 1) w51 (fun x77 w52 =>
 Do Tryz.prog (Instr.loadAt 47 x77) w52 (fun x78 w53 =>
 DoN Tryz.prog (builtin .len #[47] 3 #[false] #[x78]) w53 (fun x79 w54 =>
 ∃ I3 : Nat → List Value → World → Prop, (∃ m, I3 m [x6, (Value.int IntKind.i64 0)] w54) ∧
 ∀ m3 (x6_1 : Value) (x80 : Value) (_j3 : Env) (w55 : World), I3 m3 [x6_1, x80] w55 →
 Do Tryz.prog (binOp .lss 3 x80 x79) w55 (fun x81 w56 =>
 CondV x81 (
 Do Tryz.prog (Instr.indexAt 47 x78 x80) w56 (fun x82 w57 =>
 Do Tryz.prog (Instr.loadAt 86 x82) w57 (fun x83 w58 =>
 Do Tryz.prog (Instr.alloc 86 true (.tuple #[])) w58 (fun x14 w59 =>
 DoU Tryz.prog (Instr.storeAt 86 x14 x83) w59 (fun w60 =>
 ∃ (E4 : World → World → Prop) (Φ4 : Nat → Value → World → Prop), Pre E4 ∧ (∀ i v w w', E4 w w' → Φ4 i v w → Φ4 i v w') ∧
 PureQ Tryz.prog (fun z => E4 w60.drew z ∧ Facts Φ4 [] z) (Instr.fieldAt 86 x14 3) (fun x84 =>
 PureQ Tryz.prog (fun z => E4 w60.drew z ∧ Facts Φ4 [] z) (Instr.loadAt 84 x84) (fun x85 =>
 (∀ w61 : World, E4 w60.drew w61 → Facts Φ4 [] w61 → CallS Tryz.prog 34 #[x85] w61 (retK (fun x86 w62 =>
 E4 w61 w62 ∧ Φ4 2 x86 w62) (fun _ _ => False))) ∧ ∀ x86_1 : Value,
 PureQ Tryz.prog (fun z => E4 w60.drew z ∧ Facts Φ4 [] z) (Instr.fieldAt 86 x14 5) (fun x87 =>
 PureQ Tryz.prog (fun z => E4 w60.drew z ∧ Facts Φ4 [] z) (Instr.loadAt 22 x87) (fun x88 =>
 (∀ w63 : World, E4 w60.drew w63 → Facts Φ4 [(2, x86_1)] w63 → CallS Tryz.prog 35 #[x88] w63 (retK (fun x89 w64 =>
 E4 w63 w64 ∧ Φ4 5 x89 w64) (fun _ _ => False))) ∧ ∀ x89_1 : Value,
 PureQ Tryz.prog (fun z => E4 w60.drew z ∧ Facts Φ4 [] z) (Instr.fieldAt 86 x14 6) (fun x90 =>
 PureQ Tryz.prog (fun z => E4 w60.drew z ∧ Facts Φ4 [] z) (Instr.loadAt 22 x90) (fun x91 =>
 (∀ w65 : World, E4 w60.drew w65 → Facts Φ4 [(5, x89_1), (2, x86_1)] w65 → CallS Tryz.prog 35 #[x91] w65 (retK (fun x92 w66 =>
 E4 w65 w66 ∧ Φ4 8 x92 w66) (fun _ _ => False))) ∧ ∀ x92_1 : Value,
 PureQ Tryz.prog (fun z => E4 w60.drew z ∧ Facts Φ4 [(2, x86_1)] z) (Instr.fieldAt 86 x14 3) (fun x93 =>
 ∀ w67 : World, E4 w60.drew w67 → Facts Φ4 [(8, x92_1), (5, x89_1), (2, x86_1)] w67 →
 DoU Tryz.prog (Instr.storeAt 84 x93 x86_1) w67 (fun w68 =>
 Do Tryz.prog (Instr.fieldAt 86 x14 5) w68 (fun x94 w69 =>
 DoU Tryz.prog (Instr.storeAt 22 x94 x89_1) w69 (fun w70 =>
 Do Tryz.prog (Instr.fieldAt 86 x14 6) w70 (fun x95 w71 =>
 DoU Tryz.prog (Instr.storeAt 22 x95 x92_1) w71 (fun w72 =>
 Do Tryz.prog (Instr.loadAt 86 x14) w72 (fun x97 w73 =>
 Do Tryz.prog (Instr.buildSlice 47 1 #[(0, x97)]) w73 (fun x98 w74 =>
 DoN Tryz.prog (builtin .append #[47, 47] 47 #[false, false] #[x6_1, x98]) w74 (fun x99 w75 =>
 Do Tryz.prog (binOp .add 3 x80 (Value.int IntKind.i64 1)) w75 (fun x100 w76 =>
 Nxt I3 m3 [x99, x100] w76) (pkR R)) (pkR R)) (pkR R)) (pkR R)) (pkR R)) (pkR R)) (pkR R)) (pkR R)) (pkR R))))))))) (pkR R)) (pkR R)) (pkR R)) (pkR R)) (
 Do Tryz.prog (binOp .add 3 x73 (Value.int IntKind.i64 1)) w56 (fun x101 w77 =>
 Nxt I2 m2 [x6_1, x101] w77) (pkR R))) (pkR R)) (pkR R)) (pkR R)) (pkR R)) (pkR R)) (pkR R)) (pkR R)) (pkR R)) (
 R (.returned (.tuple #[x6, x7, (Value.int IntKind.i64 0)])) w47)) (pkR R)) (pkR R)) (pkR R)) (pkR R))) (pkR R)) (pkR R)) (pkR R)) (pkR R)) (pkR R)) (pkR R)) (pkR R)) (pkR R)) (pkR R)) (pkR R))) (pkR R)) (pkR R))) (pkR R))) (pkR R)) (pkR R)) (pkR R)) (pkR R)) (pkR R)) (pkR R)) (pkR R)) (pkR R))) (pkR R)) (pkR R))) (pkR R)
theorem vc_session_Pull_Node {R : Ending → World → Prop} {a0 a1 a2 : Value} {w : World} (h : V_session_Pull_Node R a0 a1 a2 w) : Calls Tryz.prog 10 #[a0, a1, a2] w R :=
  calls_of_vc (args := [a0, a1, a2]) (fun k => match k with | 15 => ([6, 73], [6, 12, 14, 73, 74, 75, 76, 77, 78, 79, 80, 81, 82, 83, 84, 85, 86, 87, 88, 89, 90, 91, 92, 93, 94, 95, 96, 97, 98, 99, 100, 101]) | 18 => ([6, 80], [6, 14, 80, 81, 82, 83, 84, 85, 86, 87, 88, 89, 90, 91, 92, 93, 94, 95, 96, 97, 98, 99, 100]) | _ => ([], [])) (fun k => match k with | 11 => some ([7], [7, 44, 45, 46, 47, 48, 49, 50, 51, 52, 53, 54, 55, 56, 57, 58]) | _ => none) (fun _ => none) Tryz.func10 (bodyC_some (by kernel_rfl)) rfl (by kernel_rfl) (by kernel_rfl) (by kernel_rfl) (by kernel_rfl) (Eq.mpr (by kernel_rfl) h)

/-- (*buttress/session.Pull).Done -/
def V_session_Pull_Done (R : Ending → World → Prop) (a0 : Value) (w : World) : Prop :=
 CallS Tryz.prog 28 #[a0] w (retK (fun x4 w1 =>
 BoolV x4 (fun b1 =>
 SplitB b1 (
 DoN Tryz.prog (nilS a0) w1 (fun x7 w2 =>
 Do Tryz.prog (Instr.fieldAt 42 x7 3) w2 (fun x8 w3 =>
 Do Tryz.prog (Instr.loadAt 4 x8) w3 (fun x9 w4 =>
 BoolV x9 (fun b2 =>
 SplitB b2 (
 DoN Tryz.prog (nilS a0) w4 (fun x13 w5 =>
 Do Tryz.prog (Instr.fieldAt 42 x13 1) w5 (fun x14 w6 =>
 Do Tryz.prog (Instr.fieldAt 40 x14 0) w6 (fun x15 w7 =>
 Do Tryz.prog (Instr.loadAt 34 x15) w7 (fun x16 w8 =>
 DoN Tryz.prog (builtin .len #[34] 3 #[false] #[x16]) w8 (fun x17 w9 =>
 Do Tryz.prog ((do eqGuard .eql 3 (Operand.tmp 17) (Operand.const (Value.int IntKind.i64 0)) x17 (Value.int IntKind.i64 0); binOp .eql 3 x17 (Value.int IntKind.i64 0) : Sem Value)) w9 (fun x18 w10 =>
 R (.returned x18) w10) (pkR R)) (pkR R)) (pkR R)) (pkR R)) (pkR R)) (pkR R)) (
 R (.returned (Value.bool Bool.false)) w4))) (pkR R)) (pkR R)) (pkR R)) (
 R (.returned (Value.bool Bool.false)) w1))) (pkR R))
theorem vc_session_Pull_Done {R : Ending → World → Prop} {a0 : Value} {w : World} (h : V_session_Pull_Done R a0 w) : Calls Tryz.prog 11 #[a0] w R :=
  calls_of_vc (args := [a0]) (fun _ => ([], [])) (fun _ => none) (fun _ => none) Tryz.func11 (bodyC_some (by kernel_rfl)) rfl (by kernel_rfl) (by kernel_rfl) (by kernel_rfl) (by kernel_rfl) (Eq.mpr (by kernel_rfl) h)

/-- (*buttress/session.Pull).Asked -/
def V_session_Pull_Asked (R : Ending → World → Prop) (a0 : Value) (w : World) : Prop :=
 CallS Tryz.prog 28 #[a0] w (retK (fun x4 w1 =>
 Do Tryz.prog (Op.unary .not x4) w1 (fun x5 w2 =>
 CondV x5 (
 R (.returned (Value.int IntKind.i64 0)) w2) (
 DoN Tryz.prog (nilS a0) w2 (fun x7 w3 =>
 Do Tryz.prog (Instr.fieldAt 42 x7 1) w3 (fun x8 w4 =>
 Do Tryz.prog (Instr.fieldAt 40 x8 1) w4 (fun x9 w5 =>
 Do Tryz.prog (Instr.loadAt 3 x9) w5 (fun x10 w6 =>
 R (.returned x10) w6) (pkR R)) (pkR R)) (pkR R)) (pkR R))) (pkR R)) (pkR R))
theorem vc_session_Pull_Asked {R : Ending → World → Prop} {a0 : Value} {w : World} (h : V_session_Pull_Asked R a0 w) : Calls Tryz.prog 12 #[a0] w R :=
  calls_of_vc (args := [a0]) (fun _ => ([], [])) (fun _ => none) (fun _ => none) Tryz.func12 (bodyC_some (by kernel_rfl)) rfl (by kernel_rfl) (by kernel_rfl) (by kernel_rfl) (by kernel_rfl) (Eq.mpr (by kernel_rfl) h)

/-- (*buttress/session.Pull).ask -/
def V_session_Pull_ask (R : Ending → World → Prop) (a0 a1 a2 : Value) (w : World) : Prop :=
 DoN Tryz.prog (builtin .len #[31] 3 #[false] #[a2]) w (fun x11 w1 =>
 ∃ I1 : Nat → List Value → World → Prop, (∃ m, I1 m [(Value.slice Option.none 0 0), (Value.int IntKind.i64 0)] w1) ∧
 ∀ m1 (x7 : Value) (x12 : Value) (_j1 : Env) (w2 : World), I1 m1 [x7, x12] w2 →
 Do Tryz.prog (binOp .lss 3 x12 x11) w2 (fun x13 w3 =>
 CondV x13 (
 Do Tryz.prog (Instr.indexAt 31 a2 x12) w3 (fun x15 w4 =>
 Do Tryz.prog (Instr.loadAt 9 x15) w4 (fun x16 w5 =>
 ∃ (E2 : World → World → Prop) (Φ2 : Nat → Value → World → Prop), Pre E2 ∧ (∀ i v w w', E2 w w' → Φ2 i v w → Φ2 i v w') ∧
 PureN Tryz.prog (fun z => E2 w5.drew z ∧ Facts Φ2 [] z) (nilS a0) (fun x18 =>
 PureQ Tryz.prog (fun z => E2 w5.drew z ∧ Facts Φ2 [] z) (Instr.fieldAt 42 x18 0) (fun x19 =>
 PureQ Tryz.prog (fun z => E2 w5.drew z ∧ Facts Φ2 [] z) (Instr.loadAt 38 x19) (fun x20 =>
 PureQ Tryz.prog (fun z => E2 w5.drew z ∧ Facts Φ2 [] z) (Instr.indexAt 55 a1 x12) (fun x24 =>
 PureQ Tryz.prog (fun z => E2 w5.drew z ∧ Facts Φ2 [] z) (Instr.loadAt 22 x24) (fun x25 =>
 ∀ w6 : World, E2 w5.drew w6 → Facts Φ2 [] w6 →
 CallS Tryz.prog 64 #[x20, x16, x25] w6 (retK (fun x26 w7 =>
 CondV x26 (
 ∃ (E3 : World → World → Prop) (Φ3 : Nat → Value → World → Prop), Pre E3 ∧ (∀ i v w w', E3 w w' → Φ3 i v w → Φ3 i v w') ∧
 PureN Tryz.prog (fun z => E3 w7.drew z ∧ Facts Φ3 [] z) (nilS a0) (fun x28 =>
 PureQ Tryz.prog (fun z => E3 w7.drew z ∧ Facts Φ3 [] z) (Instr.fieldAt 42 x28 1) (fun x29 =>
 PureQ Tryz.prog (fun z => E3 w7.drew z ∧ Facts Φ3 [] z) (Instr.fieldAt 40 x29 0) (fun x30 =>
 PureQ Tryz.prog (fun z => E3 w7.drew z ∧ Facts Φ3 [] z) (Instr.loadAt 34 x30) (fun x31 =>
 PureQ Tryz.prog (fun z => E3 w7.drew z ∧ Facts Φ3 [] z) (Instr.indexAt 55 a1 x12) (fun x35 =>
 PureQ Tryz.prog (fun z => E3 w7.drew z ∧ Facts Φ3 [] z) (Instr.loadAt 22 x35) (fun x36 =>
 (∀ w8 : World, E3 w7.drew w8 → Facts Φ3 [] w8 → CallS Tryz.prog 35 #[x36] w8 (retK (fun x37 w9 =>
 E3 w8 w9 ∧ Φ3 10 x37 w9) (fun _ _ => False))) ∧ ∀ x37_1 : Value,
 ∀ w10 : World, E3 w7.drew w10 → Facts Φ3 [(10, x37_1)] w10 →
 DoU Tryz.prog (Instr.mapUpdate 34 x31 x16 x37_1) w10 (fun w11 =>
 DoN Tryz.prog (nilS a0) w11 (fun x39 w12 =>
 Do Tryz.prog (Instr.fieldAt 42 x39 1) w12 (fun x40 w13 =>
 Do Tryz.prog (Instr.fieldAt 40 x40 1) w13 (fun x41 w14 =>
 Do Tryz.prog (Instr.loadAt 3 x41) w14 (fun x42 w15 =>
 Do Tryz.prog (binOp .add 3 x42 (Value.int IntKind.i64 1)) w15 (fun x43 w16 =>
 DoN Tryz.prog (nilS a0) w16 (fun x44 w17 =>
 Do Tryz.prog (Instr.fieldAt 42 x44 1) w17 (fun x45 w18 =>
 Do Tryz.prog (Instr.fieldAt 40 x45 1) w18 (fun x46 w19 =>
 DoU Tryz.prog (Instr.storeAt 3 x46 x43) w19 (fun w20 =>
 Do Tryz.prog (Instr.buildSlice 31 1 #[(0, x16)]) w20 (fun x49 w21 =>
 DoN Tryz.prog (builtin .append #[31, 31] 31 #[false, false] #[x7, x49]) w21 (fun x50 w22 =>
 Do Tryz.prog (binOp .add 3 x12 (Value.int IntKind.i64 1)) w22 (fun x51 w23 =>
 Nxt I1 m1 [x50, x51] w23) (pkR R)) (pkR R)) (pkR R)) (pkR R)) (pkR R)) (pkR R)) (pkR R)) (pkR R)) (pkR R)) (pkR R)) (pkR R)) (pkR R)) (pkR R)))))))) (
 Do Tryz.prog (binOp .add 3 x12 (Value.int IntKind.i64 1)) w7 (fun x51_1 w24 =>
 Nxt I1 m1 [x7, x51_1] w24) (pkR R))) (pkR R)))))))) (pkR R)) (pkR R)) (
 R (.returned x7) w3)) (pkR R)) (pkR R)
theorem vc_session_Pull_ask {R : Ending → World → Prop} {a0 a1 a2 : Value} {w : World} (h : V_session_Pull_ask R a0 a1 a2 w) : Calls Tryz.prog 32 #[a0, a1, a2] w R :=
  calls_of_vc (args := [a0, a1, a2]) (fun k => match k with | 3 => ([7, 12], [7, 8, 9, 12, 13, 14, 15, 16, 17, 18, 19, 20, 21, 22, 23, 24, 25, 26, 27, 28, 29, 30, 31, 32, 33, 34, 35, 36, 37, 38, 39, 40, 41, 42, 43, 44, 45, 46, 47, 48, 49, 50, 51]) | _ => ([], [])) (fun _ => none) (fun _ => none) Tryz.func32 (bodyC_some (by kernel_rfl)) rfl (by kernel_rfl) (by kernel_rfl) (by kernel_rfl) (by kernel_rfl) (Eq.mpr (by kernel_rfl) h)

/-- (buttress/session.pullOf).other -/
def V_session_pullOf_other (R : Ending → World → Prop) (a0 a1 a2 : Value) (w : World) : Prop :=
 Do Tryz.prog (Instr.box 38 a0) w (fun x3 w1 =>
 Do Tryz.prog (Instr.fieldAt 38 x3 0) w1 (fun x7 w2 =>
 Do Tryz.prog (Instr.loadAt 28 x7) w2 (fun x8 w3 =>
 CallS Tryz.prog 23 #[x8, a1] w3 (retK (fun x10 w4 =>
 CallS Tryz.prog 30 #[x10, a2] w4 (retK (fun x12 w5 =>
 Do Tryz.prog (Op.unary .not x12) w5 (fun x13 w6 =>
 R (.returned x13) w6) (pkR R)) (pkR R))) (pkR R))) (pkR R)) (pkR R)) (pkR R)
theorem vc_session_pullOf_other {R : Ending → World → Prop} {a0 a1 a2 : Value} {w : World} (h : V_session_pullOf_other R a0 a1 a2 w) : Calls Tryz.prog 64 #[a0, a1, a2] w R :=
  calls_of_vc (args := [a0, a1, a2]) (fun _ => ([], [])) (fun _ => none) (fun _ => none) Tryz.func64 (bodyC_some (by kernel_rfl)) rfl (by kernel_rfl) (by kernel_rfl) (by kernel_rfl) (by kernel_rfl) (Eq.mpr (by kernel_rfl) h)

/-- buttress/root.Right -/
def V_root_Right (R : Ending → World → Prop) (a0 : Value) (w : World) : Prop :=
 Do Tryz.prog (Instr.box 24 a0) w (fun x1 w1 =>
 Do Tryz.prog (Instr.loadAt 24 x1) w1 (fun x3 w2 =>
 Do Tryz.prog (Instr.build 122 #[(0, x3)]) w2 (fun x4 w3 =>
 CallS Tryz.prog 62 #[x4] w3 (retK (fun x5 w4 =>
 R (.returned x5) w4) (pkR R))) (pkR R)) (pkR R)) (pkR R)
theorem vc_root_Right {R : Ending → World → Prop} {a0 : Value} {w : World} (h : V_root_Right R a0 w) : Calls Tryz.prog 29 #[a0] w R :=
  calls_of_vc (args := [a0]) (fun _ => ([], [])) (fun _ => none) (fun _ => none) Tryz.func29 (bodyC_some (by kernel_rfl)) rfl (by kernel_rfl) (by kernel_rfl) (by kernel_rfl) (by kernel_rfl) (Eq.mpr (by kernel_rfl) h)

/-- (buttress/root.paper).right -/
def V_root_paper_right (R : Ending → World → Prop) (a0 : Value) (w : World) : Prop :=
 Do Tryz.prog (Instr.box 122 a0) w (fun x1 w1 =>
 Do Tryz.prog (Instr.loadAt 122 x1) w1 (fun x3 w2 =>
 CallS Tryz.prog 97 #[x3] w2 (retK (fun x4 w3 =>
 BoolV x4 (fun b1 =>
 SplitB b1 (
 Do Tryz.prog (Instr.fieldAt 122 x1 0) w3 (fun x6 w4 =>
 Do Tryz.prog (Instr.fieldAt 24 x6 4) w4 (fun x7 w5 =>
 Do Tryz.prog (Instr.loadAt 22 x7) w5 (fun x8 w6 =>
 DoN Tryz.prog (builtin .len #[22] 3 #[false] #[x8]) w6 (fun x9 w7 =>
 Do Tryz.prog ((do eqGuard .eql 3 (Operand.tmp 9) (Operand.const (Value.int IntKind.i64 64)) x9 (Value.int IntKind.i64 64); binOp .eql 3 x9 (Value.int IntKind.i64 64) : Sem Value)) w7 (fun x10 w8 =>
 R (.returned x10) w8) (pkR R)) (pkR R)) (pkR R)) (pkR R)) (pkR R)) (
 R (.returned (Value.bool Bool.false)) w3))) (pkR R))) (pkR R)) (pkR R)
theorem vc_root_paper_right {R : Ending → World → Prop} {a0 : Value} {w : World} (h : V_root_paper_right R a0 w) : Calls Tryz.prog 62 #[a0] w R :=
  calls_of_vc (args := [a0]) (fun _ => ([], [])) (fun _ => none) (fun _ => none) Tryz.func62 (bodyC_some (by kernel_rfl)) rfl (by kernel_rfl) (by kernel_rfl) (by kernel_rfl) (by kernel_rfl) (Eq.mpr (by kernel_rfl) h)

/-- (buttress/root.paper).shape -/
def V_root_paper_shape (R : Ending → World → Prop) (a0 : Value) (w : World) : Prop :=
 Do Tryz.prog (Instr.box 122 a0) w (fun x1 w1 =>
 Do Tryz.prog (Instr.fieldAt 122 x1 0) w1 (fun x3 w2 =>
 Do Tryz.prog (Instr.fieldAt 24 x3 0) w2 (fun x4 w3 =>
 Do Tryz.prog (Instr.loadAt 3 x4) w3 (fun x5 w4 =>
 Do Tryz.prog (binOp .geq 3 x5 (Value.int IntKind.i64 1)) w4 (fun x6 w5 =>
 BoolV x6 (fun b1 =>
 SplitB b1 (
 Do Tryz.prog (Instr.fieldAt 122 x1 0) w5 (fun x8 w6 =>
 Do Tryz.prog (Instr.fieldAt 24 x8 0) w6 (fun x9 w7 =>
 Do Tryz.prog (Instr.loadAt 3 x9) w7 (fun x10 w8 =>
 Do Tryz.prog (binOp .leq 3 x10 (Value.int IntKind.i64 7)) w8 (fun x11 w9 =>
 BoolV x11 (fun b2 =>
 SplitB b2 (
 Do Tryz.prog (Instr.fieldAt 122 x1 0) w9 (fun x14 w10 =>
 Do Tryz.prog (Instr.fieldAt 24 x14 1) w10 (fun x15 w11 =>
 Do Tryz.prog (Instr.loadAt 3 x15) w11 (fun x16 w12 =>
 Do Tryz.prog (binOp .geq 3 x16 (Value.int IntKind.i64 0)) w12 (fun x17 w13 =>
 BoolV x17 (fun b3 =>
 SplitB b3 (
 Do Tryz.prog (Instr.fieldAt 122 x1 0) w13 (fun x20 w14 =>
 Do Tryz.prog (Instr.fieldAt 24 x20 1) w14 (fun x21 w15 =>
 Do Tryz.prog (Instr.loadAt 3 x21) w15 (fun x22 w16 =>
 Do Tryz.prog (binOp .lss 3 x22 (Value.int IntKind.i64 4)) w16 (fun x23 w17 =>
 BoolV x23 (fun b4 =>
 SplitB b4 (
 Do Tryz.prog (Instr.fieldAt 122 x1 0) w17 (fun x26 w18 =>
 Do Tryz.prog (Instr.fieldAt 24 x26 2) w18 (fun x27 w19 =>
 Do Tryz.prog (Instr.loadAt 3 x27) w19 (fun x28 w20 =>
 Do Tryz.prog (binOp .geq 3 x28 (Value.int IntKind.i64 1)) w20 (fun x29 w21 =>
 BoolV x29 (fun b5 =>
 SplitB b5 (
 Do Tryz.prog (Instr.fieldAt 122 x1 0) w21 (fun x32 w22 =>
 Do Tryz.prog (Instr.fieldAt 24 x32 2) w22 (fun x33 w23 =>
 Do Tryz.prog (Instr.loadAt 3 x33) w23 (fun x34 w24 =>
 Do Tryz.prog (binOp .leq 3 x34 (Value.int IntKind.i64 1073741824)) w24 (fun x35 w25 =>
 BoolV x35 (fun b6 =>
 SplitB b6 (
 Do Tryz.prog (Instr.fieldAt 122 x1 0) w25 (fun x38 w26 =>
 Do Tryz.prog (Instr.fieldAt 24 x38 3) w26 (fun x39 w27 =>
 Do Tryz.prog (Instr.loadAt 22 x39) w27 (fun x40 w28 =>
 DoN Tryz.prog (builtin .len #[22] 3 #[false] #[x40]) w28 (fun x41 w29 =>
 Do Tryz.prog ((do eqGuard .eql 3 (Operand.tmp 41) (Operand.const (Value.int IntKind.i64 64)) x41 (Value.int IntKind.i64 64); binOp .eql 3 x41 (Value.int IntKind.i64 64) : Sem Value)) w29 (fun x42 w30 =>
 R (.returned x42) w30) (pkR R)) (pkR R)) (pkR R)) (pkR R)) (pkR R)) (
 R (.returned (Value.bool Bool.false)) w25))) (pkR R)) (pkR R)) (pkR R)) (pkR R)) (
 R (.returned (Value.bool Bool.false)) w21))) (pkR R)) (pkR R)) (pkR R)) (pkR R)) (
 R (.returned (Value.bool Bool.false)) w17))) (pkR R)) (pkR R)) (pkR R)) (pkR R)) (
 R (.returned (Value.bool Bool.false)) w13))) (pkR R)) (pkR R)) (pkR R)) (pkR R)) (
 R (.returned (Value.bool Bool.false)) w9))) (pkR R)) (pkR R)) (pkR R)) (pkR R)) (
 R (.returned (Value.bool Bool.false)) w5))) (pkR R)) (pkR R)) (pkR R)) (pkR R)) (pkR R)
theorem vc_root_paper_shape {R : Ending → World → Prop} {a0 : Value} {w : World} (h : V_root_paper_shape R a0 w) : Calls Tryz.prog 97 #[a0] w R :=
  calls_of_vc (args := [a0]) (fun _ => ([], [])) (fun _ => none) (fun _ => none) Tryz.func97 (bodyC_some (by kernel_rfl)) rfl (by kernel_rfl) (by kernel_rfl) (by kernel_rfl) (by kernel_rfl) (Eq.mpr (by kernel_rfl) h)

/-- bytes.Equal -/
def V_bytes_Equal (R : Ending → World → Prop) (a0 a1 : Value) (w : World) : Prop :=
 Do Tryz.prog (convert 22 9 a0) w (fun x6 w1 =>
 Do Tryz.prog (convert 22 9 a1) w1 (fun x8 w2 =>
 Do Tryz.prog ((do eqGuard .eql 9 (Operand.tmp 6) (Operand.tmp 8) x6 x8; binOp .eql 9 x6 x8 : Sem Value)) w2 (fun x9 w3 =>
 R (.returned x9) w3) (pkR R)) (pkR R)) (pkR R)
theorem vc_bytes_Equal {R : Ending → World → Prop} {a0 a1 : Value} {w : World} (h : V_bytes_Equal R a0 a1 w) : Calls Tryz.prog 30 #[a0, a1] w R :=
  calls_of_vc (args := [a0, a1]) (fun _ => ([], [])) (fun _ => none) (fun _ => none) Tryz.func30 (bodyC_some (by kernel_rfl)) rfl (by kernel_rfl) (by kernel_rfl) (by kernel_rfl) (by kernel_rfl) (Eq.mpr (by kernel_rfl) h)

/-- slices.Clone[[]string,string] -/
def V_slices_Clone_string_string (R : Ending → World → Prop) (a0 : Value) (w : World) : Prop :=
 Do Tryz.prog ((do eqGuard .eql 31 (Operand.tmp 3) (Operand.const (Value.slice Option.none 0 0)) a0 (Value.slice Option.none 0 0); binOp .eql 31 a0 (Value.slice Option.none 0 0) : Sem Value)) w (fun x4 w1 =>
 CondV x4 (
 R (.returned (Value.slice Option.none 0 0)) w1) (
 Do Tryz.prog (Instr.buildSlice 31 0 #[]) w1 (fun x5 w2 =>
 DoN Tryz.prog (builtin .append #[31, 31] 31 #[false, false] #[x5, a0]) w2 (fun x7 w3 =>
 R (.returned x7) w3) (pkR R)) (pkR R))) (pkR R)
theorem vc_slices_Clone_string_string {R : Ending → World → Prop} {a0 : Value} {w : World} (h : V_slices_Clone_string_string R a0 w) : Calls Tryz.prog 61 #[a0] w R :=
  calls_of_vc (args := [a0]) (fun _ => ([], [])) (fun _ => none) (fun _ => none) Tryz.func61 (bodyC_some (by kernel_rfl)) rfl (by kernel_rfl) (by kernel_rfl) (by kernel_rfl) (by kernel_rfl) (Eq.mpr (by kernel_rfl) h)

/-- buttress/buttresslaw24.offer -/
def V_buttresslaw24_offer (R : Ending → World → Prop) (a0 a1 a2 : Value) (w : World) : Prop :=
 Do Tryz.prog (Instr.alloc 24 true (.tuple #[])) w (fun x6 w1 =>
 Do Tryz.prog (Instr.makeSlice 22 (Value.int IntKind.i64 64) (Value.int IntKind.i64 64)) w1 (fun x10 w2 =>
 Do Tryz.prog (Instr.build 24 #[(0, a0), (1, a1), (2, (Value.int IntKind.i64 1)), (3, a2), (4, x10)]) w2 (fun x11 w3 =>
 DoU Tryz.prog (Instr.storeAt 24 x6 x11) w3 (fun w4 =>
 ResV Tryz.prog [(.inr (x6, 24))] w4 R) (pkR R)) (pkR R)) (pkR R)) (pkR R)
theorem vc_buttresslaw24_offer {R : Ending → World → Prop} {a0 a1 a2 : Value} {w : World} (h : V_buttresslaw24_offer R a0 a1 a2 w) : Calls Tryz.prog 27 #[a0, a1, a2] w R :=
  calls_of_vc (args := [a0, a1, a2]) (fun _ => ([], [])) (fun _ => none) (fun _ => none) Tryz.func27 (bodyC_some (by kernel_rfl)) rfl (by kernel_rfl) (by kernel_rfl) (by kernel_rfl) (by kernel_rfl) (Eq.mpr (by kernel_rfl) h)

/-- buttress/buttresslaw24.awake -/
def V_buttresslaw24_awake (R : Ending → World → Prop) (w : World) : Prop :=
 CallS Tryz.prog 8 #[(Value.int IntKind.i64 1)] w (retK (fun x8 w1 =>
 CallS Tryz.prog 7 #[x8, (Value.int IntKind.i64 3), (Value.int IntKind.i64 1)] w1 (retK (fun x10 w2 =>
 CallS Tryz.prog 22 #[x8] w2 (retK (fun x14 w3 =>
 CallS Tryz.prog 27 #[(Value.int IntKind.i64 3), (Value.int IntKind.i64 1), x14] w3 (retK (fun x15 w4 =>
 CallS Tryz.prog 23 #[x8, (Value.string (ByteArray.mk #[]))] w4 (retK (fun x17 w5 =>
 CallS Tryz.prog 9 #[x10, x15, x17] w5 (retK (fun x18 w6 =>
 Do Tryz.prog (Instr.extract x18 0) w6 (fun x19 w7 =>
 Do Tryz.prog (Instr.extract x18 1) w7 (fun x20 w8 =>
 CallS Tryz.prog 7 #[x8, (Value.int IntKind.i64 3), (Value.int IntKind.i64 1)] w8 (retK (fun x22 w9 =>
 CallS Tryz.prog 22 #[x8] w9 (retK (fun x26 w10 =>
 CallS Tryz.prog 27 #[(Value.int IntKind.i64 4), (Value.int IntKind.i64 1), x26] w10 (retK (fun x27 w11 =>
 CallS Tryz.prog 23 #[x8, (Value.string (ByteArray.mk #[]))] w11 (retK (fun x29 w12 =>
 CallS Tryz.prog 9 #[x22, x27, x29] w12 (retK (fun x30 w13 =>
 Do Tryz.prog (Instr.extract x30 0) w13 (fun _x31 w14 =>
 Do Tryz.prog (Instr.extract x30 1) w14 (fun x32 w15 =>
 Do Tryz.prog ((do eqGuard .eql 44 (Operand.tmp 33) (Operand.const (Value.int IntKind.i64 0)) x20 (Value.int IntKind.i64 0); binOp .eql 44 x20 (Value.int IntKind.i64 0) : Sem Value)) w15 (fun x34 w16 =>
 BoolV x34 (fun b1 =>
 SplitB b1 (
 DoN Tryz.prog (builtin .len #[31] 3 #[false] #[x19]) w16 (fun x37 w17 =>
 Do Tryz.prog ((do eqGuard .eql 3 (Operand.tmp 37) (Operand.const (Value.int IntKind.i64 0)) x37 (Value.int IntKind.i64 0); binOp .eql 3 x37 (Value.int IntKind.i64 0) : Sem Value)) w17 (fun x38 w18 =>
 BoolV x38 (fun b2 =>
 SplitB b2 (
 CallS Tryz.prog 11 #[x10] w18 (retK (fun x42 w19 =>
 BoolV x42 (fun b3 =>
 SplitB b3 (
 Do Tryz.prog ((do eqGuard .eql 44 (Operand.tmp 45) (Operand.const (Value.int IntKind.i64 22)) x32 (Value.int IntKind.i64 22); binOp .eql 44 x32 (Value.int IntKind.i64 22) : Sem Value)) w19 (fun x46 w20 =>
 BoolV x46 (fun b4 =>
 SplitB b4 (
 CallS Tryz.prog 11 #[x22] w20 (retK (fun x50 w21 =>
 Do Tryz.prog (Op.unary .not x50) w21 (fun x51 w22 =>
 BoolV x51 (fun b5 =>
 SplitB b5 (
 CallS Tryz.prog 7 #[(Value.pointer Option.none), (Value.int IntKind.i64 3), (Value.int IntKind.i64 1)] w22 (retK (fun x54 w23 =>
 Do Tryz.prog ((do eqGuard .eql 26 (Operand.tmp 54) (Operand.const (Value.pointer Option.none)) x54 (Value.pointer Option.none); binOp .eql 26 x54 (Value.pointer Option.none) : Sem Value)) w23 (fun x55 w24 =>
 R (.returned x55) w24) (pkR R)) (pkR R))) (
 R (.returned (Value.bool Bool.false)) w22))) (pkR R)) (pkR R))) (
 R (.returned (Value.bool Bool.false)) w20))) (pkR R)) (
 R (.returned (Value.bool Bool.false)) w19))) (pkR R))) (
 R (.returned (Value.bool Bool.false)) w18))) (pkR R)) (pkR R)) (
 R (.returned (Value.bool Bool.false)) w16))) (pkR R)) (pkR R)) (pkR R)) (pkR R))) (pkR R))) (pkR R))) (pkR R))) (pkR R))) (pkR R)) (pkR R)) (pkR R))) (pkR R))) (pkR R))) (pkR R))) (pkR R))) (pkR R))
theorem vc_buttresslaw24_awake {R : Ending → World → Prop} {w : World} (h : V_buttresslaw24_awake R w) : Calls Tryz.prog 6 #[] w R :=
  calls_of_vc (args := []) (fun _ => ([], [])) (fun _ => none) (fun _ => none) Tryz.func6 (bodyC_some (by kernel_rfl)) rfl (by kernel_rfl) (by kernel_rfl) (by kernel_rfl) (by kernel_rfl) (Eq.mpr (by kernel_rfl) h)

/-- buttress/buttresslaw24.SessionNone -/
def V_buttresslaw24_SessionNone (R : Ending → World → Prop) (a0 a1 a2 a3 : Value) (w : World) : Prop :=
 Do Tryz.prog (Instr.box 24 a3) w (fun x7 w1 =>
 CallS Tryz.prog 6 #[] w1 (retK (fun x17 w2 =>
 Do Tryz.prog (Op.unary .not x17) w2 (fun x18 w3 =>
 CondV x18 (
 R (.returned (Value.bool Bool.false)) w3) (
 DoN Tryz.prog (builtin .len #[9] 3 #[false] #[a2]) w3 (fun x20 w4 =>
 Do Tryz.prog (binOp .gtr 3 x20 (Value.int IntKind.i64 600)) w4 (fun x21 w5 =>
 BoolV x21 (fun b3 =>
 SplitB b3 (
 R (.returned (Value.bool Bool.true)) w5) (
 Do Tryz.prog (Instr.fieldAt 24 x7 3) w5 (fun x23 w6 =>
 Do Tryz.prog (Instr.loadAt 22 x23) w6 (fun x24 w7 =>
 DoN Tryz.prog (builtin .len #[22] 3 #[false] #[x24]) w7 (fun x25 w8 =>
 Do Tryz.prog (binOp .gtr 3 x25 (Value.int IntKind.i64 100)) w8 (fun x26 w9 =>
 BoolV x26 (fun b4 =>
 SplitB b4 (
 R (.returned (Value.bool Bool.true)) w9) (
 Do Tryz.prog (Instr.fieldAt 24 x7 4) w9 (fun x29 w10 =>
 Do Tryz.prog (Instr.loadAt 22 x29) w10 (fun x30 w11 =>
 DoN Tryz.prog (builtin .len #[22] 3 #[false] #[x30]) w11 (fun x31 w12 =>
 Do Tryz.prog (binOp .gtr 3 x31 (Value.int IntKind.i64 100)) w12 (fun x32 w13 =>
 CondV x32 (
 R (.returned (Value.bool Bool.true)) w13) (
 ∃ J1 : List Value → World → Prop, (
 Do Tryz.prog (binOp .geq 3 a0 (Value.int IntKind.i64 1)) w13 (fun x35 w14 =>
 BoolV x35 (fun b7 =>
 SplitB b7 (
 Do Tryz.prog (binOp .leq 3 a0 (Value.int IntKind.i64 7)) w14 (fun x38 w15 =>
 BoolV x38 (fun b8 =>
 SplitB b8 (
 Do Tryz.prog (binOp .geq 3 a1 (Value.int IntKind.i64 1)) w15 (fun x42 w16 =>
 J1 [x42] w16) (pkR R)) (
 J1 [(Value.bool Bool.false)] w15))) (pkR R)) (
 J1 [(Value.bool Bool.false)] w14))) (pkR R)) ∧
 ∀ (x9 : Value) (_j1 : Env) (w17 : World), J1 [x9] w17 →
 CallS Tryz.prog 8 #[(Value.int IntKind.i64 0)] w17 (retK (fun x44 w18 =>
 CallS Tryz.prog 7 #[x44, a0, a1] w18 (retK (fun x47 w19 =>
 Do Tryz.prog ((do eqGuard .neq 26 (Operand.tmp 47) (Operand.const (Value.pointer Option.none)) x47 (Value.pointer Option.none); binOp .neq 26 x47 (Value.pointer Option.none) : Sem Value)) w19 (fun x48 w20 =>
 Do Tryz.prog ((do eqGuard .neq 4 (Operand.tmp 48) (Operand.tmp 49) x48 x9; binOp .neq 4 x48 x9 : Sem Value)) w20 (fun x50 w21 =>
 BoolV x50 (fun b10 =>
 SplitB b10 (
 R (.returned (Value.bool Bool.false)) w21) (
 Do Tryz.prog (Instr.build 36 #[]) w21 (fun x52 w22 =>
 Do Tryz.prog (Instr.box 36 x52) w22 (fun x53 w23 =>
 CallS Tryz.prog 7 #[x53, (Value.int IntKind.i64 1), (Value.int IntKind.i64 1)] w23 (retK (fun x54 w24 =>
 Do Tryz.prog ((do eqGuard .neq 26 (Operand.tmp 54) (Operand.const (Value.pointer Option.none)) x54 (Value.pointer Option.none); binOp .neq 26 x54 (Value.pointer Option.none) : Sem Value)) w24 (fun x55 w25 =>
 CondV x55 (
 R (.returned (Value.bool Bool.false)) w25) (
 Do Tryz.prog (Instr.build 42 #[]) w25 (fun x57 w26 =>
 Do Tryz.prog (Instr.box 42 x57) w26 (fun x58 w27 =>
 Do Tryz.prog (Instr.buildSlice 43 2 #[(0, (Value.pointer Option.none)), (1, x58)]) w27 (fun x59 w28 =>
 ∃ I2 : Nat → List Value → World → Prop, (∃ m, I2 m [(Value.int IntKind.i64 0)] w28) ∧
 ∀ m2 (x11 : Value) (_j2 : Env) (w29 : World), I2 m2 [x11] w29 →
 Do Tryz.prog (binOp .lss 3 x11 (Value.int IntKind.i64 2)) w29 (fun x61 w30 =>
 CondV x61 (
 ∃ (E3 : World → World → Prop) (Φ3 : Nat → Value → World → Prop), Pre E3 ∧ (∀ i v w w', E3 w w' → Φ3 i v w → Φ3 i v w') ∧
 PureQ Tryz.prog (fun z => E3 w30.drew z ∧ Facts Φ3 [] z) (Instr.indexAt 43 x59 x11) (fun x67 =>
 PureQ Tryz.prog (fun z => E3 w30.drew z ∧ Facts Φ3 [] z) (Instr.loadAt 26 x67) (fun x68 =>
 PureQ Tryz.prog (fun z => E3 w30.drew z ∧ Facts Φ3 [] z) (Instr.loadAt 24 x7) (fun x69 =>
 PureQ Tryz.prog (fun z => E3 w30.drew z ∧ Facts Φ3 [] z) (Instr.fieldAt 24 x7 3) (fun x70 =>
 PureQ Tryz.prog (fun z => E3 w30.drew z ∧ Facts Φ3 [] z) (Instr.loadAt 22 x70) (fun x71 =>
 (∀ w31 : World, E3 w30.drew w31 → Facts Φ3 [] w31 → CallS Tryz.prog 9 #[x68, x69, x71] w31 (retK (fun x72 w32 =>
 E3 w31 w32 ∧ Φ3 7 x72 w32) (fun _ _ => False))) ∧ ∀ x72_1 : Value,
 PureQ Tryz.prog (fun z => E3 w30.drew z ∧ Facts Φ3 [(7, x72_1)] z) (Instr.extract x72_1 0) (fun x73 =>
 PureQ Tryz.prog (fun z => E3 w30.drew z ∧ Facts Φ3 [(7, x72_1)] z) (Instr.extract x72_1 1) (fun x74 =>
 ∀ w33 : World, E3 w30.drew w33 → Facts Φ3 [(7, x72_1)] w33 →
 Do Tryz.prog (Instr.indexAt 43 x59 x11) w33 (fun x78 w34 =>
 Do Tryz.prog (Instr.loadAt 26 x78) w34 (fun x79 w35 =>
 Do Tryz.prog (Instr.build 52 #[]) w35 (fun x81 w36 =>
 CallS Tryz.prog 10 #[x79, a2, x81] w36 (retK (fun x82 w37 =>
 Do Tryz.prog (Instr.extract x82 0) w37 (fun x83 w38 =>
 Do Tryz.prog (Instr.extract x82 1) w38 (fun x84 w39 =>
 Do Tryz.prog (Instr.extract x82 2) w39 (fun x85 w40 =>
 Do Tryz.prog ((do eqGuard .neq 44 (Operand.tmp 86) (Operand.const (Value.int IntKind.i64 1)) x74 (Value.int IntKind.i64 1); binOp .neq 44 x74 (Value.int IntKind.i64 1) : Sem Value)) w40 (fun x87 w41 =>
 BoolV x87 (fun b29 =>
 SplitB b29 (
 R (.returned (Value.bool Bool.false)) w41) (
 DoN Tryz.prog (builtin .len #[31] 3 #[false] #[x73]) w41 (fun x90 w42 =>
 Do Tryz.prog ((do eqGuard .neq 3 (Operand.tmp 90) (Operand.const (Value.int IntKind.i64 0)) x90 (Value.int IntKind.i64 0); binOp .neq 3 x90 (Value.int IntKind.i64 0) : Sem Value)) w42 (fun x91 w43 =>
 BoolV x91 (fun b30 =>
 SplitB b30 (
 R (.returned (Value.bool Bool.false)) w43) (
 Do Tryz.prog ((do eqGuard .neq 44 (Operand.tmp 94) (Operand.const (Value.int IntKind.i64 1)) x85 (Value.int IntKind.i64 1); binOp .neq 44 x85 (Value.int IntKind.i64 1) : Sem Value)) w43 (fun x95 w44 =>
 BoolV x95 (fun b31 =>
 SplitB b31 (
 R (.returned (Value.bool Bool.false)) w44) (
 DoN Tryz.prog (builtin .len #[47] 3 #[false] #[x83]) w44 (fun x99 w45 =>
 Do Tryz.prog ((do eqGuard .neq 3 (Operand.tmp 99) (Operand.const (Value.int IntKind.i64 0)) x99 (Value.int IntKind.i64 0); binOp .neq 3 x99 (Value.int IntKind.i64 0) : Sem Value)) w45 (fun x100 w46 =>
 BoolV x100 (fun b32 =>
 SplitB b32 (
 R (.returned (Value.bool Bool.false)) w46) (
 DoN Tryz.prog (builtin .len #[31] 3 #[false] #[x84]) w46 (fun x104 w47 =>
 Do Tryz.prog ((do eqGuard .neq 3 (Operand.tmp 104) (Operand.const (Value.int IntKind.i64 0)) x104 (Value.int IntKind.i64 0); binOp .neq 3 x104 (Value.int IntKind.i64 0) : Sem Value)) w47 (fun x105 w48 =>
 BoolV x105 (fun b33 =>
 SplitB b33 (
 R (.returned (Value.bool Bool.false)) w48) (
 Do Tryz.prog (Instr.indexAt 43 x59 x11) w48 (fun x110 w49 =>
 Do Tryz.prog (Instr.loadAt 26 x110) w49 (fun x111 w50 =>
 CallS Tryz.prog 11 #[x111] w50 (retK (fun x112 w51 =>
 BoolV x112 (fun b34 =>
 SplitB b34 (
 R (.returned (Value.bool Bool.false)) w51) (
 Do Tryz.prog (Instr.indexAt 43 x59 x11) w51 (fun x117 w52 =>
 Do Tryz.prog (Instr.loadAt 26 x117) w52 (fun x118 w53 =>
 CallS Tryz.prog 12 #[x118] w53 (retK (fun x119 w54 =>
 Do Tryz.prog ((do eqGuard .neq 3 (Operand.tmp 119) (Operand.const (Value.int IntKind.i64 0)) x119 (Value.int IntKind.i64 0); binOp .neq 3 x119 (Value.int IntKind.i64 0) : Sem Value)) w54 (fun x120 w55 =>
 CondV x120 (
 R (.returned (Value.bool Bool.false)) w55) (
 Do Tryz.prog (binOp .add 3 x11 (Value.int IntKind.i64 1)) w55 (fun x63 w56 =>
 Nxt I2 m2 [x63] w56) (pkR R))) (pkR R)) (pkR R))) (pkR R)) (pkR R)))) (pkR R))) (pkR R)) (pkR R)))) (pkR R)) (pkR R)))) (pkR R)) (pkR R)))) (pkR R)))) (pkR R)) (pkR R)))) (pkR R)) (pkR R)) (pkR R)) (pkR R)) (pkR R))) (pkR R)) (pkR R)) (pkR R))))))))) (
 R (.returned (Value.bool Bool.true)) w30)) (pkR R)) (pkR R)) (pkR R)) (pkR R))) (pkR R)) (pkR R))) (pkR R)) (pkR R)))) (pkR R)) (pkR R)) (pkR R))) (pkR R)))) (pkR R)) (pkR R)) (pkR R)) (pkR R)))) (pkR R)) (pkR R)) (pkR R)) (pkR R)))) (pkR R)) (pkR R))) (pkR R)) (pkR R))) (pkR R)
theorem vc_buttresslaw24_SessionNone {R : Ending → World → Prop} {a0 a1 a2 a3 : Value} {w : World} (h : V_buttresslaw24_SessionNone R a0 a1 a2 a3 w) : Calls Tryz.prog 3 #[a0, a1, a2, a3] w R :=
  calls_of_vc (args := [a0, a1, a2, a3]) (fun k => match k with | 10 => ([11], [8, 11, 12, 13, 14, 15, 16, 60, 61, 62, 63, 64, 65, 66, 67, 68, 69, 70, 71, 72, 73, 74, 75, 76, 77, 78, 79, 80, 81, 82, 83, 84, 85, 86, 87, 88, 89, 90, 91, 92, 93, 94, 95, 96, 97, 98, 99, 100, 101, 102, 103, 104, 105, 106, 107, 108, 109, 110, 111, 112, 113, 114, 115, 116, 117, 118, 119, 120, 121]) | _ => ([], [])) (fun k => match k with | 6 => some ([9], [9, 34, 35, 36, 37, 38, 39, 40, 41, 42, 43]) | _ => none) (fun _ => none) Tryz.func3 (bodyC_some (by kernel_rfl)) rfl (by kernel_rfl) (by kernel_rfl) (by kernel_rfl) (by kernel_rfl) (Eq.mpr (by kernel_rfl) h)

end Go.Proofs.YtpdceilhgaladaaGreatDoor
