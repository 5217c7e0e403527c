/- PRINTED BY gen.py (a program of this claim): what each function comes to, operation by operation. -/
import Derived.Test.YtpdceilhgaladaaGreatDoorProg
import Derived.Test.YtpdceilhgaladaaGreatDoorVc
import Derived.KernelRfl
set_option maxRecDepth 100000
namespace Go.Proofs.YtpdceilhgaladaaGreatDoor
open Go.Vc

/-- buttress/buttressref01.rot -/
def V_buttressref01_rot (R : Ending → World → Prop) (a0 a1 : Value) (w : World) : Prop :=
 Do Tryz.prog (binOp .shr 191 a0 a1) w (fun x7 w1 =>
 Do Tryz.prog (binOp .sub 107 (Value.int IntKind.u64 64) a1) w1 (fun x10 w2 =>
 Do Tryz.prog (binOp .shl 191 a0 x10) w2 (fun x11 w3 =>
 Do Tryz.prog (binOp .or 191 x7 x11) w3 (fun x12 w4 =>
 R (.returned x12) w4) (pkR R)) (pkR R)) (pkR R)) (pkR R)
theorem vc_buttressref01_rot {R : Ending → World → Prop} {a0 a1 : Value} {w : World} (h : V_buttressref01_rot R a0 a1 w) : Calls Tryz.prog 151 #[a0, a1] w R :=
  calls_of_vc (args := [a0, a1]) (fun _ => ([], [])) (fun _ => none) (fun _ => none) Tryz.func151 (bodyC_some (by kernel_rfl)) rfl (by kernel_rfl) (by kernel_rfl) (by kernel_rfl) (by kernel_rfl) (Eq.mpr (by kernel_rfl) h)

/-- buttress/buttressref01.turn -/
def V_buttressref01_turn (R : Ending → World → Prop) (a0 a1 a2 : Value) (w : World) : Prop :=
 ∃ I1 : Nat → List Value → World → Prop, (∃ m, I1 m [(Value.slice Option.none 0 0), (Value.int IntKind.i64 0)] w) ∧
 ∀ m1 (x7 : Value) (x8 : Value) (j1 : Env) (w1 : World), I1 m1 [x7, x8] w1 →
 Do Tryz.prog (binOp .lss 3 x8 (Value.int IntKind.i64 80)) w1 (fun x21 w2 =>
 CondV x21 (
 Do Tryz.prog (binOp .lss 3 x8 (Value.int IntKind.i64 16)) w2 (fun x25 w3 =>
 CondV x25 (
 ∃ I2 : Nat → List Value → World → Prop, (∃ m, I2 m [(Value.int IntKind.u64 0), (Value.int IntKind.i64 0)] w3) ∧
 ∀ m2 (x9 : Value) (x10 : Value) (j2 : Env) (w4 : World), I2 m2 [x9, x10] w4 →
 Do Tryz.prog (binOp .lss 3 x10 (Value.int IntKind.i64 8)) w4 (fun x27 w5 =>
 CondV x27 (
 Do Tryz.prog (binOp .shl 191 x9 (Value.int IntKind.u64 8)) w5 (fun x31 w6 =>
 Do Tryz.prog (binOp .mul 3 (Value.int IntKind.i64 8) x8) w6 (fun x34 w7 =>
 Do Tryz.prog (binOp .add 3 x34 x10) w7 (fun x36 w8 =>
 Do Tryz.prog (Instr.indexAt 22 a2 x36) w8 (fun x37 w9 =>
 Do Tryz.prog (Instr.loadAt 5 x37) w9 (fun x38 w10 =>
 Do Tryz.prog (convert 5 191 x38) w10 (fun x39 w11 =>
 Do Tryz.prog (binOp .add 191 x31 x39) w11 (fun x40 w12 =>
 Do Tryz.prog (binOp .add 3 x10 (Value.int IntKind.i64 1)) w12 (fun x29 w13 =>
 Nxt I2 m2 [x40, x29] w13) (pkR R)) (pkR R)) (pkR R)) (pkR R)) (pkR R)) (pkR R)) (pkR R)) (pkR R)) (
 Do Tryz.prog (Instr.buildSlice 145 1 #[(0, x9)]) w5 (fun x82 w14 =>
 DoN Tryz.prog (builtin .append #[145, 145] 145 #[false, false] #[x7, x82]) w14 (fun x83 w15 =>
 Do Tryz.prog (binOp .add 3 x8 (Value.int IntKind.i64 1)) w15 (fun x23 w16 =>
 Nxt I1 m1 [x83, x23] w16) (pkR R)) (pkR R)) (pkR R))) (pkR R)) (
 ∃ (E3 : World → World → Prop) (Φ3 : Nat → Value → World → Prop), Pre E3 ∧ (∀ i v w w', E3 w w' → Φ3 i v w → Φ3 i v w') ∧
 PureQ Tryz.prog (fun z => E3 w3.drew z ∧ Facts Φ3 [] z) (binOp .sub 3 x8 (Value.int IntKind.i64 2)) (fun x43 =>
 PureQ Tryz.prog (fun z => E3 w3.drew z ∧ Facts Φ3 [] z) (Instr.indexAt 145 x7 x43) (fun x44 =>
 PureQ Tryz.prog (fun z => E3 w3.drew z ∧ Facts Φ3 [] z) (Instr.loadAt 191 x44) (fun x45 =>
 PureQ Tryz.prog (fun z => E3 w3.drew z ∧ Facts Φ3 [] z) (binOp .sub 3 x8 (Value.int IntKind.i64 15)) (fun x48 =>
 PureQ Tryz.prog (fun z => E3 w3.drew z ∧ Facts Φ3 [] z) (Instr.indexAt 145 x7 x48) (fun x49 =>
 PureQ Tryz.prog (fun z => E3 w3.drew z ∧ Facts Φ3 [] z) (Instr.loadAt 191 x49) (fun x50 =>
 ∀ w17 : World, E3 w3.drew w17 → Facts Φ3 [] w17 →
 ∃ (E4 : World → World → Prop) (Φ4 : Nat → Value → World → Prop), Pre E4 ∧ (∀ i v w w', E4 w w' → Φ4 i v w → Φ4 i v w') ∧
 (∀ w18 : World, E4 w17.drew w18 → Facts Φ4 [] w18 → CallS Tryz.prog 151 #[x45, (Value.int IntKind.u64 19)] w18 (retK (fun x52 w19 =>
 E4 w18 w19 ∧ Φ4 1 x52 w19) (fun _ _ => False))) ∧ ∀ x52_1 : Value,
 (∀ w20 : World, E4 w17.drew w20 → Facts Φ4 [(1, x52_1)] w20 → CallS Tryz.prog 151 #[x45, (Value.int IntKind.u64 61)] w20 (retK (fun x54 w21 =>
 E4 w20 w21 ∧ Φ4 3 x54 w21) (fun _ _ => False))) ∧ ∀ x54_1 : Value,
 PureQ Tryz.prog (fun z => E4 w17.drew z ∧ Facts Φ4 [(3, x54_1), (1, x52_1)] z) (binOp .xor 191 x52_1 x54_1) (fun x55 =>
 PureQ Tryz.prog (fun z => E4 w17.drew z ∧ Facts Φ4 [] z) (binOp .shr 191 x45 (Value.int IntKind.u64 6)) (fun x57 =>
 PureQ Tryz.prog (fun z => E4 w17.drew z ∧ Facts Φ4 [(3, x54_1), (1, x52_1)] z) (binOp .xor 191 x55 x57) (fun x58 =>
 PureQ Tryz.prog (fun z => E4 w17.drew z ∧ Facts Φ4 [] z) (binOp .sub 3 x8 (Value.int IntKind.i64 7)) (fun x61 =>
 PureQ Tryz.prog (fun z => E4 w17.drew z ∧ Facts Φ4 [] z) (Instr.indexAt 145 x7 x61) (fun x62 =>
 PureQ Tryz.prog (fun z => E4 w17.drew z ∧ Facts Φ4 [] z) (Instr.loadAt 191 x62) (fun x63 =>
 PureQ Tryz.prog (fun z => E4 w17.drew z ∧ Facts Φ4 [(3, x54_1), (1, x52_1)] z) (binOp .add 191 x58 x63) (fun x64 =>
 (∀ w22 : World, E4 w17.drew w22 → Facts Φ4 [(3, x54_1), (1, x52_1)] w22 → CallS Tryz.prog 151 #[x50, (Value.int IntKind.u64 1)] w22 (retK (fun x66 w23 =>
 E4 w22 w23 ∧ Φ4 15 x66 w23) (fun _ _ => False))) ∧ ∀ x66_1 : Value,
 (∀ w24 : World, E4 w17.drew w24 → Facts Φ4 [(15, x66_1), (3, x54_1), (1, x52_1)] w24 → CallS Tryz.prog 151 #[x50, (Value.int IntKind.u64 8)] w24 (retK (fun x68 w25 =>
 E4 w24 w25 ∧ Φ4 17 x68 w25) (fun _ _ => False))) ∧ ∀ x68_1 : Value,
 PureQ Tryz.prog (fun z => E4 w17.drew z ∧ Facts Φ4 [(17, x68_1), (15, x66_1), (3, x54_1), (1, x52_1)] z) (binOp .xor 191 x66_1 x68_1) (fun x69 =>
 PureQ Tryz.prog (fun z => E4 w17.drew z ∧ Facts Φ4 [] z) (binOp .shr 191 x50 (Value.int IntKind.u64 7)) (fun x71 =>
 PureQ Tryz.prog (fun z => E4 w17.drew z ∧ Facts Φ4 [(17, x68_1), (15, x66_1), (3, x54_1), (1, x52_1)] z) (binOp .xor 191 x69 x71) (fun x72 =>
 PureQ Tryz.prog (fun z => E4 w17.drew z ∧ Facts Φ4 [(17, x68_1), (15, x66_1), (3, x54_1), (1, x52_1)] z) (binOp .add 191 x64 x72) (fun x73 =>
 PureQ Tryz.prog (fun z => E4 w17.drew z ∧ Facts Φ4 [] z) (binOp .sub 3 x8 (Value.int IntKind.i64 16)) (fun x76 =>
 PureQ Tryz.prog (fun z => E4 w17.drew z ∧ Facts Φ4 [] z) (Instr.indexAt 145 x7 x76) (fun x77 =>
 PureQ Tryz.prog (fun z => E4 w17.drew z ∧ Facts Φ4 [] z) (Instr.loadAt 191 x77) (fun x78 =>
 ∀ w26 : World, E4 w17.drew w26 → Facts Φ4 [(17, x68_1), (15, x66_1), (3, x54_1), (1, x52_1)] w26 →
 Do Tryz.prog (binOp .add 191 x73 x78) w26 (fun x79 w27 =>
 Do Tryz.prog (Instr.buildSlice 145 1 #[(0, x79)]) w27 (fun x82_1 w28 =>
 DoN Tryz.prog (builtin .append #[145, 145] 145 #[false, false] #[x7, x82_1]) w28 (fun x83_1 w29 =>
 Do Tryz.prog (binOp .add 3 x8 (Value.int IntKind.i64 1)) w29 (fun x23_1 w30 =>
 Nxt I1 m1 [x83_1, x23_1] w30) (pkR R)) (pkR R)) (pkR R)) (pkR R))))))))))))))))))))))) (pkR R)) (
 Do Tryz.prog (Instr.buildSlice 145 0 #[]) w2 (fun x84 w31 =>
 DoN Tryz.prog (builtin .append #[145, 145] 145 #[false, false] #[x84, a0]) w31 (fun x86 w32 =>
 ∃ I5 : Nat → List Value → World → Prop, (∃ m, I5 m [x86, (Value.int IntKind.i64 0)] w32) ∧
 ∀ m5 (x13 : Value) (x14 : Value) (j5 : Env) (w33 : World), I5 m5 [x13, x14] w33 →
 Do Tryz.prog (binOp .lss 3 x14 (Value.int IntKind.i64 80)) w33 (fun x88 w34 =>
 CondV x88 (
 ∃ (E6 : World → World → Prop) (Φ6 : Nat → Value → World → Prop), Pre E6 ∧ (∀ i v w w', E6 w w' → Φ6 i v w → Φ6 i v w') ∧
 PureQ Tryz.prog (fun z => E6 w34.drew z ∧ Facts Φ6 [] z) (Instr.indexAt 145 x13 (Value.int IntKind.i64 0)) (fun x92 =>
 PureQ Tryz.prog (fun z => E6 w34.drew z ∧ Facts Φ6 [] z) (Instr.loadAt 191 x92) (fun x93 =>
 PureQ Tryz.prog (fun z => E6 w34.drew z ∧ Facts Φ6 [] z) (Instr.indexAt 145 x13 (Value.int IntKind.i64 4)) (fun x95 =>
 PureQ Tryz.prog (fun z => E6 w34.drew z ∧ Facts Φ6 [] z) (Instr.loadAt 191 x95) (fun x96 =>
 ∀ w35 : World, E6 w34.drew w35 → Facts Φ6 [] w35 →
 ∃ (E7 : World → World → Prop) (Φ7 : Nat → Value → World → Prop), Pre E7 ∧ (∀ i v w w', E7 w w' → Φ7 i v w → Φ7 i v w') ∧
 PureQ Tryz.prog (fun z => E7 w35.drew z ∧ Facts Φ7 [] z) (Instr.indexAt 145 x13 (Value.int IntKind.i64 7)) (fun x98 =>
 PureQ Tryz.prog (fun z => E7 w35.drew z ∧ Facts Φ7 [] z) (Instr.loadAt 191 x98) (fun x99 =>
 (∀ w36 : World, E7 w35.drew w36 → Facts Φ7 [] w36 → CallS Tryz.prog 151 #[x96, (Value.int IntKind.u64 14)] w36 (retK (fun x101 w37 =>
 E7 w36 w37 ∧ Φ7 4 x101 w37) (fun _ _ => False))) ∧ ∀ x101_1 : Value,
 (∀ w38 : World, E7 w35.drew w38 → Facts Φ7 [(4, x101_1)] w38 → CallS Tryz.prog 151 #[x96, (Value.int IntKind.u64 18)] w38 (retK (fun x103 w39 =>
 E7 w38 w39 ∧ Φ7 6 x103 w39) (fun _ _ => False))) ∧ ∀ x103_1 : Value,
 PureQ Tryz.prog (fun z => E7 w35.drew z ∧ Facts Φ7 [(6, x103_1), (4, x101_1)] z) (binOp .xor 191 x101_1 x103_1) (fun x104 =>
 (∀ w40 : World, E7 w35.drew w40 → Facts Φ7 [(6, x103_1), (4, x101_1)] w40 → CallS Tryz.prog 151 #[x96, (Value.int IntKind.u64 41)] w40 (retK (fun x106 w41 =>
 E7 w40 w41 ∧ Φ7 9 x106 w41) (fun _ _ => False))) ∧ ∀ x106_1 : Value,
 PureQ Tryz.prog (fun z => E7 w35.drew z ∧ Facts Φ7 [(9, x106_1), (6, x103_1), (4, x101_1)] z) (binOp .xor 191 x104 x106_1) (fun x107 =>
 PureQ Tryz.prog (fun z => E7 w35.drew z ∧ Facts Φ7 [(9, x106_1), (6, x103_1), (4, x101_1)] z) (binOp .add 191 x99 x107) (fun x108 =>
 PureQ Tryz.prog (fun z => E7 w35.drew z ∧ Facts Φ7 [] z) (Instr.indexAt 145 x13 (Value.int IntKind.i64 5)) (fun x111 =>
 PureQ Tryz.prog (fun z => E7 w35.drew z ∧ Facts Φ7 [] z) (Instr.loadAt 191 x111) (fun x112 =>
 PureQ Tryz.prog (fun z => E7 w35.drew z ∧ Facts Φ7 [] z) (binOp .and 191 x96 x112) (fun x113 =>
 PureQ Tryz.prog (fun z => E7 w35.drew z ∧ Facts Φ7 [] z) (Op.unary .xor x96) (fun x115 =>
 PureQ Tryz.prog (fun z => E7 w35.drew z ∧ Facts Φ7 [] z) (Instr.indexAt 145 x13 (Value.int IntKind.i64 6)) (fun x117 =>
 PureQ Tryz.prog (fun z => E7 w35.drew z ∧ Facts Φ7 [] z) (Instr.loadAt 191 x117) (fun x118 =>
 PureQ Tryz.prog (fun z => E7 w35.drew z ∧ Facts Φ7 [] z) (binOp .and 191 x115 x118) (fun x119 =>
 PureQ Tryz.prog (fun z => E7 w35.drew z ∧ Facts Φ7 [] z) (binOp .xor 191 x113 x119) (fun x120 =>
 PureQ Tryz.prog (fun z => E7 w35.drew z ∧ Facts Φ7 [(9, x106_1), (6, x103_1), (4, x101_1)] z) (binOp .add 191 x108 x120) (fun x121 =>
 PureQ Tryz.prog (fun z => E7 w35.drew z ∧ Facts Φ7 [] z) (Instr.indexAt 145 a1 x14) (fun x124 =>
 PureQ Tryz.prog (fun z => E7 w35.drew z ∧ Facts Φ7 [] z) (Instr.loadAt 191 x124) (fun x125 =>
 PureQ Tryz.prog (fun z => E7 w35.drew z ∧ Facts Φ7 [(9, x106_1), (6, x103_1), (4, x101_1)] z) (binOp .add 191 x121 x125) (fun x126 =>
 PureQ Tryz.prog (fun z => E7 w35.drew z ∧ Facts Φ7 [] z) (Instr.indexAt 145 x7 x14) (fun x129 =>
 PureQ Tryz.prog (fun z => E7 w35.drew z ∧ Facts Φ7 [] z) (Instr.loadAt 191 x129) (fun x130 =>
 ∀ w42 : World, E7 w35.drew w42 → Facts Φ7 [(9, x106_1), (6, x103_1), (4, x101_1)] w42 →
 Do Tryz.prog (binOp .add 191 x126 x130) w42 (fun x131 w43 =>
 ∃ (E8 : World → World → Prop) (Φ8 : Nat → Value → World → Prop), Pre E8 ∧ (∀ i v w w', E8 w w' → Φ8 i v w → Φ8 i v w') ∧
 (∀ w44 : World, E8 w43.drew w44 → Facts Φ8 [] w44 → CallS Tryz.prog 151 #[x93, (Value.int IntKind.u64 28)] w44 (retK (fun x133 w45 =>
 E8 w44 w45 ∧ Φ8 1 x133 w45) (fun _ _ => False))) ∧ ∀ x133_1 : Value,
 (∀ w46 : World, E8 w43.drew w46 → Facts Φ8 [(1, x133_1)] w46 → CallS Tryz.prog 151 #[x93, (Value.int IntKind.u64 34)] w46 (retK (fun x135 w47 =>
 E8 w46 w47 ∧ Φ8 3 x135 w47) (fun _ _ => False))) ∧ ∀ x135_1 : Value,
 PureQ Tryz.prog (fun z => E8 w43.drew z ∧ Facts Φ8 [(3, x135_1), (1, x133_1)] z) (binOp .xor 191 x133_1 x135_1) (fun x136 =>
 (∀ w48 : World, E8 w43.drew w48 → Facts Φ8 [(3, x135_1), (1, x133_1)] w48 → CallS Tryz.prog 151 #[x93, (Value.int IntKind.u64 39)] w48 (retK (fun x138 w49 =>
 E8 w48 w49 ∧ Φ8 6 x138 w49) (fun _ _ => False))) ∧ ∀ x138_1 : Value,
 PureQ Tryz.prog (fun z => E8 w43.drew z ∧ Facts Φ8 [(6, x138_1), (3, x135_1), (1, x133_1)] z) (binOp .xor 191 x136 x138_1) (fun x139 =>
 PureQ Tryz.prog (fun z => E8 w43.drew z ∧ Facts Φ8 [] z) (Instr.indexAt 145 x13 (Value.int IntKind.i64 1)) (fun x142 =>
 PureQ Tryz.prog (fun z => E8 w43.drew z ∧ Facts Φ8 [] z) (Instr.loadAt 191 x142) (fun x143 =>
 PureQ Tryz.prog (fun z => E8 w43.drew z ∧ Facts Φ8 [] z) (binOp .and 191 x93 x143) (fun x144 =>
 PureQ Tryz.prog (fun z => E8 w43.drew z ∧ Facts Φ8 [] z) (Instr.indexAt 145 x13 (Value.int IntKind.i64 2)) (fun x147 =>
 PureQ Tryz.prog (fun z => E8 w43.drew z ∧ Facts Φ8 [] z) (Instr.loadAt 191 x147) (fun x148 =>
 PureQ Tryz.prog (fun z => E8 w43.drew z ∧ Facts Φ8 [] z) (binOp .and 191 x93 x148) (fun x149 =>
 PureQ Tryz.prog (fun z => E8 w43.drew z ∧ Facts Φ8 [] z) (binOp .xor 191 x144 x149) (fun x150 =>
 PureQ Tryz.prog (fun z => E8 w43.drew z ∧ Facts Φ8 [] z) (Instr.indexAt 145 x13 (Value.int IntKind.i64 1)) (fun x152 =>
 PureQ Tryz.prog (fun z => E8 w43.drew z ∧ Facts Φ8 [] z) (Instr.loadAt 191 x152) (fun x153 =>
 PureQ Tryz.prog (fun z => E8 w43.drew z ∧ Facts Φ8 [] z) (Instr.indexAt 145 x13 (Value.int IntKind.i64 2)) (fun x155 =>
 PureQ Tryz.prog (fun z => E8 w43.drew z ∧ Facts Φ8 [] z) (Instr.loadAt 191 x155) (fun x156 =>
 PureQ Tryz.prog (fun z => E8 w43.drew z ∧ Facts Φ8 [] z) (binOp .and 191 x153 x156) (fun x157 =>
 PureQ Tryz.prog (fun z => E8 w43.drew z ∧ Facts Φ8 [] z) (binOp .xor 191 x150 x157) (fun x158 =>
 ∀ w50 : World, E8 w43.drew w50 → Facts Φ8 [(6, x138_1), (3, x135_1), (1, x133_1)] w50 →
 Do Tryz.prog (binOp .add 191 x139 x158) w50 (fun x159 w51 =>
 ∃ (E9 : World → World → Prop) (Φ9 : Nat → Value → World → Prop), Pre E9 ∧ (∀ i v w w', E9 w w' → Φ9 i v w → Φ9 i v w') ∧
 PureQ Tryz.prog (fun z => E9 w51.drew z ∧ Facts Φ9 [] z) (binOp .add 191 x131 x159) (fun x162 =>
 PureQ Tryz.prog (fun z => E9 w51.drew z ∧ Facts Φ9 [] z) (Instr.indexAt 145 x13 (Value.int IntKind.i64 0)) (fun x164 =>
 PureQ Tryz.prog (fun z => E9 w51.drew z ∧ Facts Φ9 [] z) (Instr.loadAt 191 x164) (fun x165 =>
 PureQ Tryz.prog (fun z => E9 w51.drew z ∧ Facts Φ9 [] z) (Instr.indexAt 145 x13 (Value.int IntKind.i64 1)) (fun x167 =>
 PureQ Tryz.prog (fun z => E9 w51.drew z ∧ Facts Φ9 [] z) (Instr.loadAt 191 x167) (fun x168 =>
 PureQ Tryz.prog (fun z => E9 w51.drew z ∧ Facts Φ9 [] z) (Instr.indexAt 145 x13 (Value.int IntKind.i64 2)) (fun x170 =>
 PureQ Tryz.prog (fun z => E9 w51.drew z ∧ Facts Φ9 [] z) (Instr.loadAt 191 x170) (fun x171 =>
 PureQ Tryz.prog (fun z => E9 w51.drew z ∧ Facts Φ9 [] z) (Instr.indexAt 145 x13 (Value.int IntKind.i64 3)) (fun x173 =>
 PureQ Tryz.prog (fun z => E9 w51.drew z ∧ Facts Φ9 [] z) (Instr.loadAt 191 x173) (fun x174 =>
 PureQ Tryz.prog (fun z => E9 w51.drew z ∧ Facts Φ9 [] z) (binOp .add 191 x174 x131) (fun x176 =>
 PureQ Tryz.prog (fun z => E9 w51.drew z ∧ Facts Φ9 [] z) (Instr.indexAt 145 x13 (Value.int IntKind.i64 4)) (fun x178 =>
 PureQ Tryz.prog (fun z => E9 w51.drew z ∧ Facts Φ9 [] z) (Instr.loadAt 191 x178) (fun x179 =>
 PureQ Tryz.prog (fun z => E9 w51.drew z ∧ Facts Φ9 [] z) (Instr.indexAt 145 x13 (Value.int IntKind.i64 5)) (fun x181 =>
 PureQ Tryz.prog (fun z => E9 w51.drew z ∧ Facts Φ9 [] z) (Instr.loadAt 191 x181) (fun x182 =>
 PureQ Tryz.prog (fun z => E9 w51.drew z ∧ Facts Φ9 [] z) (Instr.indexAt 145 x13 (Value.int IntKind.i64 6)) (fun x184 =>
 PureQ Tryz.prog (fun z => E9 w51.drew z ∧ Facts Φ9 [] z) (Instr.loadAt 191 x184) (fun x185 =>
 ∀ w52 : World, E9 w51.drew w52 → Facts Φ9 [] w52 →
 Do Tryz.prog (Instr.buildSlice 145 8 #[(0, x162), (1, x165), (2, x168), (3, x171), (4, x176), (5, x179), (6, x182), (7, x185)]) w52 (fun x186 w53 =>
 Do Tryz.prog (binOp .add 3 x14 (Value.int IntKind.i64 1)) w53 (fun x90 w54 =>
 Nxt I5 m5 [x186, x90] w54) (pkR R)) (pkR R)))))))))))))))))) (pkR R))))))))))))))))) (pkR R))))))))))))))))))))))))) (
 ∃ I10 : Nat → List Value → World → Prop, (∃ m, I10 m [(Value.int IntKind.i64 0)] w34) ∧
 ∀ m10 (x19 : Value) (j10 : Env) (w55 : World), I10 m10 [x19] w55 →
 Do Tryz.prog (binOp .lss 3 x19 (Value.int IntKind.i64 8)) w55 (fun x188 w56 =>
 CondV x188 (
 ∃ (E11 : World → World → Prop) (Φ11 : Nat → Value → World → Prop), Pre E11 ∧ (∀ i v w w', E11 w w' → Φ11 i v w → Φ11 i v w') ∧
 PureQ Tryz.prog (fun z => E11 w56.drew z ∧ Facts Φ11 [] z) (Instr.indexAt 145 x13 x19) (fun x195 =>
 PureQ Tryz.prog (fun z => E11 w56.drew z ∧ Facts Φ11 [] z) (Instr.loadAt 191 x195) (fun x196 =>
 PureQ Tryz.prog (fun z => E11 w56.drew z ∧ Facts Φ11 [] z) (Instr.indexAt 145 a0 x19) (fun x199 =>
 PureQ Tryz.prog (fun z => E11 w56.drew z ∧ Facts Φ11 [] z) (Instr.loadAt 191 x199) (fun x200 =>
 PureQ Tryz.prog (fun z => E11 w56.drew z ∧ Facts Φ11 [] z) (binOp .add 191 x196 x200) (fun x201 =>
 ∀ w57 : World, E11 w56.drew w57 → Facts Φ11 [] w57 →
 Do Tryz.prog (Instr.indexAt 145 x13 x19) w57 (fun x202 w58 =>
 DoU Tryz.prog (Instr.storeAt 191 x202 x201) w58 (fun w59 =>
 Do Tryz.prog (binOp .add 3 x19 (Value.int IntKind.i64 1)) w59 (fun x190 w60 =>
 Nxt I10 m10 [x190] w60) (pkR R)) (pkR R)) (pkR R))))))) (
 R (.returned x13) w56)) (pkR R))) (pkR R)) (pkR R)) (pkR R))) (pkR R)
theorem vc_buttressref01_turn {R : Ending → World → Prop} {a0 a1 a2 : Value} {w : World} (h : V_buttressref01_turn R a0 a1 a2 w) : Calls Tryz.prog 119 #[a0, a1, a2] w R :=
  calls_of_vc (args := [a0, a1, a2]) (fun k => match k with | 3 => ([7, 8], [7, 8, 9, 10, 11, 12, 20, 21, 22, 23, 24, 25, 26, 27, 28, 29, 30, 31, 32, 33, 34, 35, 36, 37, 38, 39, 40, 41, 42, 43, 44, 45, 46, 47, 48, 49, 50, 51, 52, 53, 54, 55, 56, 57, 58, 59, 60, 61, 62, 63, 64, 65, 66, 67, 68, 69, 70, 71, 72, 73, 74, 75, 76, 77, 78, 79, 80, 81, 82, 83]) | 8 => ([9, 10], [9, 10, 26, 27, 28, 29, 30, 31, 32, 33, 34, 35, 36, 37, 38, 39, 40]) | 16 => ([13, 14], [13, 14, 15, 16, 17, 18, 87, 88, 89, 90, 91, 92, 93, 94, 95, 96, 97, 98, 99, 100, 101, 102, 103, 104, 105, 106, 107, 108, 109, 110, 111, 112, 113, 114, 115, 116, 117, 118, 119, 120, 121, 122, 123, 124, 125, 126, 127, 128, 129, 130, 131, 132, 133, 134, 135, 136, 137, 138, 139, 140, 141, 142, 143, 144, 145, 146, 147, 148, 149, 150, 151, 152, 153, 154, 155, 156, 157, 158, 159, 160, 161, 162, 163, 164, 165, 166, 167, 168, 169, 170, 171, 172, 173, 174, 175, 176, 177, 178, 179, 180, 181, 182, 183, 184, 185, 186]) | 23 => ([19], [19, 187, 188, 189, 190, 191, 192, 193, 194, 195, 196, 197, 198, 199, 200, 201, 202]) | _ => ([], [])) (fun _ => none) (fun _ => none) Tryz.func119 (bodyC_some (by kernel_rfl)) rfl (by kernel_rfl) (by kernel_rfl) (by kernel_rfl) (by kernel_rfl) (Eq.mpr (by kernel_rfl) h)

/-- buttress/buttressref01.Whole -/
def V_buttressref01_Whole (R : Ending → World → Prop) (a0 : Value) (w : World) : Prop :=
 Do Tryz.prog (Instr.buildSlice 22 0 #[]) w (fun x7 w1 =>
 DoN Tryz.prog (builtin .append #[22, 22] 22 #[false, false] #[x7, a0]) w1 (fun x9 w2 =>
 Do Tryz.prog (Instr.buildSlice 22 1 #[(0, (Value.int IntKind.u8 128))]) w2 (fun x10 w3 =>
 DoN Tryz.prog (builtin .append #[22, 22] 22 #[false, false] #[x9, x10]) w3 (fun x11 w4 =>
 ∃ I1 : Nat → List Value → World → Prop, (∃ m, I1 m [x11] w4) ∧
 ∀ m1 (x3 : Value) (j1 : Env) (w5 : World), I1 m1 [x3] w5 →
 DoN Tryz.prog (builtin .len #[22] 3 #[false] #[x3]) w5 (fun x13 w6 =>
 Do Tryz.prog (binOp .rem 3 x13 (Value.int IntKind.i64 128)) w6 (fun x14 w7 =>
 Do Tryz.prog ((do eqGuard .neq 3 (Operand.tmp 14) (Operand.const (Value.int IntKind.i64 112)) x14 (Value.int IntKind.i64 112); binOp .neq 3 x14 (Value.int IntKind.i64 112) : Sem Value)) w7 (fun x15 w8 =>
 CondV x15 (
 Do Tryz.prog (Instr.buildSlice 22 1 #[(0, (Value.int IntKind.u8 0))]) w8 (fun x17 w9 =>
 DoN Tryz.prog (builtin .append #[22, 22] 22 #[false, false] #[x3, x17]) w9 (fun x18 w10 =>
 Nxt I1 m1 [x18] w10) (pkR R)) (pkR R)) (
 DoN Tryz.prog (builtin .len #[22] 3 #[false] #[a0]) w8 (fun x20 w11 =>
 Do Tryz.prog (convert 3 191 x20) w11 (fun x21 w12 =>
 Do Tryz.prog (binOp .mul 191 (Value.int IntKind.u64 8) x21) w12 (fun x22 w13 =>
 ∃ I2 : Nat → List Value → World → Prop, (∃ m, I2 m [x3, (Value.int IntKind.i64 15)] w13) ∧
 ∀ m2 (x3_1 : Value) (x5 : Value) (j2 : Env) (w14 : World), I2 m2 [x3_1, x5] w14 →
 Do Tryz.prog (binOp .geq 3 x5 (Value.int IntKind.i64 0)) w14 (fun x24 w15 =>
 CondV x24 (
 Do Tryz.prog (binOp .lss 3 x5 (Value.int IntKind.i64 8)) w15 (fun x28 w16 =>
 CondV x28 (
 Do Tryz.prog (binOp .mul 3 (Value.int IntKind.i64 8) x5) w16 (fun x31 w17 =>
 Do Tryz.prog (convert 3 107 x31) w17 (fun x32 w18 =>
 Do Tryz.prog (binOp .shr 191 x22 x32) w18 (fun x33 w19 =>
 Do Tryz.prog (convert 191 5 x33) w19 (fun x34 w20 =>
 Do Tryz.prog (Instr.buildSlice 22 1 #[(0, x34)]) w20 (fun x37 w21 =>
 DoN Tryz.prog (builtin .append #[22, 22] 22 #[false, false] #[x3_1, x37]) w21 (fun x38 w22 =>
 Do Tryz.prog (binOp .sub 3 x5 (Value.int IntKind.i64 1)) w22 (fun x26 w23 =>
 Nxt I2 m2 [x38, x26] w23) (pkR R)) (pkR R)) (pkR R)) (pkR R)) (pkR R)) (pkR R)) (pkR R)) (
 Do Tryz.prog (Instr.buildSlice 22 1 #[(0, (Value.int IntKind.u8 0))]) w16 (fun x37_1 w24 =>
 DoN Tryz.prog (builtin .append #[22, 22] 22 #[false, false] #[x3_1, x37_1]) w24 (fun x38_1 w25 =>
 Do Tryz.prog (binOp .sub 3 x5 (Value.int IntKind.i64 1)) w25 (fun x26_1 w26 =>
 Nxt I2 m2 [x38_1, x26_1] w26) (pkR R)) (pkR R)) (pkR R))) (pkR R)) (
 R (.returned x3_1) w15)) (pkR R)) (pkR R)) (pkR R)) (pkR R))) (pkR R)) (pkR R)) (pkR R)) (pkR R)) (pkR R)) (pkR R)) (pkR R)
theorem vc_buttressref01_Whole {R : Ending → World → Prop} {a0 : Value} {w : World} (h : V_buttressref01_Whole R a0 w) : Calls Tryz.prog 118 #[a0] w R :=
  calls_of_vc (args := [a0]) (fun k => match k with | 2 => ([3], [3, 12, 13, 14, 15, 16, 17, 18]) | 6 => ([3, 5], [3, 5, 6, 23, 24, 25, 26, 27, 28, 29, 30, 31, 32, 33, 34, 35, 36, 37, 38]) | _ => ([], [])) (fun _ => none) (fun _ => none) Tryz.func118 (bodyC_some (by kernel_rfl)) rfl (by kernel_rfl) (by kernel_rfl) (by kernel_rfl) (by kernel_rfl) (Eq.mpr (by kernel_rfl) h)

/-- buttress/buttressref01.SumBy -/
def V_buttressref01_SumBy (R : Ending → World → Prop) (a0 a1 a2 : Value) (w : World) : Prop :=
 Do Tryz.prog (Instr.buildSlice 145 0 #[]) w (fun x13 w1 =>
 DoN Tryz.prog (builtin .append #[145, 145] 145 #[false, false] #[x13, a0]) w1 (fun x15 w2 =>
 CallS Tryz.prog 118 #[a2] w2 (retK (fun x17 w3 =>
 ∃ I1 : Nat → List Value → World → Prop, (∃ m, I1 m [x15, (Value.int IntKind.i64 0)] w3) ∧
 ∀ m1 (x7 : Value) (x9 : Value) (j1 : Env) (w4 : World), I1 m1 [x7, x9] w4 →
 DoN Tryz.prog (builtin .len #[22] 3 #[false] #[x17]) w4 (fun x20 w5 =>
 Do Tryz.prog (binOp .lss 3 x9 x20) w5 (fun x21 w6 =>
 CondV x21 (
 Do Tryz.prog (binOp .add 3 x9 (Value.int IntKind.i64 128)) w6 (fun x29 w7 =>
 Do Tryz.prog (Instr.sliceAt 22 x17 (some x9) (some x29) none) w7 (fun x30 w8 =>
 CallS Tryz.prog 119 #[x7, a1, x30] w8 (retK (fun x31 w9 =>
 Do Tryz.prog (binOp .add 3 x9 (Value.int IntKind.i64 128)) w9 (fun x23 w10 =>
 Nxt I1 m1 [x31, x23] w10) (pkR R)) (pkR R))) (pkR R)) (pkR R)) (
 ∃ I2 : Nat → List Value → World → Prop, (∃ m, I2 m [(Value.slice Option.none 0 0), (Value.int IntKind.i64 0)] w6) ∧
 ∀ m2 (x10 : Value) (x11 : Value) (j2 : Env) (w11 : World), I2 m2 [x10, x11] w11 →
 Do Tryz.prog (binOp .lss 3 x11 (Value.int IntKind.i64 8)) w11 (fun x33 w12 =>
 CondV x33 (
 ∃ I3 : Nat → List Value → World → Prop, (∃ m, I3 m [x10, (Value.int IntKind.i64 56)] w12) ∧
 ∀ m3 (x10_1 : Value) (x12 : Value) (j3 : Env) (w13 : World), I3 m3 [x10_1, x12] w13 →
 Do Tryz.prog (binOp .geq 3 x12 (Value.int IntKind.i64 0)) w13 (fun x37 w14 =>
 CondV x37 (
 Do Tryz.prog (Instr.indexAt 145 x7 x11) w14 (fun x43 w15 =>
 Do Tryz.prog (Instr.loadAt 191 x43) w15 (fun x44 w16 =>
 Do Tryz.prog (convert 3 107 x12) w16 (fun x46 w17 =>
 Do Tryz.prog (binOp .shr 191 x44 x46) w17 (fun x47 w18 =>
 Do Tryz.prog (convert 191 5 x47) w18 (fun x48 w19 =>
 Do Tryz.prog (Instr.buildSlice 22 1 #[(0, x48)]) w19 (fun x49 w20 =>
 DoN Tryz.prog (builtin .append #[22, 22] 22 #[false, false] #[x10_1, x49]) w20 (fun x50 w21 =>
 Do Tryz.prog (binOp .sub 3 x12 (Value.int IntKind.i64 8)) w21 (fun x39 w22 =>
 Nxt I3 m3 [x50, x39] w22) (pkR R)) (pkR R)) (pkR R)) (pkR R)) (pkR R)) (pkR R)) (pkR R)) (pkR R)) (
 Do Tryz.prog (binOp .add 3 x11 (Value.int IntKind.i64 1)) w14 (fun x35 w23 =>
 Nxt I2 m2 [x10_1, x35] w23) (pkR R))) (pkR R)) (
 R (.returned x10) w12)) (pkR R))) (pkR R)) (pkR R)) (pkR R))) (pkR R)) (pkR R)
theorem vc_buttressref01_SumBy {R : Ending → World → Prop} {a0 a1 a2 : Value} {w : World} (h : V_buttressref01_SumBy R a0 a1 a2 w) : Calls Tryz.prog 82 #[a0, a1, a2] w R :=
  calls_of_vc (args := [a0, a1, a2]) (fun k => match k with | 4 => ([7, 9], [7, 9, 18, 19, 20, 21, 22, 23, 24, 25, 26, 27, 28, 29, 30, 31]) | 9 => ([10, 11], [10, 11, 12, 32, 33, 34, 35, 36, 37, 38, 39, 40, 41, 42, 43, 44, 45, 46, 47, 48, 49, 50]) | 12 => ([10, 12], [10, 12, 36, 37, 38, 39, 40, 41, 42, 43, 44, 45, 46, 47, 48, 49, 50]) | _ => ([], [])) (fun _ => none) (fun _ => none) Tryz.func82 (bodyC_some (by kernel_rfl)) rfl (by kernel_rfl) (by kernel_rfl) (by kernel_rfl) (by kernel_rfl) (Eq.mpr (by kernel_rfl) h)

/-- buttress/buttressref01.Sum -/
def V_buttressref01_Sum (R : Ending → World → Prop) (a0 : Value) (w : World) : Prop :=
 CallS Tryz.prog 81 #[] w (retK (fun x6 w1 =>
 Do Tryz.prog (Instr.extract x6 0) w1 (fun x7 w2 =>
 Do Tryz.prog (Instr.extract x6 1) w2 (fun x8 w3 =>
 CallS Tryz.prog 82 #[x7, x8, a0] w3 (retK (fun x12 w4 =>
 R (.returned x12) w4) (pkR R))) (pkR R)) (pkR R)) (pkR R))
theorem vc_buttressref01_Sum {R : Ending → World → Prop} {a0 : Value} {w : World} (h : V_buttressref01_Sum R a0 w) : Calls Tryz.prog 45 #[a0] w R :=
  calls_of_vc (args := [a0]) (fun _ => ([], [])) (fun _ => none) (fun _ => none) Tryz.func45 (bodyC_some (by kernel_rfl)) rfl (by kernel_rfl) (by kernel_rfl) (by kernel_rfl) (by kernel_rfl) (Eq.mpr (by kernel_rfl) h)

/-- buttress/buttressref01.Table -/
def V_buttressref01_Table (R : Ending → World → Prop) (w : World) : Prop :=
 Do Tryz.prog (Instr.buildSlice 145 8 #[(0, (Value.int IntKind.u64 7640891576956012808)), (1, (Value.int IntKind.u64 13503953896175478587)), (2, (Value.int IntKind.u64 4354685564936845355)), (3, (Value.int IntKind.u64 11912009170470909681)), (4, (Value.int IntKind.u64 5840696475078001361)), (5, (Value.int IntKind.u64 11170449401992604703)), (6, (Value.int IntKind.u64 2270897969802886507)), (7, (Value.int IntKind.u64 6620516959819538809))]) w (fun x2 w1 =>
 Do Tryz.prog (Instr.buildSlice 145 80 #[(0, (Value.int IntKind.u64 4794697086780616226)), (1, (Value.int IntKind.u64 8158064640168781261)), (2, (Value.int IntKind.u64 13096744586834688815)), (3, (Value.int IntKind.u64 16840607885511220156)), (4, (Value.int IntKind.u64 4131703408338449720)), (5, (Value.int IntKind.u64 6480981068601479193)), (6, (Value.int IntKind.u64 10538285296894168987)), (7, (Value.int IntKind.u64 12329834152419229976)), (8, (Value.int IntKind.u64 15566598209576043074)), (9, (Value.int IntKind.u64 1334009975649890238)), (10, (Value.int IntKind.u64 2608012711638119052)), (11, (Value.int IntKind.u64 6128411473006802146)), (12, (Value.int IntKind.u64 8268148722764581231)), (13, (Value.int IntKind.u64 9286055187155687089)), (14, (Value.int IntKind.u64 11230858885718282805)), (15, (Value.int IntKind.u64 13951009754708518548)), (16, (Value.int IntKind.u64 16472876342353939154)), (17, (Value.int IntKind.u64 17275323862435702243)), (18, (Value.int IntKind.u64 1135362057144423861)), (19, (Value.int IntKind.u64 2597628984639134821)), (20, (Value.int IntKind.u64 3308224258029322869)), (21, (Value.int IntKind.u64 5365058923640841347)), (22, (Value.int IntKind.u64 6679025012923562964)), (23, (Value.int IntKind.u64 8573033837759648693)), (24, (Value.int IntKind.u64 10970295158949994411)), (25, (Value.int IntKind.u64 12119686244451234320)), (26, (Value.int IntKind.u64 12683024718118986047)), (27, (Value.int IntKind.u64 13788192230050041572)), (28, (Value.int IntKind.u64 14330467153632333762)), (29, (Value.int IntKind.u64 15395433587784984357)), (30, (Value.int IntKind.u64 489312712824947311)), (31, (Value.int IntKind.u64 1452737877330783856)), (32, (Value.int IntKind.u64 2861767655752347644)), (33, (Value.int IntKind.u64 3322285676063803686)), (34, (Value.int IntKind.u64 5560940570517711597)), (35, (Value.int IntKind.u64 5996557281743188959)), (36, (Value.int IntKind.u64 7280758554555802590)), (37, (Value.int IntKind.u64 8532644243296465576)), (38, (Value.int IntKind.u64 9350256976987008742)), (39, (Value.int IntKind.u64 10552545826968843579)), (40, (Value.int IntKind.u64 11727347734174303076)), (41, (Value.int IntKind.u64 12113106623233404929)), (42, (Value.int IntKind.u64 14000437183269869457)), (43, (Value.int IntKind.u64 14369950271660146224)), (44, (Value.int IntKind.u64 15101387698204529176)), (45, (Value.int IntKind.u64 15463397548674623760)), (46, (Value.int IntKind.u64 17586052441742319658)), (47, (Value.int IntKind.u64 1182934255886127544)), (48, (Value.int IntKind.u64 1847814050463011016)), (49, (Value.int IntKind.u64 2177327727835720531)), (50, (Value.int IntKind.u64 2830643537854262169)), (51, (Value.int IntKind.u64 3796741975233480872)), (52, (Value.int IntKind.u64 4115178125766777443)), (53, (Value.int IntKind.u64 5681478168544905931)), (54, (Value.int IntKind.u64 6601373596472566643)), (55, (Value.int IntKind.u64 7507060721942968483)), (56, (Value.int IntKind.u64 8399075790359081724)), (57, (Value.int IntKind.u64 8693463985226723168)), (58, (Value.int IntKind.u64 9568029438360202098)), (59, (Value.int IntKind.u64 10144078919501101548)), (60, (Value.int IntKind.u64 10430055236837252648)), (61, (Value.int IntKind.u64 11840083180663258601)), (62, (Value.int IntKind.u64 13761210420658862357)), (63, (Value.int IntKind.u64 14299343276471374635)), (64, (Value.int IntKind.u64 14566680578165727644)), (65, (Value.int IntKind.u64 15097957966210449927)), (66, (Value.int IntKind.u64 16922976911328602910)), (67, (Value.int IntKind.u64 17689382322260857208)), (68, (Value.int IntKind.u64 500013540394364858)), (69, (Value.int IntKind.u64 748580250866718886)), (70, (Value.int IntKind.u64 1242879168328830382)), (71, (Value.int IntKind.u64 1977374033974150939)), (72, (Value.int IntKind.u64 2944078676154940804)), (73, (Value.int IntKind.u64 3659926193048069267)), (74, (Value.int IntKind.u64 4368137639120453308)), (75, (Value.int IntKind.u64 4836135668995329356)), (76, (Value.int IntKind.u64 5532061633213252278)), (77, (Value.int IntKind.u64 6448918945643986474)), (78, (Value.int IntKind.u64 6902733635092675308)), (79, (Value.int IntKind.u64 7801388544844847127))]) w1 (fun x3 w2 =>
 R (.returned (.tuple #[x2, x3])) w2) (pkR R)) (pkR R)
theorem vc_buttressref01_Table {R : Ending → World → Prop} {w : World} (h : V_buttressref01_Table R w) : Calls Tryz.prog 81 #[] w R :=
  calls_of_vc (args := []) (fun _ => ([], [])) (fun _ => none) (fun _ => none) Tryz.func81 (bodyC_some (by kernel_rfl)) rfl (by kernel_rfl) (by kernel_rfl) (by kernel_rfl) (by kernel_rfl) (Eq.mpr (by kernel_rfl) h)

end Go.Proofs.YtpdceilhgaladaaGreatDoor
