/- PRINTED BY gen.py (a program of this claim): what each function comes to, operation by operation. -/
import Derived.Test.YtpdceilhgaladaaGreatDoorProg
import Derived.Test.YtpdceilhgaladaaGreatDoorVc
import Derived.KernelRfl
set_option maxRecDepth 100000
namespace Go.Proofs.YtpdceilhgaladaaGreatDoor
open Go.Vc

/-- math/bits.RotateLeft64 -/
def V_math_bits_RotateLeft64 (R : Ending → World → Prop) (a0 a1 : Value) (w : World) : Prop :=
 Do Tryz.prog (convert 3 107 a1) w (fun x7 w1 =>
 Do Tryz.prog (binOp .and 107 x7 (Value.int IntKind.u64 63)) w1 (fun x8 w2 =>
 Do Tryz.prog (binOp .shl 191 a0 x8) w2 (fun x11 w3 =>
 Do Tryz.prog (binOp .sub 107 (Value.int IntKind.u64 64) x8) w3 (fun x14 w4 =>
 Do Tryz.prog (binOp .shr 191 a0 x14) w4 (fun x15 w5 =>
 Do Tryz.prog (binOp .or 191 x11 x15) w5 (fun x16 w6 =>
 R (.returned x16) w6) (pkR R)) (pkR R)) (pkR R)) (pkR R)) (pkR R)) (pkR R)
theorem vc_math_bits_RotateLeft64 {R : Ending → World → Prop} {a0 a1 : Value} {w : World} (h : V_math_bits_RotateLeft64 R a0 a1 w) : Calls Tryz.prog 194 #[a0, a1] w R :=
  calls_of_vc (args := [a0, a1]) (fun _ => ([], [])) (fun _ => none) (fun _ => none) Tryz.func194 (bodyC_some (by kernel_rfl)) rfl (by kernel_rfl) (by kernel_rfl) (by kernel_rfl) (by kernel_rfl) (Eq.mpr (by kernel_rfl) h)

/-- buttress/sha.mix -/
def V_sha_mix (R : Ending → World → Prop) (a0 a1 a2 a3 : Value) (w : World) : Prop :=
 Do Tryz.prog (Op.unary .neg a1) w (fun x11 w1 =>
 CallS Tryz.prog 194 #[a0, x11] w1 (retK (fun x12 w2 =>
 Do Tryz.prog (Op.unary .neg a2) w2 (fun x15 w3 =>
 CallS Tryz.prog 194 #[a0, x15] w3 (retK (fun x16 w4 =>
 Do Tryz.prog (binOp .xor 191 x12 x16) w4 (fun x17 w5 =>
 Do Tryz.prog (Op.unary .neg a3) w5 (fun x20 w6 =>
 CallS Tryz.prog 194 #[a0, x20] w6 (retK (fun x21 w7 =>
 Do Tryz.prog (binOp .xor 191 x17 x21) w7 (fun x22 w8 =>
 R (.returned x22) w8) (pkR R)) (pkR R))) (pkR R)) (pkR R)) (pkR R))) (pkR R)) (pkR R))) (pkR R)
theorem vc_sha_mix {R : Ending → World → Prop} {a0 a1 a2 a3 : Value} {w : World} (h : V_sha_mix R a0 a1 a2 a3 w) : Calls Tryz.prog 171 #[a0, a1, a2, a3] w R :=
  calls_of_vc (args := [a0, a1, a2, a3]) (fun _ => ([], [])) (fun _ => none) (fun _ => none) Tryz.func171 (bodyC_some (by kernel_rfl)) rfl (by kernel_rfl) (by kernel_rfl) (by kernel_rfl) (by kernel_rfl) (Eq.mpr (by kernel_rfl) h)

/-- buttress/sha.small -/
def V_sha_small (R : Ending → World → Prop) (a0 a1 a2 a3 : Value) (w : World) : Prop :=
 ∃ (E1 : World → World → Prop) (Φ1 : Nat → Value → World → Prop), Pre E1 ∧ (∀ i v w w', E1 w w' → Φ1 i v w → Φ1 i v w') ∧
 PureQ Tryz.prog (fun z => E1 w.drew z ∧ Facts Φ1 [] z) (Op.unary .neg a1) (fun x11 =>
 (∀ w1 : World, E1 w.drew w1 → Facts Φ1 [] w1 → CallS Tryz.prog 194 #[a0, x11] w1 (retK (fun x12 w2 =>
 E1 w1 w2 ∧ Φ1 3 x12 w2) (fun _ _ => False))) ∧ ∀ x12_1 : Value,
 PureQ Tryz.prog (fun z => E1 w.drew z ∧ Facts Φ1 [] z) (Op.unary .neg a2) (fun x15 =>
 (∀ w3 : World, E1 w.drew w3 → Facts Φ1 [(3, x12_1)] w3 → CallS Tryz.prog 194 #[a0, x15] w3 (retK (fun x16 w4 =>
 E1 w3 w4 ∧ Φ1 7 x16 w4) (fun _ _ => False))) ∧ ∀ x16_1 : Value,
 PureQ Tryz.prog (fun z => E1 w.drew z ∧ Facts Φ1 [(7, x16_1), (3, x12_1)] z) (binOp .xor 191 x12_1 x16_1) (fun x17 =>
 PureQ Tryz.prog (fun z => E1 w.drew z ∧ Facts Φ1 [] z) (binOp .shr 191 a0 a3) (fun x20 =>
 ∀ w5 : World, E1 w.drew w5 → Facts Φ1 [(7, x16_1), (3, x12_1)] w5 →
 Do Tryz.prog (binOp .xor 191 x17 x20) w5 (fun x21 w6 =>
 R (.returned x21) w6) (pkR R)))))
theorem vc_sha_small {R : Ending → World → Prop} {a0 a1 a2 a3 : Value} {w : World} (h : V_sha_small R a0 a1 a2 a3 w) : Calls Tryz.prog 170 #[a0, a1, a2, a3] w R :=
  calls_of_vc (args := [a0, a1, a2, a3]) (fun _ => ([], [])) (fun _ => none) (fun _ => none) Tryz.func170 (bodyC_some (by kernel_rfl)) rfl (by kernel_rfl) (by kernel_rfl) (by kernel_rfl) (by kernel_rfl) (Eq.mpr (by kernel_rfl) h)

/-- (*buttress/sha.words).block -/
def V_sha_words_block (R : Ending → World → Prop) (a0 a1 : Value) (w : World) : Prop :=
 Do Tryz.prog (Instr.alloc 241 true (.tuple #[])) w (fun x4 w1 =>
 ∃ I1 : Nat → List Value → World → Prop, (∃ m, I1 m [(Value.int IntKind.i64 0)] w1) ∧
 ∀ m1 (x16 : Value) (_j1 : Env) (w2 : World), I1 m1 [x16] w2 →
 Do Tryz.prog (binOp .lss 3 x16 (Value.int IntKind.i64 80)) w2 (fun x17 w3 =>
 CondV x17 (
 Do Tryz.prog (binOp .lss 3 x16 (Value.int IntKind.i64 16)) w3 (fun x20 w4 =>
 CondV x20 (
 Do Tryz.prog (binOp .mul 3 (Value.int IntKind.i64 8) x16) w4 (fun x23 w5 =>
 Do Tryz.prog (binOp .mul 3 (Value.int IntKind.i64 8) x16) w5 (fun x25 w6 =>
 Do Tryz.prog (binOp .add 3 x25 (Value.int IntKind.i64 8)) w6 (fun x26 w7 =>
 Do Tryz.prog (Instr.sliceAt 22 a1 (some x23) (some x26) none) w7 (fun x27 w8 =>
 DoN Tryz.prog (builtin .len #[22] 3 #[false] #[x27]) w8 (fun x28 w9 =>
 ∃ I2 : Nat → List Value → World → Prop, (∃ m, I2 m [(Value.int IntKind.i64 0)] w9) ∧
 ∀ m2 (x29 : Value) (_j2 : Env) (w10 : World), I2 m2 [x29] w10 →
 Do Tryz.prog (binOp .lss 3 x29 x28) w10 (fun x30 w11 =>
 CondV x30 (
 Do Tryz.prog (Instr.indexAt 22 x27 x29) w11 (fun x31 w12 =>
 Do Tryz.prog (Instr.loadAt 5 x31) w12 (fun x32 w13 =>
 Do Tryz.prog (Instr.indexAt 241 x4 x16) w13 (fun x35 w14 =>
 Do Tryz.prog (Instr.loadAt 191 x35) w14 (fun x36 w15 =>
 Do Tryz.prog (binOp .shl 191 x36 (Value.int IntKind.u64 8)) w15 (fun x37 w16 =>
 Do Tryz.prog (convert 5 191 x32) w16 (fun x39 w17 =>
 Do Tryz.prog (binOp .or 191 x37 x39) w17 (fun x40 w18 =>
 Do Tryz.prog (Instr.indexAt 241 x4 x16) w18 (fun x41 w19 =>
 DoU Tryz.prog (Instr.storeAt 191 x41 x40) w19 (fun w20 =>
 Do Tryz.prog (binOp .add 3 x29 (Value.int IntKind.i64 1)) w20 (fun x42 w21 =>
 Nxt I2 m2 [x42] w21) (pkR R)) (pkR R)) (pkR R)) (pkR R)) (pkR R)) (pkR R)) (pkR R)) (pkR R)) (pkR R)) (pkR R)) (
 Do Tryz.prog (binOp .add 3 x16 (Value.int IntKind.i64 1)) w11 (fun x66 w22 =>
 Nxt I1 m1 [x66] w22) (pkR R))) (pkR R)) (pkR R)) (pkR R)) (pkR R)) (pkR R)) (pkR R)) (
 ∃ (E3 : World → World → Prop) (Φ3 : Nat → Value → World → Prop), Pre E3 ∧ (∀ i v w w', E3 w w' → Φ3 i v w → Φ3 i v w') ∧
 PureQ Tryz.prog (fun z => E3 w4.drew z ∧ Facts Φ3 [] z) (binOp .sub 3 x16 (Value.int IntKind.i64 2)) (fun x45 =>
 PureQ Tryz.prog (fun z => E3 w4.drew z ∧ Facts Φ3 [] z) (Instr.indexAt 241 x4 x45) (fun x46 =>
 PureQ Tryz.prog (fun z => E3 w4.drew z ∧ Facts Φ3 [] z) (Instr.loadAt 191 x46) (fun x47 =>
 (∀ w23 : World, E3 w4.drew w23 → Facts Φ3 [] w23 → CallS Tryz.prog 170 #[x47, (Value.int IntKind.i64 19), (Value.int IntKind.i64 61), (Value.int IntKind.i64 6)] w23 (retK (fun x48 w24 =>
 E3 w23 w24 ∧ Φ3 5 x48 w24) (fun _ _ => False))) ∧ ∀ x48_1 : Value,
 PureQ Tryz.prog (fun z => E3 w4.drew z ∧ Facts Φ3 [] z) (binOp .sub 3 x16 (Value.int IntKind.i64 7)) (fun x50 =>
 PureQ Tryz.prog (fun z => E3 w4.drew z ∧ Facts Φ3 [] z) (Instr.indexAt 241 x4 x50) (fun x51 =>
 PureQ Tryz.prog (fun z => E3 w4.drew z ∧ Facts Φ3 [] z) (Instr.loadAt 191 x51) (fun x52 =>
 PureQ Tryz.prog (fun z => E3 w4.drew z ∧ Facts Φ3 [(5, x48_1)] z) (binOp .add 191 x48_1 x52) (fun x53 =>
 PureQ Tryz.prog (fun z => E3 w4.drew z ∧ Facts Φ3 [] z) (binOp .sub 3 x16 (Value.int IntKind.i64 15)) (fun x55 =>
 PureQ Tryz.prog (fun z => E3 w4.drew z ∧ Facts Φ3 [] z) (Instr.indexAt 241 x4 x55) (fun x56 =>
 PureQ Tryz.prog (fun z => E3 w4.drew z ∧ Facts Φ3 [] z) (Instr.loadAt 191 x56) (fun x57 =>
 (∀ w25 : World, E3 w4.drew w25 → Facts Φ3 [(5, x48_1)] w25 → CallS Tryz.prog 170 #[x57, (Value.int IntKind.i64 1), (Value.int IntKind.i64 8), (Value.int IntKind.i64 7)] w25 (retK (fun x58 w26 =>
 E3 w25 w26 ∧ Φ3 15 x58 w26) (fun _ _ => False))) ∧ ∀ x58_1 : Value,
 PureQ Tryz.prog (fun z => E3 w4.drew z ∧ Facts Φ3 [(15, x58_1), (5, x48_1)] z) (binOp .add 191 x53 x58_1) (fun x59 =>
 PureQ Tryz.prog (fun z => E3 w4.drew z ∧ Facts Φ3 [] z) (binOp .sub 3 x16 (Value.int IntKind.i64 16)) (fun x61 =>
 PureQ Tryz.prog (fun z => E3 w4.drew z ∧ Facts Φ3 [] z) (Instr.indexAt 241 x4 x61) (fun x62 =>
 PureQ Tryz.prog (fun z => E3 w4.drew z ∧ Facts Φ3 [] z) (Instr.loadAt 191 x62) (fun x63 =>
 PureQ Tryz.prog (fun z => E3 w4.drew z ∧ Facts Φ3 [(15, x58_1), (5, x48_1)] z) (binOp .add 191 x59 x63) (fun x64 =>
 ∀ w27 : World, E3 w4.drew w27 → Facts Φ3 [(15, x58_1), (5, x48_1)] w27 →
 Do Tryz.prog (Instr.indexAt 241 x4 x16) w27 (fun x65 w28 =>
 DoU Tryz.prog (Instr.storeAt 191 x65 x64) w28 (fun w29 =>
 Do Tryz.prog (binOp .add 3 x16 (Value.int IntKind.i64 1)) w29 (fun x66_1 w30 =>
 Nxt I1 m1 [x66_1] w30) (pkR R)) (pkR R)) (pkR R)))))))))))))))))) (pkR R)) (
 DoN Tryz.prog (nilS a0) w3 (fun x68 w31 =>
 Do Tryz.prog (Instr.loadAt 215 x68) w31 (fun x69 w32 =>
 Do Tryz.prog (Instr.alloc 215 true (.tuple #[])) w32 (fun x8 w33 =>
 DoU Tryz.prog (Instr.storeAt 215 x8 x69) w33 (fun w34 =>
 Do Tryz.prog (Instr.loadAt 241 x4) w34 (fun x70 w35 =>
 ∃ I4 : Nat → List Value → World → Prop, (∃ m, I4 m [(Value.int IntKind.i64 0)] w35) ∧
 ∀ m4 (x71 : Value) (_j4 : Env) (w36 : World), I4 m4 [x71] w36 →
 Do Tryz.prog (binOp .lss 3 x71 (Value.int IntKind.i64 80)) w36 (fun x72 w37 =>
 CondV x72 (
 Do Tryz.prog (Instr.index 241 x70 x71) w37 (fun x74 w38 =>
 ∃ (E5 : World → World → Prop) (Φ5 : Nat → Value → World → Prop), Pre E5 ∧ (∀ i v w w', E5 w w' → Φ5 i v w → Φ5 i v w') ∧
 PureQ Tryz.prog (fun z => E5 w38.drew z ∧ Facts Φ5 [] z) (Instr.indexAt 215 x8 (Value.int IntKind.i64 0)) (fun x75 =>
 PureQ Tryz.prog (fun z => E5 w38.drew z ∧ Facts Φ5 [] z) (Instr.loadAt 191 x75) (fun x76 =>
 PureQ Tryz.prog (fun z => E5 w38.drew z ∧ Facts Φ5 [] z) (Instr.indexAt 215 x8 (Value.int IntKind.i64 4)) (fun x77 =>
 PureQ Tryz.prog (fun z => E5 w38.drew z ∧ Facts Φ5 [] z) (Instr.loadAt 191 x77) (fun x78 =>
 ∀ w39 : World, E5 w38.drew w39 → Facts Φ5 [] w39 →
 ∃ (E6 : World → World → Prop) (Φ6 : Nat → Value → World → Prop), Pre E6 ∧ (∀ i v w w', E6 w w' → Φ6 i v w → Φ6 i v w') ∧
 PureQ Tryz.prog (fun z => E6 w39.drew z ∧ Facts Φ6 [] z) (Instr.indexAt 215 x8 (Value.int IntKind.i64 7)) (fun x79 =>
 PureQ Tryz.prog (fun z => E6 w39.drew z ∧ Facts Φ6 [] z) (Instr.loadAt 191 x79) (fun x80 =>
 (∀ w40 : World, E6 w39.drew w40 → Facts Φ6 [] w40 → CallS Tryz.prog 171 #[x78, (Value.int IntKind.i64 14), (Value.int IntKind.i64 18), (Value.int IntKind.i64 41)] w40 (retK (fun x82 w41 =>
 E6 w40 w41 ∧ Φ6 3 x82 w41) (fun _ _ => False))) ∧ ∀ x82_1 : Value,
 PureQ Tryz.prog (fun z => E6 w39.drew z ∧ Facts Φ6 [(3, x82_1)] z) (binOp .add 191 x80 x82_1) (fun x83 =>
 PureQ Tryz.prog (fun z => E6 w39.drew z ∧ Facts Φ6 [] z) (Instr.indexAt 215 x8 (Value.int IntKind.i64 5)) (fun x85 =>
 PureQ Tryz.prog (fun z => E6 w39.drew z ∧ Facts Φ6 [] z) (Instr.loadAt 191 x85) (fun x86 =>
 PureQ Tryz.prog (fun z => E6 w39.drew z ∧ Facts Φ6 [] z) (binOp .and 191 x78 x86) (fun x87 =>
 PureQ Tryz.prog (fun z => E6 w39.drew z ∧ Facts Φ6 [] z) (Op.unary .xor x78) (fun x89 =>
 PureQ Tryz.prog (fun z => E6 w39.drew z ∧ Facts Φ6 [] z) (Instr.indexAt 215 x8 (Value.int IntKind.i64 6)) (fun x90 =>
 PureQ Tryz.prog (fun z => E6 w39.drew z ∧ Facts Φ6 [] z) (Instr.loadAt 191 x90) (fun x91 =>
 PureQ Tryz.prog (fun z => E6 w39.drew z ∧ Facts Φ6 [] z) (binOp .and 191 x89 x91) (fun x92 =>
 PureQ Tryz.prog (fun z => E6 w39.drew z ∧ Facts Φ6 [] z) (binOp .xor 191 x87 x92) (fun x93 =>
 PureQ Tryz.prog (fun z => E6 w39.drew z ∧ Facts Φ6 [(3, x82_1)] z) (binOp .add 191 x83 x93) (fun x94 =>
 PureQ Tryz.prog (fun z => E6 w39.drew z ∧ Facts Φ6 [] z) (Instr.indexAt 241 (Value.pointer (some ⟨2, 0, none⟩)) x71) (fun x96 =>
 PureQ Tryz.prog (fun z => E6 w39.drew z ∧ Facts Φ6 [] z) (Instr.loadAt 191 x96) (fun x97 =>
 PureQ Tryz.prog (fun z => E6 w39.drew z ∧ Facts Φ6 [(3, x82_1)] z) (binOp .add 191 x94 x97) (fun x98 =>
 ∀ w42 : World, E6 w39.drew w42 → Facts Φ6 [(3, x82_1)] w42 →
 Do Tryz.prog (binOp .add 191 x98 x74) w42 (fun x100 w43 =>
 ∃ (E7 : World → World → Prop) (Φ7 : Nat → Value → World → Prop), Pre E7 ∧ (∀ i v w w', E7 w w' → Φ7 i v w → Φ7 i v w') ∧
 (∀ w44 : World, E7 w43.drew w44 → Facts Φ7 [] w44 → CallS Tryz.prog 171 #[x76, (Value.int IntKind.i64 28), (Value.int IntKind.i64 34), (Value.int IntKind.i64 39)] w44 (retK (fun x102 w45 =>
 E7 w44 w45 ∧ Φ7 1 x102 w45) (fun _ _ => False))) ∧ ∀ x102_1 : Value,
 PureQ Tryz.prog (fun z => E7 w43.drew z ∧ Facts Φ7 [] z) (Instr.indexAt 215 x8 (Value.int IntKind.i64 1)) (fun x104 =>
 PureQ Tryz.prog (fun z => E7 w43.drew z ∧ Facts Φ7 [] z) (Instr.loadAt 191 x104) (fun x105 =>
 PureQ Tryz.prog (fun z => E7 w43.drew z ∧ Facts Φ7 [] z) (binOp .and 191 x76 x105) (fun x106 =>
 PureQ Tryz.prog (fun z => E7 w43.drew z ∧ Facts Φ7 [] z) (Instr.indexAt 215 x8 (Value.int IntKind.i64 2)) (fun x108 =>
 PureQ Tryz.prog (fun z => E7 w43.drew z ∧ Facts Φ7 [] z) (Instr.loadAt 191 x108) (fun x109 =>
 PureQ Tryz.prog (fun z => E7 w43.drew z ∧ Facts Φ7 [] z) (binOp .and 191 x76 x109) (fun x110 =>
 PureQ Tryz.prog (fun z => E7 w43.drew z ∧ Facts Φ7 [] z) (binOp .xor 191 x106 x110) (fun x111 =>
 PureQ Tryz.prog (fun z => E7 w43.drew z ∧ Facts Φ7 [] z) (Instr.indexAt 215 x8 (Value.int IntKind.i64 1)) (fun x112 =>
 PureQ Tryz.prog (fun z => E7 w43.drew z ∧ Facts Φ7 [] z) (Instr.loadAt 191 x112) (fun x113 =>
 PureQ Tryz.prog (fun z => E7 w43.drew z ∧ Facts Φ7 [] z) (Instr.indexAt 215 x8 (Value.int IntKind.i64 2)) (fun x114 =>
 PureQ Tryz.prog (fun z => E7 w43.drew z ∧ Facts Φ7 [] z) (Instr.loadAt 191 x114) (fun x115 =>
 PureQ Tryz.prog (fun z => E7 w43.drew z ∧ Facts Φ7 [] z) (binOp .and 191 x113 x115) (fun x116 =>
 PureQ Tryz.prog (fun z => E7 w43.drew z ∧ Facts Φ7 [] z) (binOp .xor 191 x111 x116) (fun x117 =>
 ∀ w46 : World, E7 w43.drew w46 → Facts Φ7 [(1, x102_1)] w46 →
 Do Tryz.prog (binOp .add 191 x102_1 x117) w46 (fun x118 w47 =>
 ∃ (E8 : World → World → Prop) (Φ8 : Nat → Value → World → Prop), Pre E8 ∧ (∀ i v w w', E8 w w' → Φ8 i v w → Φ8 i v w') ∧
 PureQ Tryz.prog (fun z => E8 w47.drew z ∧ Facts Φ8 [] z) (Instr.sliceAt 215 x8 (some (Value.int IntKind.i64 1)) none none) (fun x119 =>
 PureQ Tryz.prog (fun z => E8 w47.drew z ∧ Facts Φ8 [] z) (Instr.sliceAt 215 x8 none (some (Value.int IntKind.i64 7)) none) (fun x120 =>
 ∀ w48 : World, E8 w47.drew w48 → Facts Φ8 [] w48 →
 DoN Tryz.prog (builtin .copy #[145, 145] 3 #[false, false] #[x119, x120]) w48 (fun _x121 w49 =>
 Do Tryz.prog (binOp .add 191 x100 x118) w49 (fun x124 w50 =>
 Do Tryz.prog (Instr.indexAt 215 x8 (Value.int IntKind.i64 4)) w50 (fun x125 w51 =>
 Do Tryz.prog (Instr.loadAt 191 x125) w51 (fun x126 w52 =>
 Do Tryz.prog (binOp .add 191 x126 x100) w52 (fun x128 w53 =>
 Do Tryz.prog (Instr.indexAt 215 x8 (Value.int IntKind.i64 0)) w53 (fun x129 w54 =>
 DoU Tryz.prog (Instr.storeAt 191 x129 x124) w54 (fun w55 =>
 Do Tryz.prog (Instr.indexAt 215 x8 (Value.int IntKind.i64 4)) w55 (fun x130 w56 =>
 DoU Tryz.prog (Instr.storeAt 191 x130 x128) w56 (fun w57 =>
 Do Tryz.prog (binOp .add 3 x71 (Value.int IntKind.i64 1)) w57 (fun x131 w58 =>
 Nxt I4 m4 [x131] w58) (pkR R)) (pkR R)) (pkR R)) (pkR R)) (pkR R)) (pkR R)) (pkR R)) (pkR R)) (pkR R)) (pkR R)))) (pkR R))))))))))))))) (pkR R))))))))))))))))))))) (pkR R)) (
 ∃ I9 : Nat → List Value → World → Prop, (∃ m, I9 m [(Value.int IntKind.i64 0)] w37) ∧
 ∀ m9 (x132 : Value) (_j9 : Env) (w59 : World), I9 m9 [x132] w59 →
 Do Tryz.prog (binOp .lss 3 x132 (Value.int IntKind.i64 8)) w59 (fun x133 w60 =>
 CondV x133 (
 ∃ (E10 : World → World → Prop) (Φ10 : Nat → Value → World → Prop), Pre E10 ∧ (∀ i v w w', E10 w w' → Φ10 i v w → Φ10 i v w') ∧
 PureN Tryz.prog (fun z => E10 w60.drew z ∧ Facts Φ10 [] z) (nilS a0) (fun x137 =>
 PureQ Tryz.prog (fun z => E10 w60.drew z ∧ Facts Φ10 [] z) (Instr.indexAt 215 x137 x132) (fun x138 =>
 PureQ Tryz.prog (fun z => E10 w60.drew z ∧ Facts Φ10 [] z) (Instr.loadAt 191 x138) (fun x139 =>
 PureQ Tryz.prog (fun z => E10 w60.drew z ∧ Facts Φ10 [] z) (Instr.indexAt 215 x8 x132) (fun x141 =>
 PureQ Tryz.prog (fun z => E10 w60.drew z ∧ Facts Φ10 [] z) (Instr.loadAt 191 x141) (fun x142 =>
 PureQ Tryz.prog (fun z => E10 w60.drew z ∧ Facts Φ10 [] z) (binOp .add 191 x139 x142) (fun x143 =>
 PureN Tryz.prog (fun z => E10 w60.drew z ∧ Facts Φ10 [] z) (nilS a0) (fun x144 =>
 ∀ w61 : World, E10 w60.drew w61 → Facts Φ10 [] w61 →
 Do Tryz.prog (Instr.indexAt 215 x144 x132) w61 (fun x145 w62 =>
 DoU Tryz.prog (Instr.storeAt 191 x145 x143) w62 (fun w63 =>
 Do Tryz.prog (binOp .add 3 x132 (Value.int IntKind.i64 1)) w63 (fun x146 w64 =>
 Nxt I9 m9 [x146] w64) (pkR R)) (pkR R)) (pkR R))))))))) (
 R (.returned (.tuple #[])) w60)) (pkR R))) (pkR R)) (pkR R)) (pkR R)) (pkR R)) (pkR R)) (pkR R))) (pkR R)) (pkR R)
theorem vc_sha_words_block {R : Ending → World → Prop} {a0 a1 : Value} {w : World} (h : V_sha_words_block R a0 a1 w) : Calls Tryz.prog 141 #[a0, a1] w R :=
  calls_of_vc (args := [a0, a1]) (fun k => match k with | 2 => ([16], [5, 7, 16, 17, 18, 19, 20, 21, 22, 23, 24, 25, 26, 27, 28, 29, 30, 31, 32, 33, 34, 35, 36, 37, 38, 39, 40, 41, 42, 43, 44, 45, 46, 47, 48, 49, 50, 51, 52, 53, 54, 55, 56, 57, 58, 59, 60, 61, 62, 63, 64, 65, 66]) | 6 => ([29], [7, 29, 30, 31, 32, 33, 34, 35, 36, 37, 38, 39, 40, 41, 42]) | 14 => ([71], [9, 10, 11, 12, 13, 14, 71, 72, 73, 74, 75, 76, 77, 78, 79, 80, 81, 82, 83, 84, 85, 86, 87, 88, 89, 90, 91, 92, 93, 94, 95, 96, 97, 98, 99, 100, 101, 102, 103, 104, 105, 106, 107, 108, 109, 110, 111, 112, 113, 114, 115, 116, 117, 118, 119, 120, 121, 122, 123, 124, 125, 126, 127, 128, 129, 130, 131]) | 23 => ([132], [15, 132, 133, 134, 135, 136, 137, 138, 139, 140, 141, 142, 143, 144, 145, 146]) | _ => ([], [])) (fun _ => none) (fun _ => none) Tryz.func141 (bodyC_some (by kernel_rfl)) rfl (by kernel_rfl) (by kernel_rfl) (by kernel_rfl) (by kernel_rfl) (Eq.mpr (by kernel_rfl) h)

/-- buttress/sha.New -/
def V_sha_New (R : Ending → World → Prop) (w : World) : Prop :=
 Do Tryz.prog (Instr.loadAt 215 (Value.pointer (some ⟨0, 0, none⟩))) w (fun x1 w1 =>
 Do Tryz.prog (Instr.build 217 #[(0, x1), (3, (Value.bool Bool.true))]) w1 (fun x2 w2 =>
 Do Tryz.prog (Instr.box 217 x2) w2 (fun x3 w3 =>
 R (.returned x3) w3) (pkR R)) (pkR R)) (pkR R)
theorem vc_sha_New {R : Ending → World → Prop} {w : World} (h : V_sha_New R w) : Calls Tryz.prog 98 #[] w R :=
  calls_of_vc (args := []) (fun _ => ([], [])) (fun _ => none) (fun _ => none) Tryz.func98 (bodyC_some (by kernel_rfl)) rfl (by kernel_rfl) (by kernel_rfl) (by kernel_rfl) (by kernel_rfl) (Eq.mpr (by kernel_rfl) h)

/-- (*buttress/sha.Hash).there -/
def V_sha_Hash_there (R : Ending → World → Prop) (a0 : Value) (w : World) : Prop :=
 Do Tryz.prog ((do eqGuard .neq 162 (Operand.tmp 3) (Operand.const (Value.pointer Option.none)) a0 (Value.pointer Option.none); binOp .neq 162 a0 (Value.pointer Option.none) : Sem Value)) w (fun x4 w1 =>
 BoolV x4 (fun b1 =>
 SplitB b1 (
 DoN Tryz.prog (nilS a0) w1 (fun x7 w2 =>
 Do Tryz.prog (Instr.fieldAt 217 x7 3) w2 (fun x8 w3 =>
 Do Tryz.prog (Instr.loadAt 4 x8) w3 (fun x9 w4 =>
 R (.returned x9) w4) (pkR R)) (pkR R)) (pkR R)) (
 R (.returned (Value.bool Bool.false)) w1))) (pkR R)
theorem vc_sha_Hash_there {R : Ending → World → Prop} {a0 : Value} {w : World} (h : V_sha_Hash_there R a0 w) : Calls Tryz.prog 140 #[a0] w R :=
  calls_of_vc (args := [a0]) (fun _ => ([], [])) (fun _ => none) (fun _ => none) Tryz.func140 (bodyC_some (by kernel_rfl)) rfl (by kernel_rfl) (by kernel_rfl) (by kernel_rfl) (by kernel_rfl) (Eq.mpr (by kernel_rfl) h)

/-- (*buttress/sha.Hash).Write -/
def V_sha_Hash_Write (R : Ending → World → Prop) (a0 a1 : Value) (w : World) : Prop :=
 CallS Tryz.prog 140 #[a0] w (retK (fun x9 w1 =>
 Do Tryz.prog (Op.unary .not x9) w1 (fun x10 w2 =>
 CondV x10 (
 R (.returned (Value.int IntKind.i64 1)) w2) (
 DoN Tryz.prog (builtin .len #[55] 3 #[false] #[a1]) w2 (fun x12 w3 =>
 ∃ I1 : Nat → List Value → World → Prop, (∃ m, I1 m [(Value.int IntKind.i64 0)] w3) ∧
 ∀ m1 (x13 : Value) (_j1 : Env) (w4 : World), I1 m1 [x13] w4 →
 Do Tryz.prog (binOp .lss 3 x13 x12) w4 (fun x14 w5 =>
 CondV x14 (
 Do Tryz.prog (Instr.indexAt 55 a1 x13) w5 (fun x15 w6 =>
 Do Tryz.prog (Instr.loadAt 22 x15) w6 (fun x16 w7 =>
 DoN Tryz.prog (nilS a0) w7 (fun x18 w8 =>
 Do Tryz.prog (Instr.fieldAt 217 x18 2) w8 (fun x19 w9 =>
 Do Tryz.prog (Instr.loadAt 191 x19) w9 (fun x20 w10 =>
 DoN Tryz.prog (builtin .len #[22] 3 #[false] #[x16]) w10 (fun x22 w11 =>
 Do Tryz.prog (convert 3 191 x22) w11 (fun x23 w12 =>
 Do Tryz.prog (binOp .add 191 x20 x23) w12 (fun x24 w13 =>
 DoN Tryz.prog (nilS a0) w13 (fun x25 w14 =>
 Do Tryz.prog (Instr.fieldAt 217 x25 2) w14 (fun x26 w15 =>
 DoU Tryz.prog (Instr.storeAt 191 x26 x24) w15 (fun w16 =>
 ∃ J2 : List Value → World → Prop, (
 DoN Tryz.prog (nilS a0) w16 (fun x28 w17 =>
 Do Tryz.prog (Instr.fieldAt 217 x28 1) w17 (fun x29 w18 =>
 Do Tryz.prog (Instr.loadAt 22 x29) w18 (fun x30 w19 =>
 DoN Tryz.prog (builtin .len #[22] 3 #[false] #[x30]) w19 (fun x31 w20 =>
 Do Tryz.prog (binOp .sub 3 (Value.int IntKind.i64 128) x31) w20 (fun x32 w21 =>
 DoN Tryz.prog (builtin .len #[22] 3 #[false] #[x16]) w21 (fun x34 w22 =>
 DoN Tryz.prog (builtin .min #[3, 3] 3 #[false, false] #[x32, x34]) w22 (fun x35 w23 =>
 DoN Tryz.prog (nilS a0) w23 (fun x37 w24 =>
 Do Tryz.prog (Instr.fieldAt 217 x37 1) w24 (fun x38 w25 =>
 Do Tryz.prog (Instr.loadAt 22 x38) w25 (fun x39 w26 =>
 DoN Tryz.prog (builtin .len #[22] 3 #[false] #[x39]) w26 (fun x40 w27 =>
 Do Tryz.prog (binOp .gtr 3 x40 (Value.int IntKind.i64 0)) w27 (fun x41 w28 =>
 CondV x41 (
 PureN Tryz.prog (fun _ => True) (nilS a0) (fun x44 =>
 PureQ Tryz.prog (fun _ => True) (Instr.fieldAt 217 x44 1) (fun x45 =>
 PureQ Tryz.prog (fun _ => True) (Instr.sliceAt 22 x16 none (some x35) none) (fun x49 =>
 PureQ Tryz.prog (fun _ => True) (Instr.sliceAt 22 x16 (some x35) none none) (fun x53 =>
 ∃ (E3 : World → World → Prop) (Φ3 : Nat → Value → World → Prop), Pre E3 ∧ (∀ i v w w', E3 w w' → Φ3 i v w → Φ3 i v w') ∧
 ∀ w29 : World, E3 w28.drew w29 → Facts Φ3 [] w29 →
 Do Tryz.prog (Instr.loadAt 22 x45) w29 (fun x46 w30 =>
 DoN Tryz.prog (builtin .append #[22, 22] 22 #[false, false] #[x46, x49]) w30 (fun x50 w31 =>
 DoN Tryz.prog (nilS a0) w31 (fun x54 w32 =>
 Do Tryz.prog (Instr.fieldAt 217 x54 1) w32 (fun x55 w33 =>
 DoU Tryz.prog (Instr.storeAt 22 x55 x50) w33 (fun w34 =>
 DoN Tryz.prog (nilS a0) w34 (fun x57 w35 =>
 Do Tryz.prog (Instr.fieldAt 217 x57 1) w35 (fun x58 w36 =>
 Do Tryz.prog (Instr.loadAt 22 x58) w36 (fun x59 w37 =>
 DoN Tryz.prog (builtin .len #[22] 3 #[false] #[x59]) w37 (fun x60 w38 =>
 Do Tryz.prog (binOp .lss 3 x60 (Value.int IntKind.i64 128)) w38 (fun x61 w39 =>
 CondV x61 (
 Do Tryz.prog (binOp .add 3 x13 (Value.int IntKind.i64 1)) w39 (fun x98 w40 =>
 Nxt I1 m1 [x98] w40) (pkR R)) (
 ∃ (E4 : World → World → Prop) (Φ4 : Nat → Value → World → Prop), Pre E4 ∧ (∀ i v w w', E4 w w' → Φ4 i v w → Φ4 i v w') ∧
 PureN Tryz.prog (fun z => E4 w39.drew z ∧ Facts Φ4 [] z) (nilS a0) (fun x63 =>
 PureQ Tryz.prog (fun z => E4 w39.drew z ∧ Facts Φ4 [] z) (Instr.fieldAt 217 x63 0) (fun x64 =>
 PureN Tryz.prog (fun z => E4 w39.drew z ∧ Facts Φ4 [] z) (nilS a0) (fun x66 =>
 PureQ Tryz.prog (fun z => E4 w39.drew z ∧ Facts Φ4 [] z) (Instr.fieldAt 217 x66 1) (fun x67 =>
 PureQ Tryz.prog (fun z => E4 w39.drew z ∧ Facts Φ4 [] z) (Instr.loadAt 22 x67) (fun x68 =>
 ∀ w41 : World, E4 w39.drew w41 → Facts Φ4 [] w41 →
 CallS Tryz.prog 141 #[x64, x68] w41 (retK (fun _x69 w42 =>
 DoN Tryz.prog (nilS a0) w42 (fun x72 w43 =>
 Do Tryz.prog (Instr.fieldAt 217 x72 1) w43 (fun x73 w44 =>
 Do Tryz.prog (Instr.loadAt 22 x73) w44 (fun x74 w45 =>
 Do Tryz.prog (Instr.sliceAt 22 x74 none (some (Value.int IntKind.i64 0)) none) w45 (fun x75 w46 =>
 DoN Tryz.prog (nilS a0) w46 (fun x76 w47 =>
 Do Tryz.prog (Instr.fieldAt 217 x76 1) w47 (fun x77 w48 =>
 DoU Tryz.prog (Instr.storeAt 22 x77 x75) w48 (fun w49 =>
 J2 [x53] w49) (pkR R)) (pkR R)) (pkR R)) (pkR R)) (pkR R)) (pkR R)) (pkR R)) (pkR R))))))))) (pkR R)) (pkR R)) (pkR R)) (pkR R)) (pkR R)) (pkR R)) (pkR R)) (pkR R)) (pkR R)) (pkR R)))))) (
 J2 [x16] w28)) (pkR R)) (pkR R)) (pkR R)) (pkR R)) (pkR R)) (pkR R)) (pkR R)) (pkR R)) (pkR R)) (pkR R)) (pkR R)) (pkR R)) ∧
 ∀ (x6 : Value) (_j2 : Env) (w50 : World), J2 [x6] w50 →
 ∃ I5 : Nat → List Value → World → Prop, (∃ m, I5 m [x6] w50) ∧
 ∀ m5 (x6_1 : Value) (_j5 : Env) (w51 : World), I5 m5 [x6_1] w51 →
 DoN Tryz.prog (builtin .len #[22] 3 #[false] #[x6_1]) w51 (fun x79 w52 =>
 Do Tryz.prog (binOp .geq 3 x79 (Value.int IntKind.i64 128)) w52 (fun x80 w53 =>
 CondV x80 (
 ∃ (E6 : World → World → Prop) (Φ6 : Nat → Value → World → Prop), Pre E6 ∧ (∀ i v w w', E6 w w' → Φ6 i v w → Φ6 i v w') ∧
 PureN Tryz.prog (fun z => E6 w53.drew z ∧ Facts Φ6 [] z) (nilS a0) (fun x84 =>
 PureQ Tryz.prog (fun z => E6 w53.drew z ∧ Facts Φ6 [] z) (Instr.fieldAt 217 x84 0) (fun x85 =>
 PureQ Tryz.prog (fun z => E6 w53.drew z ∧ Facts Φ6 [] z) (Instr.sliceAt 22 x6_1 none (some (Value.int IntKind.i64 128)) none) (fun x87 =>
 ∀ w54 : World, E6 w53.drew w54 → Facts Φ6 [] w54 →
 CallS Tryz.prog 141 #[x85, x87] w54 (retK (fun _x88 w55 =>
 Do Tryz.prog (Instr.sliceAt 22 x6_1 (some (Value.int IntKind.i64 128)) none none) w55 (fun x82 w56 =>
 Nxt I5 m5 [x82] w56) (pkR R)) (pkR R)))))) (
 DoN Tryz.prog (nilS a0) w53 (fun x91 w57 =>
 Do Tryz.prog (Instr.fieldAt 217 x91 1) w57 (fun x92 w58 =>
 Do Tryz.prog (Instr.loadAt 22 x92) w58 (fun x93 w59 =>
 DoN Tryz.prog (builtin .append #[22, 22] 22 #[false, false] #[x93, x6_1]) w59 (fun x95 w60 =>
 DoN Tryz.prog (nilS a0) w60 (fun x96 w61 =>
 Do Tryz.prog (Instr.fieldAt 217 x96 1) w61 (fun x97 w62 =>
 DoU Tryz.prog (Instr.storeAt 22 x97 x95) w62 (fun w63 =>
 Do Tryz.prog (binOp .add 3 x13 (Value.int IntKind.i64 1)) w63 (fun x98_1 w64 =>
 Nxt I1 m1 [x98_1] w64) (pkR R)) (pkR R)) (pkR R)) (pkR R)) (pkR R)) (pkR R)) (pkR R)) (pkR R))) (pkR R)) (pkR R)) (pkR R)) (pkR R)) (pkR R)) (pkR R)) (pkR R)) (pkR R)) (pkR R)) (pkR R)) (pkR R)) (pkR R)) (pkR R)) (
 R (.returned (Value.int IntKind.i64 0)) w5)) (pkR R)) (pkR R))) (pkR R)) (pkR R))
theorem vc_sha_Hash_Write {R : Ending → World → Prop} {a0 a1 : Value} {w : World} (h : V_sha_Hash_Write R a0 a1 w) : Calls Tryz.prog 99 #[a0, a1] w R :=
  calls_of_vc (args := [a0, a1]) (fun k => match k with | 4 => ([13], [6, 7, 13, 14, 15, 16, 17, 18, 19, 20, 21, 22, 23, 24, 25, 26, 27, 28, 29, 30, 31, 32, 33, 34, 35, 36, 37, 38, 39, 40, 41, 42, 43, 44, 45, 46, 47, 48, 49, 50, 51, 52, 53, 54, 55, 56, 57, 58, 59, 60, 61, 62, 63, 64, 65, 66, 67, 68, 69, 70, 71, 72, 73, 74, 75, 76, 77, 78, 79, 80, 81, 82, 83, 84, 85, 86, 87, 88, 89, 90, 91, 92, 93, 94, 95, 96, 97, 98]) | 13 => ([6], [6, 78, 79, 80, 81, 82, 83, 84, 85, 86, 87, 88]) | _ => ([], [])) (fun k => match k with | 13 => some ([6], [6, 7, 27, 28, 29, 30, 31, 32, 33, 34, 35, 36, 37, 38, 39, 40, 41, 42, 43, 44, 45, 46, 47, 48, 49, 50, 51, 52, 53, 54, 55, 56, 57, 58, 59, 60, 61, 62, 63, 64, 65, 66, 67, 68, 69, 70, 71, 72, 73, 74, 75, 76, 77]) | _ => none) (fun k => match k with | 9 => some ([0, 1, 2, 3, 5, 6, 7, 9, 10, 11, 4, 8, 12, 13, 14, 15], 10) | _ => none) Tryz.func99 (bodyC_some (by kernel_rfl)) rfl (by kernel_rfl) (by kernel_rfl) (by kernel_rfl) (by kernel_rfl) (Eq.mpr (by kernel_rfl) h)

/-- (*buttress/sha.Hash).Copy -/
def V_sha_Hash_Copy (R : Ending → World → Prop) (a0 : Value) (w : World) : Prop :=
 CallS Tryz.prog 140 #[a0] w (retK (fun x5 w1 =>
 Do Tryz.prog (Op.unary .not x5) w1 (fun x6 w2 =>
 CondV x6 (
 R (.returned (Value.pointer Option.none)) w2) (
 DoN Tryz.prog (nilS a0) w2 (fun x8 w3 =>
 Do Tryz.prog (Instr.loadAt 217 x8) w3 (fun x9 w4 =>
 Do Tryz.prog (Instr.alloc 217 true (.tuple #[])) w4 (fun x3 w5 =>
 DoU Tryz.prog (Instr.storeAt 217 x3 x9) w5 (fun w6 =>
 DoN Tryz.prog (nilS a0) w6 (fun x11 w7 =>
 Do Tryz.prog (Instr.fieldAt 217 x11 1) w7 (fun x12 w8 =>
 Do Tryz.prog (Instr.loadAt 22 x12) w8 (fun x13 w9 =>
 CallS Tryz.prog 35 #[x13] w9 (retK (fun x14 w10 =>
 Do Tryz.prog (Instr.fieldAt 217 x3 1) w10 (fun x15 w11 =>
 DoU Tryz.prog (Instr.storeAt 22 x15 x14) w11 (fun w12 =>
 R (.returned x3) w12) (pkR R)) (pkR R)) (pkR R))) (pkR R)) (pkR R)) (pkR R)) (pkR R)) (pkR R)) (pkR R)) (pkR R))) (pkR R)) (pkR R))
theorem vc_sha_Hash_Copy {R : Ending → World → Prop} {a0 : Value} {w : World} (h : V_sha_Hash_Copy R a0 w) : Calls Tryz.prog 142 #[a0] w R :=
  calls_of_vc (args := [a0]) (fun _ => ([], [])) (fun _ => none) (fun _ => none) Tryz.func142 (bodyC_some (by kernel_rfl)) rfl (by kernel_rfl) (by kernel_rfl) (by kernel_rfl) (by kernel_rfl) (Eq.mpr (by kernel_rfl) h)

/-- (*buttress/sha.Hash).Sum -/
def V_sha_Hash_Sum (R : Ending → World → Prop) (a0 : Value) (w : World) : Prop :=
 CallS Tryz.prog 142 #[a0] w (retK (fun x12 w1 =>
 Do Tryz.prog ((do eqGuard .eql 162 (Operand.tmp 13) (Operand.const (Value.pointer Option.none)) x12 (Value.pointer Option.none); binOp .eql 162 x12 (Value.pointer Option.none) : Sem Value)) w1 (fun x14 w2 =>
 CondV x14 (
 R (.returned (Value.slice Option.none 0 0)) w2) (
 DoN Tryz.prog (nilS x12) w2 (fun x16 w3 =>
 Do Tryz.prog (Instr.fieldAt 217 x16 2) w3 (fun x17 w4 =>
 Do Tryz.prog (Instr.loadAt 191 x17) w4 (fun x18 w5 =>
 Do Tryz.prog (binOp .mul 191 (Value.int IntKind.u64 8) x18) w5 (fun x19 w6 =>
 Do Tryz.prog (Instr.makeSlice 22 (Value.int IntKind.i64 0) (Value.int IntKind.i64 256)) w6 (fun x20 w7 =>
 Do Tryz.prog (Instr.buildSlice 22 1 #[(0, (Value.int IntKind.u8 128))]) w7 (fun x21 w8 =>
 DoN Tryz.prog (builtin .append #[22, 22] 22 #[false, false] #[x20, x21]) w8 (fun x22 w9 =>
 ∃ I1 : Nat → List Value → World → Prop, (∃ m, I1 m [x22] w9) ∧
 ∀ m1 (x5 : Value) (_j1 : Env) (w10 : World), I1 m1 [x5] w10 →
 DoN Tryz.prog (nilS x12) w10 (fun x24 w11 =>
 Do Tryz.prog (Instr.fieldAt 217 x24 1) w11 (fun x25 w12 =>
 Do Tryz.prog (Instr.loadAt 22 x25) w12 (fun x26 w13 =>
 DoN Tryz.prog (builtin .len #[22] 3 #[false] #[x26]) w13 (fun x27 w14 =>
 DoN Tryz.prog (builtin .len #[22] 3 #[false] #[x5]) w14 (fun x29 w15 =>
 Do Tryz.prog (binOp .add 3 x27 x29) w15 (fun x30 w16 =>
 Do Tryz.prog (binOp .rem 3 x30 (Value.int IntKind.i64 128)) w16 (fun x31 w17 =>
 Do Tryz.prog ((do eqGuard .neq 3 (Operand.tmp 31) (Operand.const (Value.int IntKind.i64 112)) x31 (Value.int IntKind.i64 112); binOp .neq 3 x31 (Value.int IntKind.i64 112) : Sem Value)) w17 (fun x32 w18 =>
 CondV x32 (
 Do Tryz.prog (Instr.buildSlice 22 1 #[(0, (Value.int IntKind.u8 0))]) w18 (fun x34 w19 =>
 DoN Tryz.prog (builtin .append #[22, 22] 22 #[false, false] #[x5, x34]) w19 (fun x35 w20 =>
 Nxt I1 m1 [x35] w20) (pkR R)) (pkR R)) (
 DoN Tryz.prog (builtin .append #[22, 3] 22 #[false, true] #[x5, (Value.int IntKind.i64 8)]) w18 (fun x37 w21 =>
 ∃ I2 : Nat → List Value → World → Prop, (∃ m, I2 m [x37, (Value.int IntKind.i64 56)] w21) ∧
 ∀ m2 (x5_1 : Value) (x6 : Value) (_j2 : Env) (w22 : World), I2 m2 [x5_1, x6] w22 →
 Do Tryz.prog (binOp .geq 3 x6 (Value.int IntKind.i64 0)) w22 (fun x39 w23 =>
 CondV x39 (
 Do Tryz.prog (binOp .shr 191 x19 x6) w23 (fun x45 w24 =>
 Do Tryz.prog (convert 191 5 x45) w24 (fun x46 w25 =>
 Do Tryz.prog (Instr.buildSlice 22 1 #[(0, x46)]) w25 (fun x47 w26 =>
 DoN Tryz.prog (builtin .append #[22, 22] 22 #[false, false] #[x5_1, x47]) w26 (fun x48 w27 =>
 Do Tryz.prog (binOp .sub 3 x6 (Value.int IntKind.i64 8)) w27 (fun x41 w28 =>
 Nxt I2 m2 [x48, x41] w28) (pkR R)) (pkR R)) (pkR R)) (pkR R)) (pkR R)) (
 Do Tryz.prog (Instr.buildSlice 55 1 #[(0, x5_1)]) w23 (fun x51 w29 =>
 CallS Tryz.prog 99 #[x12, x51] w29 (retK (fun _x52 w30 =>
 DoN Tryz.prog (nilS x12) w30 (fun x54 w31 =>
 Do Tryz.prog (Instr.fieldAt 217 x54 0) w31 (fun x55 w32 =>
 Do Tryz.prog (Instr.loadAt 215 x55) w32 (fun x56 w33 =>
 ∃ I3 : Nat → List Value → World → Prop, (∃ m, I3 m [(Value.slice Option.none 0 0), (Value.int IntKind.i64 0)] w33) ∧
 ∀ m3 (x7 : Value) (x57 : Value) (_j3 : Env) (w34 : World), I3 m3 [x7, x57] w34 →
 Do Tryz.prog (binOp .lss 3 x57 (Value.int IntKind.i64 8)) w34 (fun x58 w35 =>
 CondV x58 (
 Do Tryz.prog (Instr.index 215 x56 x57) w35 (fun x59 w36 =>
 ∃ I4 : Nat → List Value → World → Prop, (∃ m, I4 m [x7, (Value.int IntKind.i64 56)] w36) ∧
 ∀ m4 (x7_1 : Value) (x10 : Value) (_j4 : Env) (w37 : World), I4 m4 [x7_1, x10] w37 →
 Do Tryz.prog (binOp .geq 3 x10 (Value.int IntKind.i64 0)) w37 (fun x61 w38 =>
 CondV x61 (
 Do Tryz.prog (binOp .shr 191 x59 x10) w38 (fun x67 w39 =>
 Do Tryz.prog (convert 191 5 x67) w39 (fun x68 w40 =>
 Do Tryz.prog (Instr.buildSlice 22 1 #[(0, x68)]) w40 (fun x69 w41 =>
 DoN Tryz.prog (builtin .append #[22, 22] 22 #[false, false] #[x7_1, x69]) w41 (fun x70 w42 =>
 Do Tryz.prog (binOp .sub 3 x10 (Value.int IntKind.i64 8)) w42 (fun x63 w43 =>
 Nxt I4 m4 [x70, x63] w43) (pkR R)) (pkR R)) (pkR R)) (pkR R)) (pkR R)) (
 Do Tryz.prog (binOp .add 3 x57 (Value.int IntKind.i64 1)) w38 (fun x71 w44 =>
 Nxt I3 m3 [x7_1, x71] w44) (pkR R))) (pkR R)) (pkR R)) (
 R (.returned x7) w35)) (pkR R)) (pkR R)) (pkR R)) (pkR R)) (pkR R))) (pkR R))) (pkR R)) (pkR R))) (pkR R)) (pkR R)) (pkR R)) (pkR R)) (pkR R)) (pkR R)) (pkR R)) (pkR R)) (pkR R)) (pkR R)) (pkR R)) (pkR R)) (pkR R)) (pkR R)) (pkR R))) (pkR R)) (pkR R))
theorem vc_sha_Hash_Sum {R : Ending → World → Prop} {a0 : Value} {w : World} (h : V_sha_Hash_Sum R a0 w) : Calls Tryz.prog 100 #[a0] w R :=
  calls_of_vc (args := [a0]) (fun k => match k with | 6 => ([5], [5, 23, 24, 25, 26, 27, 28, 29, 30, 31, 32, 33, 34, 35]) | 10 => ([5, 6], [5, 6, 38, 39, 40, 41, 42, 43, 44, 45, 46, 47, 48]) | 16 => ([7, 57], [7, 9, 10, 57, 58, 59, 60, 61, 62, 63, 64, 65, 66, 67, 68, 69, 70, 71]) | 19 => ([7, 10], [7, 10, 60, 61, 62, 63, 64, 65, 66, 67, 68, 69, 70]) | _ => ([], [])) (fun _ => none) (fun _ => none) Tryz.func100 (bodyC_some (by kernel_rfl)) rfl (by kernel_rfl) (by kernel_rfl) (by kernel_rfl) (by kernel_rfl) (Eq.mpr (by kernel_rfl) h)

/-- buttress/sha.Sum -/
def V_sha_Sum (R : Ending → World → Prop) (a0 : Value) (w : World) : Prop :=
 CallS Tryz.prog 98 #[] w (retK (fun x4 w1 =>
 CallS Tryz.prog 99 #[x4, a0] w1 (retK (fun _x7 w2 =>
 CallS Tryz.prog 100 #[x4] w2 (retK (fun x9 w3 =>
 R (.returned x9) w3) (pkR R))) (pkR R))) (pkR R))
theorem vc_sha_Sum {R : Ending → World → Prop} {a0 : Value} {w : World} (h : V_sha_Sum R a0 w) : Calls Tryz.prog 63 #[a0] w R :=
  calls_of_vc (args := [a0]) (fun _ => ([], [])) (fun _ => none) (fun _ => none) Tryz.func63 (bodyC_some (by kernel_rfl)) rfl (by kernel_rfl) (by kernel_rfl) (by kernel_rfl) (by kernel_rfl) (Eq.mpr (by kernel_rfl) h)

/-- slices.Clone[[]byte,byte] -/
def V_slices_Clone_byte_byte (R : Ending → World → Prop) (a0 : Value) (w : World) : Prop :=
 Do Tryz.prog ((do eqGuard .eql 22 (Operand.tmp 3) (Operand.const (Value.slice Option.none 0 0)) a0 (Value.slice Option.none 0 0); binOp .eql 22 a0 (Value.slice Option.none 0 0) : Sem Value)) w (fun x4 w1 =>
 CondV x4 (
 R (.returned (Value.slice Option.none 0 0)) w1) (
 Do Tryz.prog (Instr.buildSlice 22 0 #[]) w1 (fun x5 w2 =>
 DoN Tryz.prog (builtin .append #[22, 22] 22 #[false, false] #[x5, a0]) w2 (fun x7 w3 =>
 R (.returned x7) w3) (pkR R)) (pkR R))) (pkR R)
theorem vc_slices_Clone_byte_byte {R : Ending → World → Prop} {a0 : Value} {w : World} (h : V_slices_Clone_byte_byte R a0 w) : Calls Tryz.prog 35 #[a0] w R :=
  calls_of_vc (args := [a0]) (fun _ => ([], [])) (fun _ => none) (fun _ => none) Tryz.func35 (bodyC_some (by kernel_rfl)) rfl (by kernel_rfl) (by kernel_rfl) (by kernel_rfl) (by kernel_rfl) (Eq.mpr (by kernel_rfl) h)

/-- slices.Grow[[]byte,byte] -/
def V_slices_Grow_byte_byte (R : Ending → World → Prop) (a0 a1 : Value) (w : World) : Prop :=
 ∃ J1 : List Value → World → Prop, (
 Do Tryz.prog (binOp .lss 3 a1 (Value.int IntKind.i64 0)) w (fun x6 w1 =>
 CondV x6 (
 Do Tryz.prog (Instr.makeInterface 9 (Value.string (ByteArray.mk #[99, 97, 110, 110, 111, 116, 32, 98, 101, 32, 110, 101, 103, 97, 116, 105, 118, 101]))) w1 (fun x7 w2 =>
 Do Tryz.prog (Instr.panic x7) w2 (fun _u w3 =>
 J1 [] w3) (pkR R)) (pkR R)) (
 J1 [] w1)) (pkR R)) ∧
 ∀ (_j1 : Env) (w4 : World), J1 [] w4 →
 DoN Tryz.prog (builtin .cap #[22] 3 #[false] #[a0]) w4 (fun x10 w5 =>
 DoN Tryz.prog (builtin .len #[22] 3 #[false] #[a0]) w5 (fun x12 w6 =>
 Do Tryz.prog (binOp .sub 3 x10 x12) w6 (fun x13 w7 =>
 Do Tryz.prog (binOp .sub 3 a1 x13) w7 (fun x14 w8 =>
 Do Tryz.prog (binOp .gtr 3 x14 (Value.int IntKind.i64 0)) w8 (fun x16 w9 =>
 CondV x16 (
 DoN Tryz.prog (builtin .cap #[22] 3 #[false] #[a0]) w9 (fun x19 w10 =>
 Do Tryz.prog (Instr.sliceAt 22 a0 none (some x19) none) w10 (fun x20 w11 =>
 DoN Tryz.prog (builtin .append #[22, 3] 22 #[false, false] #[x20, x14]) w11 (fun x22 w12 =>
 DoN Tryz.prog (builtin .len #[22] 3 #[false] #[a0]) w12 (fun x24 w13 =>
 Do Tryz.prog (Instr.sliceAt 22 x22 none (some x24) none) w13 (fun x25 w14 =>
 R (.returned x25) w14) (pkR R)) (pkR R)) (pkR R)) (pkR R)) (pkR R)) (
 R (.returned a0) w9)) (pkR R)) (pkR R)) (pkR R)) (pkR R)) (pkR R)
theorem vc_slices_Grow_byte_byte {R : Ending → World → Prop} {a0 a1 : Value} {w : World} (h : V_slices_Grow_byte_byte R a0 a1 w) : Calls Tryz.prog 149 #[a0, a1] w R :=
  calls_of_vc (args := [a0, a1]) (fun _ => ([], [])) (fun k => match k with | 3 => some ([], [5, 6, 7]) | _ => none) (fun _ => none) Tryz.func149 (bodyC_some (by kernel_rfl)) rfl (by kernel_rfl) (by kernel_rfl) (by kernel_rfl) (by kernel_rfl) (Eq.mpr (by kernel_rfl) h)

end Go.Proofs.YtpdceilhgaladaaGreatDoor
