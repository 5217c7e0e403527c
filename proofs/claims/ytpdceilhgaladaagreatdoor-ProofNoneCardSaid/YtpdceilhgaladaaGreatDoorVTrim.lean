/- PRINTED BY gen.py (a program of this claim): what each function comes to, operation by operation. -/
import Derived.Test.YtpdceilhgaladaaGreatDoorProg
import Derived.Test.YtpdceilhgaladaaGreatDoorVc
import Derived.KernelRfl
set_option maxRecDepth 100000
namespace Go.Proofs.YtpdceilhgaladaaGreatDoor
open Go.Vc

/-- (*strings.asciiSet).contains -/
def V_strings_asciiSet_contains (R : Ending → World → Prop) (a0 a1 : Value) (w : World) : Prop :=
 DoN Tryz.prog (nilS a0) w (fun x7 w1 =>
 Do Tryz.prog (Instr.indexAt 195 x7 a1) w1 (fun x8 w2 =>
 Do Tryz.prog (Instr.loadAt 4 x8) w2 (fun x9 w3 =>
 R (.returned x9) w3) (pkR R)) (pkR R)) (pkR R)
theorem vc_strings_asciiSet_contains {R : Ending → World → Prop} {a0 a1 : Value} {w : World} (h : V_strings_asciiSet_contains R a0 a1 w) : Calls Tryz.prog 152 #[a0, a1] w R :=
  calls_of_vc (args := [a0, a1]) (fun _ => ([], [])) (fun _ => none) (fun _ => none) Tryz.func152 (bodyC_some (by kernel_rfl)) rfl (by kernel_rfl) (by kernel_rfl) (by kernel_rfl) (by kernel_rfl) (Eq.mpr (by kernel_rfl) h)

/-- strings.makeASCIISet -/
def V_strings_makeASCIISet (R : Ending → World → Prop) (a0 : Value) (w : World) : Prop :=
 Do Tryz.prog (Instr.alloc 195 true (.tuple #[])) w (fun x2 w1 =>
 ∃ I1 : Nat → List Value → World → Prop, (∃ m, I1 m [(Value.int IntKind.i64 0)] w1) ∧
 ∀ m1 (x4 : Value) (_j1 : Env) (w2 : World), I1 m1 [x4] w2 →
 DoN Tryz.prog (builtin .len #[9] 3 #[false] #[a0]) w2 (fun x8 w3 =>
 Do Tryz.prog (binOp .lss 3 x4 x8) w3 (fun x9 w4 =>
 CondV x9 (
 Do Tryz.prog (Instr.index 9 a0 x4) w4 (fun x14 w5 =>
 Do Tryz.prog (binOp .geq 5 x14 (Value.int IntKind.u8 128)) w5 (fun x16 w6 =>
 CondV x16 (
 Do Tryz.prog (Instr.loadAt 195 x2) w6 (fun x17 w7 =>
 DoU Tryz.prog (Instr.storeAt 195 x2 x17) w7 (fun w8 =>
 ResV Tryz.prog [(.inr (x2, 195)), (.inl (Value.bool Bool.false))] w8 R) (pkR R)) (pkR R)) (
 Do Tryz.prog (Instr.indexAt 195 x2 x14) w6 (fun x19 w9 =>
 DoU Tryz.prog (Instr.storeAt 4 x19 (Value.bool Bool.true)) w9 (fun w10 =>
 Do Tryz.prog (binOp .add 3 x4 (Value.int IntKind.i64 1)) w10 (fun x11 w11 =>
 Nxt I1 m1 [x11] w11) (pkR R)) (pkR R)) (pkR R))) (pkR R)) (pkR R)) (
 Do Tryz.prog (Instr.loadAt 195 x2) w4 (fun x20 w12 =>
 DoU Tryz.prog (Instr.storeAt 195 x2 x20) w12 (fun w13 =>
 ResV Tryz.prog [(.inr (x2, 195)), (.inl (Value.bool Bool.true))] w13 R) (pkR R)) (pkR R))) (pkR R)) (pkR R)) (pkR R)
theorem vc_strings_makeASCIISet {R : Ending → World → Prop} {a0 : Value} {w : World} (h : V_strings_makeASCIISet R a0 w) : Calls Tryz.prog 122 #[a0] w R :=
  calls_of_vc (args := [a0]) (fun k => match k with | 2 => ([4], [3, 4, 5, 6, 7, 8, 9, 10, 11, 12, 13, 14, 15, 16, 17, 18, 19]) | _ => ([], [])) (fun _ => none) (fun _ => none) Tryz.func122 (bodyC_some (by kernel_rfl)) rfl (by kernel_rfl) (by kernel_rfl) (by kernel_rfl) (by kernel_rfl) (Eq.mpr (by kernel_rfl) h)

/-- strings.trimLeftASCII -/
def V_strings_trimLeftASCII (R : Ending → World → Prop) (a0 a1 : Value) (w : World) : Prop :=
 ∃ I1 : Nat → List Value → World → Prop, (∃ m, I1 m [a0] w) ∧
 ∀ m1 (x0 : Value) (_j1 : Env) (w1 : World), I1 m1 [x0] w1 →
 DoN Tryz.prog (builtin .len #[9] 3 #[false] #[x0]) w1 (fun x6 w2 =>
 Do Tryz.prog (binOp .gtr 3 x6 (Value.int IntKind.i64 0)) w2 (fun x7 w3 =>
 CondV x7 (
 Do Tryz.prog (Instr.index 9 x0 (Value.int IntKind.i64 0)) w3 (fun x10 w4 =>
 CallS Tryz.prog 152 #[a1, x10] w4 (retK (fun x11 w5 =>
 Do Tryz.prog (Op.unary .not x11) w5 (fun x12 w6 =>
 CondV x12 (
 R (.returned x0) w6) (
 Do Tryz.prog (Instr.sliceAt 9 x0 (some (Value.int IntKind.i64 1)) none none) w6 (fun x14 w7 =>
 Nxt I1 m1 [x14] w7) (pkR R))) (pkR R)) (pkR R))) (pkR R)) (
 R (.returned x0) w3)) (pkR R)) (pkR R)
theorem vc_strings_trimLeftASCII {R : Ending → World → Prop} {a0 a1 : Value} {w : World} (h : V_strings_trimLeftASCII R a0 a1 w) : Calls Tryz.prog 123 #[a0, a1] w R :=
  calls_of_vc (args := [a0, a1]) (fun k => match k with | 1 => ([0], [0, 5, 6, 7, 8, 9, 10, 11, 12, 13, 14]) | _ => ([], [])) (fun _ => none) (fun _ => none) Tryz.func123 (bodyC_some (by kernel_rfl)) rfl (by kernel_rfl) (by kernel_rfl) (by kernel_rfl) (by kernel_rfl) (Eq.mpr (by kernel_rfl) h)

/-- strings.trimRightASCII -/
def V_strings_trimRightASCII (R : Ending → World → Prop) (a0 a1 : Value) (w : World) : Prop :=
 ∃ I1 : Nat → List Value → World → Prop, (∃ m, I1 m [a0] w) ∧
 ∀ m1 (x0 : Value) (_j1 : Env) (w1 : World), I1 m1 [x0] w1 →
 DoN Tryz.prog (builtin .len #[9] 3 #[false] #[x0]) w1 (fun x6 w2 =>
 Do Tryz.prog (binOp .gtr 3 x6 (Value.int IntKind.i64 0)) w2 (fun x7 w3 =>
 CondV x7 (
 DoN Tryz.prog (builtin .len #[9] 3 #[false] #[x0]) w3 (fun x11 w4 =>
 Do Tryz.prog (binOp .sub 3 x11 (Value.int IntKind.i64 1)) w4 (fun x12 w5 =>
 Do Tryz.prog (Instr.index 9 x0 x12) w5 (fun x13 w6 =>
 CallS Tryz.prog 152 #[a1, x13] w6 (retK (fun x14 w7 =>
 Do Tryz.prog (Op.unary .not x14) w7 (fun x15 w8 =>
 CondV x15 (
 R (.returned x0) w8) (
 DoN Tryz.prog (builtin .len #[9] 3 #[false] #[x0]) w8 (fun x18 w9 =>
 Do Tryz.prog (binOp .sub 3 x18 (Value.int IntKind.i64 1)) w9 (fun x19 w10 =>
 Do Tryz.prog (Instr.sliceAt 9 x0 none (some x19) none) w10 (fun x20 w11 =>
 Nxt I1 m1 [x20] w11) (pkR R)) (pkR R)) (pkR R))) (pkR R)) (pkR R))) (pkR R)) (pkR R)) (pkR R)) (
 R (.returned x0) w3)) (pkR R)) (pkR R)
theorem vc_strings_trimRightASCII {R : Ending → World → Prop} {a0 a1 : Value} {w : World} (h : V_strings_trimRightASCII R a0 a1 w) : Calls Tryz.prog 124 #[a0, a1] w R :=
  calls_of_vc (args := [a0, a1]) (fun k => match k with | 1 => ([0], [0, 5, 6, 7, 8, 9, 10, 11, 12, 13, 14, 15, 16, 17, 18, 19, 20]) | _ => ([], [])) (fun _ => none) (fun _ => none) Tryz.func124 (bodyC_some (by kernel_rfl)) rfl (by kernel_rfl) (by kernel_rfl) (by kernel_rfl) (by kernel_rfl) (Eq.mpr (by kernel_rfl) h)

/-- strings.HasPrefix -/
def V_strings_HasPrefix (R : Ending → World → Prop) (a0 a1 : Value) (w : World) : Prop :=
 CallS Tryz.prog 92 #[a0, a1] w (retK (fun x7 w1 =>
 R (.returned x7) w1) (pkR R))
theorem vc_strings_HasPrefix {R : Ending → World → Prop} {a0 a1 : Value} {w : World} (h : V_strings_HasPrefix R a0 a1 w) : Calls Tryz.prog 57 #[a0, a1] w R :=
  calls_of_vc (args := [a0, a1]) (fun _ => ([], [])) (fun _ => none) (fun _ => none) Tryz.func57 (bodyC_some (by kernel_rfl)) rfl (by kernel_rfl) (by kernel_rfl) (by kernel_rfl) (by kernel_rfl) (Eq.mpr (by kernel_rfl) h)

/-- internal/stringslite.HasPrefix -/
def V_internal_stringslite_HasPrefix (R : Ending → World → Prop) (a0 a1 : Value) (w : World) : Prop :=
 DoN Tryz.prog (builtin .len #[9] 3 #[false] #[a0]) w (fun x6 w1 =>
 DoN Tryz.prog (builtin .len #[9] 3 #[false] #[a1]) w1 (fun x8 w2 =>
 Do Tryz.prog (binOp .geq 3 x6 x8) w2 (fun x9 w3 =>
 BoolV x9 (fun b1 =>
 SplitB b1 (
 DoN Tryz.prog (builtin .len #[9] 3 #[false] #[a1]) w3 (fun x13 w4 =>
 Do Tryz.prog (Instr.sliceAt 9 a0 none (some x13) none) w4 (fun x14 w5 =>
 Do Tryz.prog ((do eqGuard .eql 9 (Operand.tmp 14) (Operand.tmp 15) x14 a1; binOp .eql 9 x14 a1 : Sem Value)) w5 (fun x16 w6 =>
 R (.returned x16) w6) (pkR R)) (pkR R)) (pkR R)) (
 R (.returned (Value.bool Bool.false)) w3))) (pkR R)) (pkR R)) (pkR R)
theorem vc_internal_stringslite_HasPrefix {R : Ending → World → Prop} {a0 a1 : Value} {w : World} (h : V_internal_stringslite_HasPrefix R a0 a1 w) : Calls Tryz.prog 92 #[a0, a1] w R :=
  calls_of_vc (args := [a0, a1]) (fun _ => ([], [])) (fun _ => none) (fun _ => none) Tryz.func92 (bodyC_some (by kernel_rfl)) rfl (by kernel_rfl) (by kernel_rfl) (by kernel_rfl) (by kernel_rfl) (Eq.mpr (by kernel_rfl) h)

end Go.Proofs.YtpdceilhgaladaaGreatDoor
