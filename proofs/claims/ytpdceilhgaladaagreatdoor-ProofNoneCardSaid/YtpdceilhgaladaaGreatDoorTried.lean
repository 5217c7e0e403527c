/- What is tried: a value, or the error that it ends with. -/
import Derived.Test.YtpdceilhgaladaaGreatDoorWire
namespace Go.Vc
open Go.RowKit
section
variable {P : Program} {w : World} {K : Value → World → Prop} {Kp : List PanicEntry → World → Prop} {t u : TypeId}
theorem equalIn_nilI (d : Nat) {ms : Array (String × TypeId)} (hu : P.underlying t = some (.interface ms)) (w : World) : (Op.equalIn (d + 1) t .nilIface .nilIface).run P w = .ok true w := by
  simp [Op.equalIn, run_underlying' hu]
theorem equalIn_ifI (d : Nat) {ms : Array (String × TypeId)} {v : Value} (hu : P.underlying t = some (.interface ms)) (w : World) : (Op.equalIn (d + 1) t (.iface u v) .nilIface).run P w = .ok false w := by
  simp [Op.equalIn, run_underlying' hu]
theorem equal_nilI {ms : Array (String × TypeId)} (hu : P.underlying t = some (.interface ms)) (w : World) : (Op.equal t .nilIface .nilIface).run P w = .ok true w := equalIn_nilI 9999 hu w
theorem equal_ifI {ms : Array (String × TypeId)} {v : Value} (hu : P.underlying t = some (.interface ms)) (w : World) : (Op.equal t (.iface u v) .nilIface).run P w = .ok false w := equalIn_ifI 9999 hu w
theorem pu_nilne {ms : Array (String × TypeId)} {x : Operand} {c : Value} (hu : P.underlying t = some (.interface ms)) : Pu P (do eqGuard .neq t x (.const c) .nilIface .nilIface; binOp .neq t .nilIface .nilIface : Sem Value) (.bool false) := fun w => by
  simp [eqGuard, binOp, equal_nilI hu]
theorem pu_ifne {ms : Array (String × TypeId)} {x y : Operand} {v : Value} (hu : P.underlying t = some (.interface ms)) : Pu P (do eqGuard .neq t x y (.iface u v) .nilIface; binOp .neq t (.iface u v) .nilIface : Sem Value) (.bool true) := fun w => by
  simp [eqGuard, binOp, equal_ifI hu]
theorem pu_assert {k : IntKind} {v : Value} (hu : P.underlying u = some (.int k)) : Pu P (Instr.typeAssert (.iface u v) t u true) (.tuple #[v, .bool true]) := fun w => by
  simp [Instr.typeAssert, run_underlying' hu]
theorem pu_makeI {k : IntKind} {v : Value} (hu : P.underlying u = some (.int k)) : Pu P (Instr.makeInterface u v) (.iface u v) := fun w => by
  simp [Instr.makeInterface, run_underlying' hu]
end
/-- A call of a function value. -/
theorem CallV_r {P : Program} {w : World} {K : Value → World → Prop} {Kp : List PanicEntry → World → Prop} {g : FuncId} {first cap : Array Value} {args : List Value} {Q : Value → World → Prop} (hb : hasBody P g = true)
    (h : Calls P g (first.toList ++ args ++ cap.toList).toArray w (Ret Q)) (hk : ∀ v w', Q v w' → K v w') : CallV P (.func (.func g) first cap) args w K Kp := by
  show CallF P g _ w K Kp
  unfold CallF
  rw [hb]
  exact CallS_r h hk
end Go.Vc

namespace Go.Proofs.YtpdceilhgaladaaGreatDoor
open Go.Vc Go.Vc.Sha Go.RowKit
/-- The chain of a panic with an error's number. -/
abbrev errC (e : Int) : List PanicEntry := [{ v := .iface 44 (i64 e), recovered := false }]
theorem must_c (b : Bool) (w : World) {K : Value → World → Prop} {Kp : List PanicEntry → World → Prop} (h1 : b = true → ∀ v, K v w) (h0 : b = false → Kp (errC 4) w) : CallS Tryz.prog 146 #[.bool b] w (retK K Kp) := by
  refine ⟨vc_sibling_must ?_⟩
  unfold V_sibling_must
  refine Do_pu pu_not ?_
  cases b with
  | true => exact h1 rfl _
  | false =>
    refine CondT ?_
    refine Do_pu (pu_makeI Tryz.underlying44) ?_
    exact ⟨h0 rfl⟩
/-- tried: of bytes. -/
theorem triedB_c {w : World} {f : Value} {A : Value → World → Prop} {B : Int → Prop} (hA : ∀ v a b, Chg a b (fun k => k = w.heap.size ∨ k = w.heap.size + 1) → A v a → A v b) (hone : ∀ v w, A v w → v.oneCell' = true)
    (h : ∀ w2, Ext w w2 → w.heap.size + 2 ≤ w2.heap.size → CallV Tryz.prog f [] w2 (fun v w4 => Ext w2 w4 ∧ A v w4) fun ch w4 => ∃ e, ch = errC e ∧ Ext w2 w4 ∧ B e) :
    Calls Tryz.prog 110 #[f] w (Ret fun r w' => Ext w w' ∧ ((∃ v, r = .tuple #[v, i64 0] ∧ A v w') ∨ ∃ e, r = .tuple #[nilS_, i64 e] ∧ B e)) := by
  refine vc_sibling_tried_byte ?_
  unfold V_sibling_tried_byte
  refine Do_alloc (l := [nilS_]) (by kernel_rfl) fun w1 n1 => ?_
  refine Do_alloc (l := [i64 0]) (by kernel_rfl) fun w2 n2 => ?_
  refine Do_of (v := .func (.func 145) #[] #[ptr w1.heap.size, ptr w.heap.size]) (w' := w2) rfl ?_
  have hx2 : Ext w w2 := n1.ext.trans n2.ext
  have hne : w.heap.size ≠ w1.heap.size := by have := n1.size; omega
  refine CallV_mono (fun v w4 hh => ?_) (fun ch w4 hh => ?_) (h w2 hx2 (by have := n1.size; have := n2.size; omega))
  · obtain ⟨hx4, ha⟩ := hh
    have hb1 : Blk w4 w.heap.size [nilS_] 22 := n1.blk.ext (n2.ext.trans hx4)
    have hb2 : Blk w4 w1.heap.size [i64 0] 44 := n2.blk.ext hx4
    refine DoU_store (by kernel_rfl) hb1 (by simp) (hone _ _ ha) fun w5 hb5 hg5 => ?_
    refine DoU_store (by kernel_rfl) (hb2.kept hg5 fun e => hne (Option.some.inj e).symm) (by simp) rfl fun w6 hb6 hg6 => ?_
    have hb5' : Blk w6 w.heap.size [v] 22 := hb5.kept hg6 fun e => hne (Option.some.inj e)
    have hx6 : Ext w w6 := ((hx2.trans hx4).grown hg5 fun k e => by cases e; exact Nat.le_refl _).grown hg6 fun k e => by cases e; exact n1.ext.size
    refine ⟨by kernel_rfl, vc_sibling_tried_byte__S1 ?_⟩
    unfold V_sibling_tried_byte__S1
    refine Do_pu (pu_nilne Tryz.underlying20) (CondF ?_)
    refine ⟨by simp [recV, settle], ?_⟩
    refine ⟨[v, i64 0], ⟨⟨_, rfl, run_loadVar1 Tryz.underlying22 rfl (hb5'.cell 0)⟩, ⟨_, rfl, run_loadVar1 Tryz.underlying44 rfl (hb6.cell 0)⟩, trivial⟩, Ret.of ⟨hx6, .inl ⟨v, rfl, hA _ _ _ (((Chg.refl w4 _).grown hg5 fun k e _ => by cases e; exact .inl rfl).grown hg6 fun k e _ => by cases e; exact .inr n1.size) ha⟩⟩⟩
  · obtain ⟨e, rfl, hx4, hB⟩ := hh
    have hb1 : Blk w4 w.heap.size [nilS_] 22 := n1.blk.ext (n2.ext.trans hx4)
    have hb2 : Blk w4 w1.heap.size [i64 0] 44 := n2.blk.ext hx4
    refine ⟨by kernel_rfl, vc_sibling_tried_byte__S1 ?_⟩
    unfold V_sibling_tried_byte__S1
    refine Do_pu (pu_ifne Tryz.underlying20) (CondT ?_)
    refine Do_pu (pu_assert Tryz.underlying44) ?_
    refine Do_pu (pu_ext rfl) ?_
    refine Do_pu (pu_ext rfl) ?_
    refine DoU_store (by kernel_rfl) hb2 (by simp) rfl fun w5 hb5 hg5 => ?_
    refine Do_pu pu_not (CondF ?_)
    refine DoU_store (by kernel_rfl) (hb1.kept hg5 fun e => hne (Option.some.inj e)) (by simp) rfl fun w6 hb6 hg6 => ?_
    have hb5' : Blk w6 w1.heap.size [i64 e] 44 := hb5.kept hg6 fun e => hne (Option.some.inj e).symm
    have hx6 : Ext w w6 := ((hx2.trans hx4).grown hg5 fun k e => by cases e; exact n1.ext.size).grown hg6 fun k e => by cases e; exact Nat.le_refl _
    refine ⟨by simp [recV, settle], ?_⟩
    refine ⟨[nilS_, i64 e], ⟨⟨_, rfl, run_loadVar1 Tryz.underlying22 rfl (hb6.cell 0)⟩, ⟨_, rfl, run_loadVar1 Tryz.underlying44 rfl (hb5'.cell 0)⟩, trivial⟩, Ret.of ⟨hx6, .inr ⟨e, rfl, hB⟩⟩⟩
end Go.Proofs.YtpdceilhgaladaaGreatDoor
