/- Sets without records, proofs without digests: the simple functions. -/
import Derived.Test.YtpdceilhgaladaaGreatDoorTried
import Derived.Test.YtpdceilhgaladaaGreatDoorVProof
import Derived.Test.YtpdceilhgaladaaGreatDoorTrim
namespace Go.Proofs.YtpdceilhgaladaaGreatDoor
open Go.Vc Go.Vc.Sha Go.RowKit
/-! ### A set without records -/
theorem rowAdd0_c (r : Value) (w : World) : Calls Tryz.prog 135 #[r, nilS_] w (Ret fun _ w' => w' = w) := by
  refine vc_sibling_row_add ?_
  unfold V_sibling_row_add
  refine DoN_pu (pu_len Tryz.underlying47 (Sees.nil w)) ?_
  refine ⟨fun _ xs z => xs = [i64 0] ∧ z = w, ⟨0, rfl, rfl⟩, ?_⟩
  rintro m1 x10 j1 w2 ⟨hx, rfl⟩
  obtain rfl : x10 = i64 0 := by simpa using hx
  exact Do_pu pu_lss (CondV_if (fun h => by omega) fun _ => Ret.of rfl)
theorem rowOf0_c (w : World) : Calls Tryz.prog 112 #[nilS_] w (Ret fun v w' => v = ptr w.heap.size ∧ Blk w' w.heap.size [nilS_] 181 ∧ Ext w w') := by
  refine vc_sibling_rowOf ?_
  unfold V_sibling_rowOf
  refine Do_of (run_buildS (cells := [nilS_]) Tryz.underlying181 (zero := [nilS_]) (by kernel_rfl) (by kernel_rfl) (by kernel_rfl) _) ?_
  refine Do_box (l := [nilS_]) rfl fun w2 n2 => ?_
  refine CallS_r (rowAdd0_c _ w2) fun _ w3 hh => ?_
  obtain rfl := hh
  refine DoN_pu pu_nilptr ?_
  refine Do_pu (pu_field Tryz.underlying181 rfl (n := 0) (o := 0) (by kernel_rfl) rfl) ?_
  refine Do_load Tryz.underlying179 rfl (n2.blk.cell 0) ?_
  refine DoN_pu (pu_len Tryz.underlying179 (Sees.nil w3)) ?_
  refine ⟨fun _ xs z => xs = [i64 0] ∧ z = w3, ⟨0, rfl, rfl⟩, ?_⟩
  rintro m1 x16 j1 w8 ⟨hx, rfl⟩
  obtain rfl : x16 = i64 0 := by simpa using hx
  exact Do_pu pu_lss (CondV_if (fun h => by omega) fun _ => Ret.of ⟨rfl, n2.blk, n2.ext⟩)
set_option maxRecDepth 20000 in
theorem sibPut0_c (w : World) : Calls Tryz.prog 74 #[nilS_] w (Ret fun r w' => Ext w w' ∧ ∃ v, r = .tuple #[v, i64 0] ∧ SeesB w' v (numS 0) ∧ ∀ g, v.ownBlock = some g → w.heap.size ≤ g) := by
  refine vc_sibling_Put ?_
  unfold V_sibling_Put
  refine Do_box (l := [nilS_]) rfl fun w1 n1 => ?_
  refine Do_of (v := .func (.func 111) #[] #[ptr w.heap.size]) (w' := w1) rfl ?_
  refine CallS_r (triedB_c (A := fun v z => Own z 5 1 v 8 ((numS 0).map u8) ∧ ∀ g, v.ownBlock = some g → w1.heap.size + 2 ≤ g) (B := fun _ => False)
    (fun v a b hc h => ⟨h.1.chg hc fun k e hk => by have := h.2 k e; omega, h.2⟩) (fun v z h => Own.one h.1) fun w2 hx2 hs2 => ?_) fun x5 w3 hh => ?_
  · refine CallV_r (by kernel_rfl) (Q := fun v z => Own z 5 1 v 8 ((numS 0).map u8) ∧ Ext w2 z ∧ ∀ g, v.ownBlock = some g → w2.heap.size ≤ g) ?_ fun v z hh => ⟨hh.2.1, hh.1, fun g hg => Nat.le_trans hs2 (hh.2.2 g hg)⟩
    refine vc_sibling_Put_S1 ?_
    unfold V_sibling_Put_S1
    refine Do_load Tryz.underlying47 rfl ((n1.blk.ext hx2).cell 0) ?_
    refine CallS_r (rowOf0_c w2) fun x7 w3 hh => ?_
    obtain ⟨rfl, hb3, hx3⟩ := hh
    refine DoN_pu pu_nilptr ?_
    refine Do_pu (pu_field Tryz.underlying181 rfl (n := 0) (o := 0) (by kernel_rfl) rfl) ?_
    refine Do_load Tryz.underlying179 rfl (hb3.cell 0) ?_
    refine DoN_pu (pu_len Tryz.underlying179 (Sees.nil w3)) ?_
    refine CallS_r (number_c 0 (by omega) w3) fun x13 w4 hh => ?_
    obtain ⟨ho4, hx4, hl4⟩ := hh
    refine DoN_pu pu_nilptr ?_
    refine Do_pu (pu_field Tryz.underlying181 rfl (n := 0) (o := 0) (by kernel_rfl) rfl) ?_
    refine Do_load Tryz.underlying179 rfl ((hb3.ext hx4).cell 0) ?_
    refine DoN_pu (pu_len Tryz.underlying179 (Sees.nil w4)) ?_
    refine ⟨fun _ xs z => xs = [x13, i64 0] ∧ z = w4, ⟨0, rfl, rfl⟩, ?_⟩
    rintro m1 x3 x19 j1 w8 ⟨hx, rfl⟩
    obtain ⟨rfl, rfl⟩ : x3 = x13 ∧ x19 = i64 0 := by simpa using hx
    exact Do_pu pu_lss (CondV_if (fun h => by omega) fun _ => Ret.of ⟨ho4, hx3.trans hx4, fun g hg => Nat.le_trans hx3.size (hl4 g hg)⟩)
  · obtain ⟨hx3, ⟨v, rfl, ho, hl⟩ | ⟨e, rfl, hB⟩⟩ := hh
    · refine Do_pu (pu_ext rfl) ?_
      refine Do_pu (pu_ext rfl) ?_
      exact Ret.of ⟨n1.ext.trans hx3, v, rfl, ho.sees, fun g hg => by have := hl g hg; have := n1.ext.size; omega⟩
    · exact hB.elim
/-! ### Proofs -/
def isLong (l : List UInt8) : Bool := decide (1 ≤ l.length) && decide (l.length ≤ 64)
theorem proofLong_c (l : List UInt8) (w : World) : Calls Tryz.prog 41 #[str l] w (Ret fun v w' => v = .bool (isLong l) ∧ w' = w) := by
  refine vc_proof_long ?_
  unfold V_proof_long
  refine DoN_pu (pu_lenS Tryz.underlying9) ?_
  refine Do_pu pu_geq (BoolS_if (fun h => ?_) fun h => ?_)
  · refine DoN_pu (pu_lenS Tryz.underlying9) ?_
    refine Do_pu pu_leq (Ret.of ⟨?_, rfl⟩)
    have h1 : 1 ≤ l.length := by omega
    unfold isLong
    rw [decide_eq_true h1, Bool.true_and]
    congr 1
    exact decide_eq_decide.2 (by omega)
  · refine Ret.of ⟨?_, rfl⟩
    have h1 : ¬ 1 ≤ l.length := by omega
    unfold isLong
    rw [decide_eq_false h1]; rfl
theorem containsB0_c (f : Value) (w : World) : Calls Tryz.prog 72 #[nilS_, f] w (Ret fun v w' => v = .bool false ∧ w' = w) := by
  refine vc_slices_ContainsFunc_byte_byte ?_
  unfold V_slices_ContainsFunc_byte_byte
  refine CallS_r (Q := fun v z => v = i64 (-1) ∧ z = w) ?_ fun v z hh => ?_
  · refine vc_slices_IndexFunc_byte_byte ?_
    unfold V_slices_IndexFunc_byte_byte
    refine DoN_pu (pu_len Tryz.underlying55 (Sees.nil w)) ?_
    refine ⟨fun _ xs z => xs = [i64 0] ∧ z = w, ⟨0, rfl, rfl⟩, ?_⟩
    rintro m1 x8 j1 w2 ⟨hx, rfl⟩
    obtain rfl : x8 = i64 0 := by simpa using hx
    exact Do_pu pu_lss (CondV_if (fun h => by omega) fun _ => Ret.of ⟨rfl, rfl⟩)
  · obtain ⟨rfl, rfl⟩ := hh
    exact Do_pu pu_geq (Ret.of ⟨rfl, rfl⟩)
theorem containsS0_c (f : Value) (w : World) : Calls Tryz.prog 104 #[nilS_, f] w (Ret fun v w' => v = .bool false ∧ w' = w) := by
  refine vc_slices_ContainsFunc_api_Stub_api_Stub ?_
  unfold V_slices_ContainsFunc_api_Stub_api_Stub
  refine CallS_r (Q := fun v z => v = i64 (-1) ∧ z = w) ?_ fun v z hh => ?_
  · refine vc_slices_IndexFunc_api_Stub_api_Stub ?_
    unfold V_slices_IndexFunc_api_Stub_api_Stub
    refine DoN_pu (pu_len Tryz.underlying56 (Sees.nil w)) ?_
    refine ⟨fun _ xs z => xs = [i64 0] ∧ z = w, ⟨0, rfl, rfl⟩, ?_⟩
    rintro m1 x8 j1 w2 ⟨hx, rfl⟩
    obtain rfl : x8 = i64 0 := by simpa using hx
    exact Do_pu pu_lss (CondV_if (fun h => by omega) fun _ => Ret.of ⟨rfl, rfl⟩)
  · obtain ⟨rfl, rfl⟩ := hh
    exact Do_pu pu_geq (Ret.of ⟨rfl, rfl⟩)
abbrev zeroP : Value := .agg #[nilS_, nilS_]
theorem proofRight0_c (w : World) : Calls Tryz.prog 38 #[zeroP] w (Ret fun v w' => v = .bool true ∧ Ext w w') := by
  refine vc_proof_Right ?_
  unfold V_proof_Right
  refine Do_box (l := [nilS_, nilS_]) rfl fun w1 n1 => ?_
  refine ⟨fun _ z => z = w1, ?_, ?_⟩
  · refine Do_pu (pu_field Tryz.underlying58 rfl (n := 0) (o := 0) (by kernel_rfl) rfl) ?_
    refine Do_load Tryz.underlying55 rfl (n1.blk.cell 0) ?_
    refine DoN_pu (pu_len Tryz.underlying55 (Sees.nil w1)) ?_
    refine Do_pu pu_gtr (BoolS_if (fun h => by omega) fun _ => ?_)
    refine Do_pu (pu_field Tryz.underlying58 rfl (n := 0) (o := 1) (by kernel_rfl) rfl) ?_
    refine Do_load Tryz.underlying56 rfl (n1.blk.cell 1) ?_
    refine DoN_pu (pu_len Tryz.underlying56 (Sees.nil w1)) ?_
    exact Do_pu pu_gtr (BoolS_if (fun h => by omega) fun _ => rfl)
  rintro _ w14 rfl
  refine Do_pu (pu_field Tryz.underlying58 rfl (n := 0) (o := 1) (by kernel_rfl) rfl) ?_
  refine Do_load Tryz.underlying56 rfl (n1.blk.cell 1) ?_
  refine DoN_pu (pu_len Tryz.underlying56 (Sees.nil w14)) ?_
  refine ⟨fun _ xs z => xs = [i64 0] ∧ z = w14, ⟨0, rfl, rfl⟩, ?_⟩
  rintro m2 x24 j2 w18 ⟨hx, rfl⟩
  obtain rfl : x24 = i64 0 := by simpa using hx
  refine Do_pu pu_lss (CondV_if (fun h => by omega) fun _ => ?_)
  refine Do_pu (pu_field Tryz.underlying58 rfl (n := 0) (o := 0) (by kernel_rfl) rfl) ?_
  refine Do_load Tryz.underlying55 rfl (n1.blk.cell 0) ?_
  refine CallS_r (containsB0_c _ w18) fun v z hh => ?_
  obtain ⟨rfl, rfl⟩ := hh
  exact Do_pu pu_not (Ret.of ⟨rfl, n1.ext⟩)
/-- A walk by a proof without digests. -/
abbrev WalkAt (w : World) (g : Nat) (n : Nat) (key : List UInt8) : Prop := Blk w g [nilS_, nilS_, i64 n, str (wayS key)] 168
theorem proofBegin0_c {w : World} (hk : Laid w) (n : Nat) (key : List UInt8) (hl : key.length ≤ 35184372088000) :
    Calls Tryz.prog 69 #[i64 n, str key, zeroP] w (Ret fun v w' => Ext w w' ∧ (((isLong key && ofS key == n) = false ∧ v = .tuple #[.pointer none, .bool false]) ∨ ((isLong key && ofS key == n) = true ∧ ∃ g, v = .tuple #[ptr g, .bool true] ∧ WalkAt w' g n key ∧ w.heap.size ≤ g))) := by
  refine vc_proof_begin ?_
  unfold V_proof_begin
  refine Do_box (l := [i64 n]) rfl fun w1 n1 => ?_
  refine Do_box (l := [nilS_, nilS_]) rfl fun w2 n2 => ?_
  have hx2 := n1.ext.trans n2.ext
  have b3 : ∀ {z : World}, Ext w2.drew z → Blk z w.heap.size [i64 n] 3 := fun hz => n1.blk.ext (n2.ext.trans ((Ext.drew _).trans hz))
  have b5 : ∀ {z : World}, Ext w2.drew z → Blk z w1.heap.size [nilS_, nilS_] 58 := fun hz => n2.blk.ext ((Ext.drew _).trans hz)
  refine ⟨Ext, fun i v z => (i = 1 → v = .bool true) ∧ (i = 5 → v = .bool (isLong key)) ∧ (i = 10 → v = i64 (ofS key)), Pre.ext, fun i v z z' hx h => h, ?_⟩
  refine PureQ_at (v := zeroP) (fun z hz => run_loadAgg (l := [nilS_, nilS_]) Tryz.underlying58 rfl (by kernel_rfl) (b5 hz.1).all) ?_
  refine ⟨fun w3 hx3 _ => CallS_r (proofRight0_c w3) fun v w4 hh => ⟨hh.2, fun _ => hh.1, fun e => by (cases e), fun e => by (cases e)⟩, fun x10 => ?_⟩
  refine PureQ_at (v := .bool false) (fun z hz => by rw [hz.2.1.1 rfl]; exact run_not true z) (BoolF ?_)
  refine ⟨fun w6 hx6 _ => CallS_r (proofLong_c key w6) fun v w7 hh => by obtain ⟨rfl, rfl⟩ := hh; exact ⟨Ext.refl _, fun e => by (cases e), fun _ => rfl, fun e => by (cases e)⟩, fun x14 => ?_⟩
  refine PureQ_at (v := .bool (!isLong key)) (fun z hz => by rw [hz.2.1.2.1 rfl]; exact run_not _ z) (BoolS (fun hlong => ?_) fun hlong => ?_)
  · intro w8 hx8 _
    have : isLong key = false := by simpa using hlong
    exact Ret.of ⟨hx2.trans ((Ext.drew _).trans hx8), .inl ⟨by rw [this]; rfl, rfl⟩⟩
  have hlong : isLong key = true := by simpa using hlong
  refine ⟨fun w9 hx9 _ => CallS_r (shardOf_c (hk.ext (hx2.trans ((Ext.drew _).trans hx9))) key hl) fun v w10 hh => ⟨hh.2, fun e => by (cases e), fun e => by (cases e), fun _ => hh.1⟩, fun x19 => ?_⟩
  refine PureQ_load Tryz.underlying3 rfl (fun z hz => (b3 hz.1).cell 0) ?_
  intro w11 hx11 hf
  obtain rfl := hf.1.2.2 rfl
  refine Do_pu pu_neq (CondV_b (fun hne => ?_) fun hne => ?_)
  · have : (ofS key == n) = false := by simp at hne ⊢; omega
    exact Ret.of ⟨hx2.trans ((Ext.drew _).trans hx11), .inl ⟨by rw [hlong, this]; rfl, rfl⟩⟩
  have hof : (ofS key == n) = true := by simp at hne ⊢; omega
  have hx12 : Ext w2 w11 := (Ext.drew _).trans hx11
  have c3 : ∀ {z : World}, Ext w11.drew z → Blk z w.heap.size [i64 n] 3 := fun hz => (n1.blk.ext (n2.ext.trans hx12)).ext ((Ext.drew _).trans hz)
  have c5 : ∀ {z : World}, Ext w11.drew z → Blk z w1.heap.size [nilS_, nilS_] 58 := fun hz => (n2.blk.ext hx12).ext ((Ext.drew _).trans hz)
  refine ⟨Ext, fun i v z => (i = 3 → v = str (wayS key)) ∧ (i = 5 → ∃ g, v = ptr g ∧ WalkAt z g n key ∧ w11.heap.size ≤ g) ∧ (i = 6 → ∃ g, v = ptr g ∧ Blk z g [.pointer none] 128 ∧ w11.heap.size ≤ g), Pre.ext,
    fun i v z z' hx h => ⟨h.1, fun e => let ⟨g, a, b, c⟩ := h.2.1 e; ⟨g, a, b.ext hx, c⟩, fun e => let ⟨g, a, b, c⟩ := h.2.2 e; ⟨g, a, b.ext hx, c⟩⟩, ?_⟩
  refine PureQ_at (v := zeroP) (fun z hz => run_loadAgg (l := [nilS_, nilS_]) Tryz.underlying58 rfl (by kernel_rfl) (c5 hz.1).all) ?_
  refine PureQ_load Tryz.underlying3 rfl (fun z hz => (c3 hz.1).cell 0) ?_
  have hxd : ∀ {z : World}, Ext w11.drew z → Ext w z := fun hz => hx2.trans (hx12.trans ((Ext.drew _).trans hz))
  refine ⟨fun w13 hx13 _ => CallS_r (shardBits_c (hk.ext (hxd hx13)) key hl) fun v w14 hh => ⟨hh.2, fun _ => hh.1, fun e => by (cases e), fun e => by (cases e)⟩, fun x26 => ?_⟩
  refine PureQ_at (v := .agg #[nilS_, nilS_, i64 n, str (wayS key)]) (fun z hz => by rw [hz.2.1.1 rfl]; exact run_buildS (cells := [nilS_, nilS_, i64 n, str (wayS key)]) Tryz.underlying168 (zero := [nilS_, nilS_, i64 0, str []]) (by kernel_rfl) (by kernel_rfl) (by kernel_rfl) z) ?_
  refine ⟨fun w15 hx15 _ => Do_box (l := [nilS_, nilS_, i64 n, str (wayS key)]) rfl fun w16 n16 => ⟨n16.ext, fun e => by (cases e), fun _ => ⟨_, rfl, n16.blk, hx15.size⟩, fun e => by (cases e)⟩, fun x28 => ?_⟩
  refine ⟨fun w17 hx17 _ => Do_alloc (l := [.pointer none]) (by kernel_rfl) fun w18 n18 => ⟨n18.ext, fun e => by (cases e), fun e => by (cases e), fun _ => ⟨_, rfl, n18.blk, hx17.size⟩⟩, fun x8 => ?_⟩
  intro w19 hx19 hf
  obtain ⟨g8, rfl, hb8, hs8⟩ := hf.1.2.2 rfl
  obtain ⟨g28, rfl, hb28, hs28⟩ := hf.2.1.2.1 rfl
  have hne : g28 ≠ g8 := fun e => by subst e; have := (hb8.inj hb28).1; cases this
  refine DoU_store (by kernel_rfl) hb8 (by simp) rfl fun w20 hb20 hg20 => ?_
  have hx20 : Ext w w20 := (hxd hx19).grown hg20 fun k e => by cases e; have := hx2.size; have := hx12.size; omega
  have hb28' : WalkAt w20 g28 n key := hb28.kept hg20 fun e => hne (Option.some.inj e)
  have d5 : ∀ {z : World}, Ext w20.drew z → Blk z w1.heap.size [nilS_, nilS_] 58 := fun hz => ((c5 hx19).kept hg20 fun e => by have := Option.some.inj e; have := n2.blk.lt; have := hx12.size; omega).ext ((Ext.drew _).trans hz)
  refine ⟨Ext, fun i v z => i = 4 → v = .bool false, Pre.ext, fun i v z z' hx h => h, ?_⟩
  refine PureQ_load Tryz.underlying128 rfl (fun z hz => (hb20.ext ((Ext.drew _).trans hz.1)).cell 0) ?_
  refine PureQ_pu (pu_field Tryz.underlying58 rfl (n := 0) (o := 1) (by kernel_rfl) rfl) ?_
  refine PureQ_load Tryz.underlying56 rfl (fun z hz => (d5 hz.1).cell 1) ?_
  refine PureQ_at (v := .func (.func 105) #[] #[ptr w.heap.size, ptr g8, ptr w1.heap.size]) (fun z _ => rfl) ?_
  refine ⟨fun w21 hx21 _ => CallS_r (containsS0_c _ w21) fun v w22 hh => by obtain ⟨rfl, rfl⟩ := hh; exact ⟨Ext.refl _, fun _ => rfl⟩, fun x33 => ?_⟩
  refine PureQ_at (v := .bool true) (fun z hz => by rw [hz.2.1 rfl]; exact run_not false z) ?_
  intro w23 hx23 _
  exact Ret.of ⟨hx20.trans ((Ext.drew _).trans hx23), .inr ⟨by rw [hlong, hof]; rfl, g28, rfl, hb28'.ext ((Ext.drew _).trans hx23), by have := hx2.size; have := hx12.size; omega⟩⟩
end Go.Proofs.YtpdceilhgaladaaGreatDoor
