/- The proof that a tree without leaves makes; the example's key. -/
import Derived.Test.YtpdceilhgaladaaGreatDoorProofD
namespace Go.Proofs.YtpdceilhgaladaaGreatDoor
open Go.Vc Go.Vc.Sha Go.RowKit
set_option maxRecDepth 20000 in
theorem texts0_c {w : World} (hk : Laid w) {n : Nat} (hn : n < 4) {key : List UInt8} (hl : key.length ≤ 35184372088000) (hyes : (isLong key && ofS key == n) = true) :
    Calls Tryz.prog 40 #[i64 n, str key, zeroP, nilS_] w (Ret fun r w' => Ext w w' ∧ ∃ l, Sees w' r 3 l) := by
  refine vc_proof_Texts ?_
  unfold V_proof_Texts
  refine Do_box (l := [nilS_, nilS_]) rfl fun w1 n1 => ?_
  refine Do_loadAgg (l := [nilS_, nilS_]) Tryz.underlying58 rfl (by kernel_rfl) n1.blk.all ?_
  refine CallS_r (proofBegin0_c (hk.ext n1.ext) n key hl) fun x17 w3 hh => ?_
  obtain ⟨hx3, ⟨hno, _⟩ | ⟨_, g, rfl, hg3, hg1⟩⟩ := hh
  · rw [hyes] at hno; cases hno
  refine Do_pu (pu_ext rfl) ?_
  refine Do_pu (pu_ext rfl) ?_
  have hX3 := n1.ext.trans hx3
  refine Do_alloc (l := [.pointer none]) (by kernel_rfl) fun w6 n6 => ?_
  refine DoU_store (by kernel_rfl) n6.blk (by simp) rfl fun w7 hb7 hg7 => ?_
  have hX7 : Ext w w7 := (hX3.trans n6.ext).grown hg7 fun k e => by cases e; exact hX3.size
  have hx37 : Ext w3 w7 := n6.ext.grown hg7 fun k e => by cases e; exact Nat.le_refl _
  refine CallS_r (sibPut0_c w7) fun x22 w8 hh => ?_
  obtain ⟨hx8, v, rfl, hs8, _⟩ := hh
  refine Do_pu (pu_ext rfl) ?_
  refine Do_pu (pu_ext rfl) ?_
  refine Do_alloc (l := [nilS_]) (by kernel_rfl) fun w11 n11 => ?_
  refine DoU_store (by kernel_rfl) n11.blk (by simp) (Sees.one hs8) fun w12 hb12 hg12 => ?_
  have hx12 : Ext w8 w12 := n11.ext.grown hg12 fun k e => by cases e; exact Nat.le_refl _
  refine Do_pu pu_not (BoolF ?_)
  refine Do_pu pu_neq (CondF ?_)
  refine Do_of (v := .func (.func 76) #[] #[ptr w8.heap.size, ptr w3.heap.size]) (w' := w12) rfl ?_
  have hX12 := hX7.trans (hx8.trans hx12)
  refine CallS_r (collect0_c (hk.ext hX12) hn hb12 (hs8.ext hx12) (by decide) (hb7.ext (hx8.trans hx12)) (hg3.ext (hx37.trans (hx8.trans hx12)))) fun x32 w16 hh => ?_
  exact Ret.of ⟨hX12.trans hh.1, hh.2⟩
theorem shardT_c {w : World} {t m : Nat} {sh : Int} (h : Empty w t m sh) : Calls Tryz.prog 21 #[ptr t] w (Ret fun v w' => v = i64 sh ∧ w' = w) := by
  refine vc_merkle_Tree_Shard ?_
  unfold V_merkle_Tree_Shard
  refine CallS_v (there_c h.blk) ?_
  refine Do_pu pu_not (CondF ?_)
  refine DoN_pu pu_nilptr ?_
  refine Do_pu (pu_field Tryz.underlying36 rfl (n := 0) (o := 2) (by kernel_rfl) rfl) ?_
  exact Do_load Tryz.underlying3 rfl ((h.blk.cell _).trans rfl) (Ret.of ⟨rfl, rfl⟩)
/-- The result cell holds a proof without digests. -/
theorem make_fin {w w1 z : World} {R : Ending → World → Prop} (n1 : New w w1 [nilS_, nilS_] 58) (e : Int) (hx : Ext w1 z) (hR : ∀ z', Ext w z' → R (.returned (.tuple #[zeroP, i64 e])) z') :
    DoU Tryz.prog (Instr.storeAt 58 (ptr w.heap.size) zeroP) z (fun w9 => ResV Tryz.prog [(.inr (ptr w.heap.size, 58)), (.inl (i64 e))] w9 R) (pkR R) := by
  refine DoU_storeAgg (m := [nilS_, nilS_]) (by kernel_rfl) (n1.blk.ext hx) (by decide) (one_cons rfl (one_cons rfl one_nil)) fun w9 hb9 hg9 => ?_
  exact ⟨[zeroP, i64 e], ⟨⟨_, rfl, run_loadVarAgg (l := [nilS_, nilS_]) Tryz.underlying58 rfl (by kernel_rfl) (hb9.whole (by decide)).all⟩, rfl, trivial⟩, hR _ ((n1.ext.trans hx).grown hg9 (fun k e => by cases e; exact Nat.le_refl _))⟩
theorem pu_zeroP : Pu Tryz.prog (Instr.build 58 #[]) zeroP := fun w => run_buildS (cells := [nilS_, nilS_]) Tryz.underlying58 (zero := [nilS_, nilS_]) (by kernel_rfl) (by kernel_rfl) (by kernel_rfl) w
set_option maxRecDepth 20000 in
theorem makeNope_c {w : World} {p : Value} (h : Nope w p) (key : Value) : Calls Tryz.prog 14 #[p, key] w (Ret fun r w' => Ext w w' ∧ r = .tuple #[zeroP, i64 1]) := by
  refine vc_proof_Make ?_
  unfold V_proof_Make
  refine Do_alloc (l := [nilS_, nilS_]) (by kernel_rfl) fun w1 n1 => ?_
  refine CallS_r (nopeNode_c (h.ext n1.ext) _) fun x16 w2 hh => ?_
  obtain ⟨rfl, hx2⟩ := hh
  refine Do_pu (pu_ext rfl) ?_
  refine Do_pu (pu_ext rfl) ?_
  refine Do_alloc (l := [.int .u8 0, nilS_, nilS_, nilS_]) (by kernel_rfl) fun w5 n5 => ?_
  refine DoU_storeAgg (m := [.int .u8 0, nilS_, nilS_, nilS_]) (by kernel_rfl) n5.blk (by decide) (one_cons rfl (one_cons rfl (one_cons rfl (one_cons rfl one_nil)))) fun w6 hb6 hg6 => ?_
  have hx6 : Ext w1 w6 := (hx2.trans n5.ext).grown hg6 fun k e => by cases e; exact hx2.size
  refine ⟨fun _ _ => False, ?_, fun _ _ h => h.elim⟩
  refine Do_pu pu_neq (CondT ?_)
  refine Do_pu pu_zeroP ?_
  exact make_fin n1 1 hx6 fun z' hz => Ret.of ⟨hz, rfl⟩
set_option maxRecDepth 20000 in
theorem make0_c {w : World} (hk : Laid w) {t m : Nat} {s : Nat} (h : Empty w t m s) (key : List UInt8) (hl : key.length ≤ 35184372088000) :
    Calls Tryz.prog 14 #[ptr t, str key] w (Ret fun r w' => Ext w w' ∧ r = .tuple #[zeroP, i64 (if (isLong key && ofS key == s) = true then 0 else 22)]) := by
  refine vc_proof_Make ?_
  unfold V_proof_Make
  refine Do_alloc (l := [nilS_, nilS_]) (by kernel_rfl) fun w1 n1 => ?_
  refine CallS_r (Node0_c (h.ext n1.ext) [] (by decide)) fun x16 w2 hh => ?_
  obtain ⟨rfl, hx2⟩ := hh
  rw [if_pos (by decide)]
  refine Do_pu (pu_ext rfl) ?_
  refine Do_pu (pu_ext rfl) ?_
  refine Do_alloc (l := [.int .u8 0, nilS_, nilS_, nilS_]) (by kernel_rfl) fun w5 n5 => ?_
  refine DoU_storeAgg (m := [.int .u8 1, nilS_, nilS_, nilS_]) (by kernel_rfl) n5.blk (by decide) (one_cons rfl (one_cons rfl (one_cons rfl (one_cons rfl one_nil)))) fun w6 hb6 hg6 => ?_
  have hx6 : Ext w1 w6 := (hx2.trans n5.ext).grown hg6 fun k e => by cases e; exact hx2.size
  have hb6 := hb6.whole (by decide)
  have hX6 := n1.ext.trans hx6
  refine ⟨fun _ z => Ext w6 z ∧ (isLong key && ofS key == s) = true, ?_, ?_⟩
  · refine Do_pu pu_neq (CondF ?_)
    refine CallS_v (proofLong_c key w6) ?_
    refine Do_pu pu_not (CondV_b (fun hc => ?_) fun hc => ?_)
    · have : isLong key = false := by simpa using hc
      rw [hc]
      refine CondT ?_
      refine Do_pu pu_zeroP ?_
      exact make_fin n1 22 hx6 fun z' hz => Ret.of ⟨hz, by rw [this]; rfl⟩
    have hlong : isLong key = true := by simpa using hc
    refine CallS_r (shardOf_c (hk.ext hX6) key hl) fun x29 w14 hh => ?_
    obtain ⟨rfl, hx14⟩ := hh
    refine CallS_v (shardT_c (h.ext (hX6.trans hx14))) ?_
    refine Do_pu pu_neq (CondV_b (fun hc => ?_) fun hc => ?_)
    · have : (ofS key == s) = false := by simp at hc ⊢; omega
      refine Do_pu pu_zeroP ?_
      exact make_fin n1 22 (hx6.trans hx14) fun z' hz => Ret.of ⟨hz, by rw [this, Bool.and_false]; rfl⟩
    · exact ⟨hx14, by rw [hlong]; simp at hc ⊢; omega⟩
  rintro _ w19 ⟨hx19, hyes⟩
  have hX19 := hX6.trans hx19
  refine Do_alloc (l := [nilS_, nilS_]) (by kernel_rfl) fun w20 n20 => ?_
  refine CallS_r (shardBits_c (hk.ext (hX19.trans n20.ext)) key hl) fun x35 w21 hh => ?_
  obtain ⟨rfl, hx21⟩ := hh
  have hb21 := hb6.ext (hx19.trans (n20.ext.trans hx21))
  refine ⟨fun _ _ z => z = w21, ⟨0, rfl⟩, ?_⟩
  rintro m2 _ w22 rfl
  refine Do_pu (pu_field Tryz.underlying52 rfl (n := 0) (o := 0) (by kernel_rfl) rfl) ?_
  refine Do_load Tryz.underlying50 rfl (hb21.cell 0) ?_
  refine Do_pu pu_eql (CondF ?_)
  refine Do_pu (pu_field Tryz.underlying52 rfl (n := 0) (o := 3) (by kernel_rfl) rfl) ?_
  refine Do_load Tryz.underlying30 rfl (hb21.cell 3) ?_
  refine DoN_pu (pu_len Tryz.underlying30 (Sees.nil w22)) ?_
  refine ⟨fun _ xs z => xs = [i64 0] ∧ z = w22, ⟨0, rfl, rfl⟩, ?_⟩
  rintro m4 x71 _ w49 ⟨hx, rfl⟩
  obtain rfl : x71 = i64 0 := by simpa using hx
  refine Do_pu pu_lss (CondV_if (fun h => by omega) fun _ => ?_)
  refine Do_loadAgg (l := [nilS_, nilS_]) Tryz.underlying58 rfl (by kernel_rfl) (n20.blk.ext hx21).all ?_
  exact make_fin n1 0 (hx6.trans (hx19.trans (n20.ext.trans hx21))) fun z' hz => Ret.of ⟨hz, by rw [hyes]; rfl⟩
/-! ### The example's key -/
def keyAt : Nat → List UInt8
  | 0 => [97]
  | i + 1 => [UInt8.ofNat (97 + i % 26), UInt8.ofNat (97 + i / 26)]
theorem keyAt_len (i : Nat) : 1 ≤ (keyAt i).length ∧ (keyAt i).length ≤ 2 := by cases i <;> simp [keyAt]
theorem keyAt16 : ofS (keyAt 16) = 0 := by decide +kernel
set_option maxRecDepth 20000 in
theorem key0_c {w : World} (hk : Laid w) : Calls Tryz.prog 36 #[] w (Ret fun v w' => Ext w w' ∧ ∃ k, v = str k ∧ k.length ≤ 2 ∧ isLong k = true ∧ ofS k = 0) := by
  refine vc_buttresslaw13_key0 ?_
  unfold V_buttresslaw13_key0
  refine ⟨fun mm xs z => ∃ i, mm = 17 - i ∧ i ≤ 16 ∧ xs = [str (keyAt i), i64 i] ∧ Ext w z, ⟨_, 0, rfl, by omega, rfl, Ext.refl _⟩, ?_⟩
  rintro m1 x1 x2 _ w1 ⟨i, rfl, hi, hx, hx1⟩
  obtain ⟨rfl, rfl⟩ : x1 = str (keyAt i) ∧ x2 = i64 i := by simpa using hx
  have hkl := keyAt_len i
  refine Do_pu pu_lss (BoolS_if (fun _ => ?_) fun h => by omega)
  refine CallS_r (shardOf_c (hk.ext hx1) (keyAt i) (by omega)) fun x7 w3 hh => ?_
  obtain ⟨rfl, hx3⟩ := hh
  refine Do_pu pu_neq (CondV_b (fun hc => ?_) fun hc => ?_)
  · have hne : i ≠ 16 := fun e => by subst e; rw [keyAt16] at hc; cases hc
    refine Do_pu (pu_irem (by omega) (by omega)) ?_
    refine Do_pu (pu_iadd (by omega) (by omega)) ?_
    refine Do_pu (pu_conv Tryz.underlying3 Tryz.underlying5) ?_
    refine Do_pu (pu_iquo (by omega) (by omega) (by omega)) ?_
    refine Do_pu (pu_iadd (by omega) (by omega)) ?_
    refine Do_pu (pu_conv Tryz.underlying3 Tryz.underlying5) ?_
    have e1 : (97 : Int) + (i : Int) % 26 = ((97 + i % 26 : Nat) : Int) := by omega
    have e2 : (97 : Int) + (i : Int) / 26 = ((97 + i / 26 : Nat) : Int) := by omega
    rw [e1, e2, u8_wrap, u8_wrap]
    refine Do_build1L (vs := [u8 (UInt8.ofNat (97 + i % 26)), u8 (UInt8.ofNat (97 + i / 26))]) Tryz.underlying22 row8 (one_cons rfl (one_cons rfl one_nil)) rfl rfl (by decide) (by decide) fun w11 n11 => ?_
    refine Do_of (run_b2s (b := keyAt (i + 1)) Tryz.underlying22 Tryz.underlying5 Tryz.underlying9 (Own.new (s := 1) n11 rfl (by decide)).sees) ?_
    exact Do_pu (pu_iadd (by omega) (by omega)) ⟨17 - (i + 1), by omega, i + 1, rfl, by omega, rfl, hx1.trans (hx3.trans n11.ext)⟩
  · refine Ret.of ⟨hx1.trans hx3, keyAt i, rfl, hkl.2, ?_, by simp at hc; omega⟩
    unfold isLong
    rw [decide_eq_true hkl.1, decide_eq_true (by omega : (keyAt i).length ≤ 64)]
    rfl
end Go.Proofs.YtpdceilhgaladaaGreatDoor
