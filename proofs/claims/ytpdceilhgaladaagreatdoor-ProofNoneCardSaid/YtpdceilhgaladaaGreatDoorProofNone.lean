/- buttresslaw13.ProofNone gives true for every key. -/
import Derived.Test.YtpdceilhgaladaaGreatDoorProofE
namespace Go.Proofs.YtpdceilhgaladaaGreatDoor.Law13
open Go.Vc Go.Vc.Sha Go.RowKit
abbrev top0 : List UInt8 := shaS (topT 0)
theorem top0_len : top0.length = 64 := by decide +kernel
theorem top0_bad : (top0 == List.replicate 64 0) = false := by decide +kernel
theorem len_of_own {w : World} {v : Value} {b : List UInt8} (h : b.length = 64) (ho : Own w 5 1 v 64 (b.map u8)) : SeesB w v b := by unfold SeesB; rw [h]; exact ho.sees
set_option maxRecDepth 20000 in
theorem awake_c {w : World} (hk : Laid w) : Calls Tryz.prog 13 #[] w (Ret fun v w' => v = .bool true ∧ Ext w w') := by
  refine vc_buttresslaw13_awake ?_
  unfold V_buttresslaw13_awake
  refine CallS_r (merkleNew_c 0 hk) fun x8 w1 hh => ?_
  obtain ⟨hx1, hv⟩ := hh
  rw [if_pos (by omega)] at hv
  obtain ⟨rfl, hE1, _⟩ := hv
  refine CallS_r (key0_c (hk.ext hx1)) fun x9 w2 hh => ?_
  obtain ⟨hx2, kk, rfl, hkl, hlong, hof⟩ := hh
  have hkk : kk.length ≤ 35184372088000 := by omega
  have hyes : (isLong kk && ofS kk == 0) = true := by rw [hlong, hof]; rfl
  refine CallS_r (make0_c (s := 0) (hk.ext (hx1.trans hx2)) (hE1.ext hx2) kk hkk) fun x13 w3 hh => ?_
  obtain ⟨hx3, rfl⟩ := hh
  rw [if_pos hyes]
  refine Do_pu (pu_ext rfl) ?_
  refine Do_pu (pu_ext rfl) ?_
  refine Do_alloc (l := [nilS_, nilS_]) (by kernel_rfl) fun w6 n6 => ?_
  refine DoU_storeAgg (m := [nilS_, nilS_]) (by kernel_rfl) n6.blk (by decide) (one_cons rfl (one_cons rfl one_nil)) fun w7 hb7 hg7 => ?_
  have hb7 := hb7.whole (by decide)
  have hX3 : Ext w w3 := hx1.trans (hx2.trans hx3)
  have hX37 : Ext w3 w7 := n6.ext.grown hg7 fun k e => by cases e; exact Nat.le_refl _
  have hX7 : Ext w w7 := hX3.trans hX37
  have hE7 : Empty w7 (w.heap.size + 1) w.heap.size 0 := hE1.ext (hx2.trans (hx3.trans hX37))
  have hk7 := hk.ext hX7
  have h3m : w3.heap.size ≠ w.heap.size := by have := hE1.lt; have := (hx2.trans hx3).size; omega
  have hlead : leads 0 kk top0 = true := by unfold leads; rw [hyes, Bool.true_and]; exact beq_self_eq_true _
  have hbad : leads 0 kk (List.replicate 64 0) = false := by unfold leads; rw [top0_bad, Bool.and_false]
  have sayE : ∀ {a b : World}, Ext w a → ER (w.heap.size + 1) w.heap.size 0 a b → Ext w b := fun ha hr => ha.chg hr.1 fun k e => by omega
  refine ⟨ER (w.heap.size + 1) w.heap.size 0, fun i v z => (i = 1 → SeesB z v top0 ∧ ∀ g, v.ownBlock = some g → g ≠ w.heap.size) ∧ (i = 4 → v = .tuple #[nilS_, i64 0]), ER.pre _ _ _,
    fun i v z z' hx h => ⟨fun e => ⟨Sees.chg (h.1 e).1 hx.1 fun _ g hg e' => (h.1 e).2 g hg e', (h.1 e).2⟩, h.2⟩, ?_⟩
  refine ⟨fun w8 hx8 _ => ?_, fun x18 => ?_⟩
  · have hE8 := hx8.2 (hE7.ext (Ext.drew _))
    refine CallS_r (Top0_c hE8 (hx8.laid (hE7.ext (Ext.drew _)) (hk7.ext (Ext.drew _))) (by omega)) fun v w9 hh => ?_
    obtain ⟨hr, ho, hl⟩ := hh
    exact ⟨hr, fun _ => ⟨len_of_own top0_len ho, fun g hg => by have := hl g hg; have := hE8.lt; omega⟩, fun e => by (cases e)⟩
  have b3 : ∀ {z : World}, ER (w.heap.size + 1) w.heap.size 0 w7.drew z → Blk z w3.heap.size [nilS_, nilS_] 58 := fun hz => (hb7.ext (Ext.drew _)).chg hz.1 h3m
  refine PureQ_at (v := zeroP) (fun z hz => run_loadAgg (l := [nilS_, nilS_]) Tryz.underlying58 rfl (by kernel_rfl) (b3 hz.1).all) ?_
  refine ⟨fun w10 hx10 hf => ?_, fun x21 => ?_⟩
  · refine CallS_r (check0_c (n := 0) (hx10.laid (hE7.ext (Ext.drew _)) (hk7.ext (Ext.drew _))) (by omega) hkk (hf.1.1 rfl).1) fun v w11 hh => ?_
    obtain ⟨hx, rfl⟩ := hh
    exact ⟨.ext hx, fun e => by (cases e), fun _ => by rw [if_pos hlead]⟩
  refine PureQ_at (v := nilS_) (fun z hz => by rw [hz.2.1.2 rfl]; exact pu_ext rfl z) ?_
  refine PureQ_at (v := i64 0) (fun z hz => by rw [hz.2.1.2 rfl]; exact pu_ext rfl z) ?_
  intro w12 hx12 _
  have hE12 := hx12.2 (hE7.ext (Ext.drew _))
  have hk12 := hx12.laid (hE7.ext (Ext.drew _)) (hk7.ext (Ext.drew _))
  have hX12 : Ext w w12 := sayE (hX7.trans (Ext.drew _)) hx12
  have hb12 := b3 hx12
  refine Do_makeSlice Tryz.underlying22 row8 (l := 64) (c := 64) (Nat.le_refl _) (by omega) (by omega) fun w13 n13 => ?_
  have hX13 := hX12.trans n13.ext
  have hE13 := hE12.ext n13.ext
  have hk13 := hk12.ext n13.ext
  have hb13 := hb12.ext n13.ext
  have hz : (madeCells [u8 0].toArray (64 * 1)).toList = (List.replicate 64 (0 : UInt8)).map u8 := by kernel_rfl
  have hn13 := n13.blk
  rw [hz] at hn13
  have hlt12 := hE12.lt
  have s24 : ∀ {z : World}, ER (w.heap.size + 1) w.heap.size 0 w13.drew z → SeesB z (.slice (some ⟨w12.heap.size, 0, none⟩) 64 64) (List.replicate 64 0) := fun {z} hz => by
    have hb := (hn13.ext (Ext.drew _)).chg hz.1 (by omega)
    refine .inr ⟨_, _, rfl, Nat.le_refl _, by decide, fun j u hj => ?_⟩
    rw [add_off, Nat.zero_add, hb.cell]
    exact hj
  refine ⟨ER (w.heap.size + 1) w.heap.size 0, fun i v z => (i = 13 → v = .bool true) ∧ (i = 17 → SeesB z v top0 ∧ ∀ g, v.ownBlock = some g → g ≠ w.heap.size) ∧ (i = 20 → v = i64 0) ∧ (i = 27 → v = i64 23), ER.pre _ _ _,
    fun i v z z' hx h => ⟨h.1, fun e => ⟨Sees.chg (h.2.1 e).1 hx.1 fun _ g hg e' => (h.2.1 e).2 g hg e', (h.2.1 e).2⟩, h.2.2⟩, ?_⟩
  have c3 : ∀ {z : World}, ER (w.heap.size + 1) w.heap.size 0 w13.drew z → Blk z w3.heap.size [nilS_, nilS_] 58 := fun hz => (hb13.ext (Ext.drew _)).chg hz.1 h3m
  have cE : ∀ {z : World}, ER (w.heap.size + 1) w.heap.size 0 w13.drew z → Empty z (w.heap.size + 1) w.heap.size 0 := fun hz => hz.2 (hE13.ext (Ext.drew _))
  have cK : ∀ {z : World}, ER (w.heap.size + 1) w.heap.size 0 w13.drew z → Laid z := fun hz => hz.laid (hE13.ext (Ext.drew _)) (hk13.ext (Ext.drew _))
  have cP : ∀ {z : World}, ER (w.heap.size + 1) w.heap.size 0 w13.drew z → (Instr.loadAt 58 (ptr w3.heap.size)).run Tryz.prog z = .ok zeroP z := fun hz => run_loadAgg (l := [nilS_, nilS_]) Tryz.underlying58 rfl (by kernel_rfl) (c3 hz).all
  refine PureQ_pu pu_eql (BoolT ?_)
  refine PureQ_pu pu_eql (BoolT ?_)
  refine PureN_pu (pu_len Tryz.underlying22 (Sees.nil w13)) ?_
  refine PureQ_pu pu_eql (BoolT ?_)
  refine PureQ_at (v := zeroP) (fun z hz => cP hz.1) ?_
  refine ⟨fun w14 hx14 _ => CallS_r (proofRight0_c w14) fun v w15 hh => ⟨.ext hh.2, ⟨fun _ => hh.1, fun e => by (cases e), fun e => by (cases e), fun e => by (cases e)⟩, ⟨true, hh.1⟩⟩, fun b13 => SplitB_b (fun hb => ?_) (fun hb => ?_)⟩
  rotate_left
  · intro w28 _ hf
    subst hb
    cases hf.1.1 rfl
  subst hb
  refine ⟨fun w16 hx16 _ => ?_, fun x42 => ?_⟩
  · have hE16 := cE hx16
    refine CallS_r (Top0_c hE16 (cK hx16) (by omega)) fun v w17 hh => ?_
    obtain ⟨hr, ho, hl⟩ := hh
    exact ⟨hr, fun e => by (cases e), fun _ => ⟨len_of_own top0_len ho, fun g hg => by have := hl g hg; have := hE16.lt; omega⟩, fun e => by (cases e), fun e => by (cases e)⟩
  refine PureQ_at (v := zeroP) (fun z hz => cP hz.1) ?_
  refine ⟨fun w18 hx18 hf => ?_, fun x45 => ?_⟩
  · refine CallS_r (holds0_c (n := 0) (cK hx18) (by omega) hkk (hf.1.2.1 rfl).1) fun v w19 hh => ?_
    obtain ⟨hx, rfl⟩ := hh
    exact ⟨.ext hx, fun e => by (cases e), fun e => by (cases e), fun _ => by rw [if_pos hlead], fun e => by (cases e)⟩
  refine PureQ_at (v := .bool true) (fun z hz => by rw [hz.2.1.2.2.1 rfl]; exact pu_eql z) (BoolT ?_)
  refine PureQ_at (v := zeroP) (fun z hz => cP hz.1) ?_
  refine ⟨fun w20 hx20 hf => ?_, fun x52 => ?_⟩
  · refine CallS_r (holds0_c (n := 0) (cK hx20) (by omega) hkk (s24 hx20)) fun v w21 hh => ?_
    obtain ⟨hx, rfl⟩ := hh
    exact ⟨.ext hx, fun e => by (cases e), fun e => by (cases e), fun e => by (cases e), fun _ => by rw [if_neg (by rw [hbad]; exact Bool.false_ne_true)]⟩
  refine PureQ_at (v := .bool true) (fun z hz => by rw [hz.2.1.2.2.2 rfl]; exact pu_eql z) (BoolT ?_)
  refine PureQ_at (v := zeroP) (fun z hz => cP hz.1) ?_
  intro w22 hx22 _
  refine CallS_r (texts0_c (n := 0) (cK hx22) (by omega) hkk hyes) fun x58 w23 hh => ?_
  obtain ⟨hx23, l, hs⟩ := hh
  refine DoN_pu (pu_len Tryz.underlying55 hs) ?_
  refine Do_pu pu_eql (Ret.of ⟨rfl, (sayE (hX13.trans (Ext.drew _)) hx22).trans hx23⟩)
set_option maxRecDepth 20000 in
theorem proofNone_c {w : World} (hk : Laid w) (key : List UInt8) (hl : key.length ≤ 9223372036854775807) : Calls Tryz.prog 4 #[str key] w (Ret fun v w' => v = .bool true ∧ Ext w w') := by
  refine vc_buttresslaw13_ProofNone ?_
  unfold V_buttresslaw13_ProofNone
  refine CallS_r (awake_c hk) fun x11 w1 hh => ?_
  obtain ⟨rfl, hx1⟩ := hh
  refine Do_pu pu_not (CondF ?_)
  refine DoN_pu (pu_lenS Tryz.underlying9) ?_
  refine Do_pu pu_gtr (CondV_if (fun _ => Ret.of ⟨rfl, hx1⟩) fun hlen => ?_)
  have hlen : key.length ≤ 200 := by omega
  have hkk : key.length ≤ 35184372088000 := by omega
  refine CallS_r (makeNope_c (.inl rfl) _) fun x18 w5 hh => ?_
  obtain ⟨hx5, rfl⟩ := hh
  refine Do_pu (pu_ext rfl) ?_
  refine Do_pu (pu_ext rfl) ?_
  refine Do_alloc (l := [nilS_, nilS_]) (by kernel_rfl) fun w8 n8 => ?_
  refine DoU_storeAgg (m := [nilS_, nilS_]) (by kernel_rfl) n8.blk (by decide) (one_cons rfl (one_cons rfl one_nil)) fun w9 hb9 hg9 => ?_
  have hX9 : Ext w w9 := (hx1.trans (hx5.trans n8.ext)).grown hg9 fun k e => by cases e; exact (hx1.trans hx5).size
  refine Do_of (run_buildS (cells := [nilS_, nilS_, i64 0, .map none]) Tryz.underlying36 (zero := [nilS_, nilS_, i64 0, .map none]) (by kernel_rfl) (by kernel_rfl) (by kernel_rfl) _) ?_
  refine Do_box (l := [nilS_, nilS_, i64 0, .map none]) rfl fun w11 n11 => ?_
  refine CallS_r (makeNope_c (.inr ⟨_, _, _, _, rfl, n11.blk⟩) _) fun x25 w12 hh => ?_
  obtain ⟨hx12, rfl⟩ := hh
  refine Do_pu (pu_ext rfl) ?_
  refine Do_pu (pu_ext rfl) ?_
  refine Do_alloc (l := [nilS_, nilS_]) (by kernel_rfl) fun w15 n15 => ?_
  refine DoU_storeAgg (m := [nilS_, nilS_]) (by kernel_rfl) n15.blk (by decide) (one_cons rfl (one_cons rfl one_nil)) fun w16 hb16 hg16 => ?_
  have hX12 := hX9.trans (n11.ext.trans hx12)
  have hX16 : Ext w w16 := (hX12.trans n15.ext).grown hg16 fun k e => by cases e; exact hX12.size
  refine Do_pu pu_neq (BoolF ?_)
  refine Do_pu pu_neq (CondF ?_)
  refine ⟨fun mm xs z => ∃ i : Nat, mm = 4 - i ∧ i ≤ 4 ∧ xs = [i64 i] ∧ Ext w z, ⟨_, 0, rfl, by omega, rfl, hX16⟩, ?_⟩
  rintro m1 x7 _ w19 ⟨i, rfl, hi, hx, hX19⟩
  obtain rfl : x7 = i64 i := by simpa using hx
  refine Do_pu pu_lss (CondV_if (fun hlt => ?_) fun _ => Ret.of ⟨rfl, hX19⟩)
  have hlt : i < 4 := by omega
  refine CallS_r (merkleNew_c i (hk.ext hX19)) fun x40 w21 hh => ?_
  obtain ⟨hx21, hv⟩ := hh
  rw [if_pos (by omega)] at hv
  obtain ⟨rfl, hE, _⟩ := hv
  have hX21 := hX19.trans hx21
  refine CallS_r (make0_c (s := i) (hk.ext hX21) hE key hkk) fun x42 w22 hh => ?_
  obtain ⟨hx22, rfl⟩ := hh
  refine Do_pu (pu_ext rfl) ?_
  refine Do_pu (pu_ext rfl) ?_
  refine Do_alloc (l := [nilS_, nilS_]) (by kernel_rfl) fun w25 n25 => ?_
  refine DoU_storeAgg (m := [nilS_, nilS_]) (by kernel_rfl) n25.blk (by decide) (one_cons rfl (one_cons rfl one_nil)) fun w26 hb26 hg26 => ?_
  have hX22 := hX21.trans hx22
  have hX26 : Ext w w26 := (hX22.trans n25.ext).grown hg26 fun k e => by cases e; exact hX22.size
  refine ⟨fun xs z => xs = [.bool (isLong key && ofS key == i)] ∧ Ext w z, ?_, ?_⟩
  · refine DoN_pu (pu_lenS Tryz.underlying9) ?_
    refine Do_pu pu_geq (BoolS_if (fun h1 => ?_) fun h1 => ?_)
    · refine DoN_pu (pu_lenS Tryz.underlying9) ?_
      refine Do_pu pu_leq (BoolS_if (fun h2 => ?_) fun h2 => ?_)
      · refine CallS_r (shardOf_c (hk.ext hX26) key hkk) fun x55 w31 hh => ?_
        obtain ⟨rfl, hx31⟩ := hh
        refine Do_pu pu_eql ⟨?_, hX26.trans hx31⟩
        have : isLong key = true := by unfold isLong; rw [decide_eq_true (by omega : 1 ≤ key.length), decide_eq_true (by omega : key.length ≤ 64)]; rfl
        rw [this, Bool.true_and]
        congr 2
        exact Bool.eq_iff_iff.2 (by simp; omega)
      · have : isLong key = false := by unfold isLong; rw [decide_eq_false (by omega : ¬ key.length ≤ 64), Bool.and_false]
        exact ⟨by rw [this]; rfl, hX26⟩
    · have : isLong key = false := by unfold isLong; rw [decide_eq_false (by omega : ¬ 1 ≤ key.length), Bool.false_and]
      exact ⟨by rw [this]; rfl, hX26⟩
  rintro x10 _ w33 ⟨hx10, hX33⟩
  obtain rfl : x10 = .bool (isLong key && ofS key == i) := by simpa using hx10
  cases hr : (isLong key && ofS key == i) with
  | true =>
    refine Do_pu pu_eql ?_
    refine Do_pu (pu_boolne Tryz.underlying4) (BoolF ?_)
    refine Do_pu pu_not (BoolF ?_)
    exact Do_pu (pu_iadd (by omega) (by omega)) ⟨4 - (i + 1), by omega, i + 1, rfl, by omega, rfl, hX33⟩
  | false =>
    refine Do_pu pu_eql ?_
    refine Do_pu (pu_boolne Tryz.underlying4) (BoolF ?_)
    refine Do_pu pu_not (BoolT ?_)
    refine Do_pu pu_neq (CondF ?_)
    exact Do_pu (pu_iadd (by omega) (by omega)) ⟨4 - (i + 1), by omega, i + 1, rfl, by omega, rfl, hX33⟩
end Go.Proofs.YtpdceilhgaladaaGreatDoor.Law13
