/- Proofs without digests: the texts from the node's up to the shard's. -/
import Derived.Test.YtpdceilhgaladaaGreatDoorProofA
namespace Go.Proofs.YtpdceilhgaladaaGreatDoor
open Go.Vc Go.Vc.Sha Go.RowKit
theorem up_c (g : Nat) (w : World) : Calls Tryz.prog 70 #[ptr g] w (Ret fun v w' => v = .func (.func 106) #[] #[ptr w.heap.size] ∧ Blk w' w.heap.size [ptr g] 128 ∧ Ext w w') := by
  refine vc_proof_walk_up ?_
  unfold V_proof_walk_up
  refine Do_box (l := [ptr g]) rfl fun w1 n1 => ?_
  refine Do_of (v := .func (.func 106) #[] #[ptr w.heap.size]) (w' := w1) rfl ?_
  exact Ret.of ⟨rfl, n1.blk, n1.ext⟩
theorem says0_c {w : World} {g n : Nat} {key : List UInt8} (h : WalkAt w g n key) (k : Value) : Calls Tryz.prog 71 #[ptr g, k] w (Ret fun v w' => v = nilS_ ∧ w' = w) := by
  refine vc_proof_walk_says ?_
  unfold V_proof_walk_says
  refine DoN_pu pu_nilptr ?_
  refine Do_pu (pu_field Tryz.underlying168 rfl (n := 1) (o := 0) (by kernel_rfl) rfl) ?_
  refine Do_pu (pu_field Tryz.underlying58 rfl (n := 0) (o := 1) (by kernel_rfl) rfl) ?_
  refine Do_load Tryz.underlying56 rfl (h.cell 1) ?_
  refine DoN_pu (pu_len Tryz.underlying56 (Sees.nil w)) ?_
  refine ⟨fun _ xs z => xs = [i64 0] ∧ z = w, ⟨0, rfl, rfl⟩, ?_⟩
  rintro m1 x13 j1 w2 ⟨hx, rfl⟩
  obtain rfl : x13 = i64 0 := by simpa using hx
  exact Do_pu pu_lss (CondV_if (fun h => by omega) fun _ => Ret.of ⟨rfl, rfl⟩)
theorem end0_c {w : World} {g n : Nat} {key : List UInt8} (h : WalkAt w g n key) : Calls Tryz.prog 107 #[ptr g] w (Ret fun v w' => SeesB w' v [0] ∧ Ext w w' ∧ Late w v) := by
  refine vc_proof_walk_end ?_
  unfold V_proof_walk_end
  refine Do_build1L (vs := [u8 0, u8 1, u8 3]) Tryz.underlying22 row8 (one_cons rfl (one_cons rfl (one_cons rfl one_nil))) rfl rfl (by decide) (by decide) fun w1 n1 => ?_
  have h1 : WalkAt w1 g n key := h.ext n1.ext
  refine DoN_pu pu_nilptr ?_
  refine Do_pu (pu_field Tryz.underlying168 rfl (n := 1) (o := 0) (by kernel_rfl) rfl) ?_
  refine Do_pu (pu_field Tryz.underlying58 rfl (n := 0) (o := 1) (by kernel_rfl) rfl) ?_
  refine Do_load Tryz.underlying56 rfl (h1.cell 1) ?_
  refine DoN_pu (pu_len Tryz.underlying56 (Sees.nil w1)) ?_
  refine DoN_pu (pu_minN (a := 0) (b := 2)) ?_
  have hs : Sees w1 (.slice (some ⟨w.heap.size, 0, none⟩) 3 3) 3 [u8 0, u8 1, u8 3] := (Own.new (s := 1) n1 rfl (by decide)).sees
  refine Do_of (hs.indexP (i := 0) (s := 1) Tryz.underlying22 (by kernel_rfl) (by decide) (hn := rfl) w1) ?_
  refine Do_of (hs.loadP (u := u8 0) Tryz.underlying5 rfl rfl) ?_
  refine Do_build1L (vs := [u8 0]) Tryz.underlying22 row8 (one_cons rfl one_nil) rfl rfl (by decide) (by decide) fun w2 n2 => ?_
  have h2 := h1.ext n2.ext
  refine DoN_pu pu_nilptr ?_
  refine Do_pu (pu_field Tryz.underlying168 rfl (n := 1) (o := 0) (by kernel_rfl) rfl) ?_
  refine Do_pu (pu_field Tryz.underlying58 rfl (n := 0) (o := 1) (by kernel_rfl) rfl) ?_
  refine Do_load Tryz.underlying56 rfl (h2.cell 1) ?_
  refine DoN_pu (pu_len Tryz.underlying56 (Sees.nil w2)) ?_
  refine ⟨fun _ xs z => xs = [.slice (some ⟨w1.heap.size, 0, none⟩) 1 1, i64 0] ∧ z = w2, ⟨0, rfl, rfl⟩, ?_⟩
  rintro m1 x3 x23 j1 w16 ⟨hx, rfl⟩
  obtain ⟨rfl, rfl⟩ : x3 = .slice (some ⟨w1.heap.size, 0, none⟩) 1 1 ∧ x23 = i64 0 := by simpa using hx
  exact Do_pu pu_lss (CondV_if (fun h => by omega) fun _ => Ret.of ⟨(Own.new (s := 1) n2 rfl (by decide)).sees, n1.ext.trans n2.ext, fun g hg => by cases hg; exact n1.ext.size⟩)
theorem backward0_c (w : World) : Calls Tryz.prog 108 #[nilS_] w (Ret fun v w' => v = .func (.func 144) #[] #[ptr w.heap.size] ∧ Blk w' w.heap.size [nilS_] 55 ∧ Ext w w') := by
  refine vc_slices_Backward_byte_byte ?_
  unfold V_slices_Backward_byte_byte
  refine Do_box (l := [nilS_]) rfl fun w1 n1 => ?_
  refine Do_of (v := .func (.func 144) #[] #[ptr w.heap.size]) (w' := w1) rfl ?_
  exact Ret.of ⟨rfl, n1.blk, n1.ext⟩
theorem backwardS0_c {w : World} {b : Nat} (h : Blk w b [nilS_] 55) (y : Value) : Calls Tryz.prog 144 #[y, ptr b] w (Ret fun _ w' => w' = w) := by
  refine vc_slices_Backward_byte_byte__S1 ?_
  unfold V_slices_Backward_byte_byte__S1
  refine Do_load Tryz.underlying55 rfl (h.cell 0) ?_
  refine DoN_pu (pu_len Tryz.underlying55 (Sees.nil w)) ?_
  refine Do_pu (pu_isub (by omega) (by omega)) ?_
  refine ⟨fun _ xs z => xs = [i64 ((0 : Nat) - 1)] ∧ z = w, ⟨0, rfl, rfl⟩, ?_⟩
  rintro m1 x3 j1 w2 ⟨hx, rfl⟩
  obtain rfl : x3 = i64 ((0 : Nat) - 1) := by simpa using hx
  exact Do_pu pu_geq (CondV_if (fun h => by omega) fun _ => Ret.of rfl)
theorem CallV_any {yv : Value} {xs : List Value} {w : World} {K : Value → World → Prop} {Kp : List PanicEntry → World → Prop} {Q : Value → World → Prop} (h : CallV Tryz.prog yv xs w Q fun _ _ => False) (hk : ∀ v z, Q v z → K v z) : CallV Tryz.prog yv xs w K Kp :=
  CallV_mono hk (fun _ _ h => h.elim) h
/-- The shard's text. -/
abbrev topT (n : Nat) : List UInt8 := [4, UInt8.ofNat n] ++ shaS [0]
/-- What the one who is called back may change: S, which is old; what is newer than the first call. -/
abbrev Mine (S : Nat → Prop) (z0 : World) (k : Nat) : Prop := S k ∨ z0.heap.size ≤ k
set_option maxRecDepth 20000 in
theorem up0_c {w : World} {yv : Value} {b g n : Nat} {key : List UInt8} (hk : Laid w) (hb : Blk w b [ptr g] 128) (hg : WalkAt w g n key) (hn : n < 4) (hy1 : yv.oneCell' = true) (S : Nat → Prop)
    (hS : ¬ S b ∧ ¬ S g ∧ ¬ S 2 ∧ ¬ S 0 ∧ ∀ k, S k → k < w.heap.size) {Fin : World → World → Prop}
    (hy : ∀ z0 v0, Ext w z0 → SeesB z0 v0 [0] → (∀ k, v0.ownBlock = some k → w.heap.size ≤ k) → CallV Tryz.prog yv [v0] z0 (fun r z1 => r = .bool true ∧ Chg z0 z1 (Mine S z0) ∧
      ∀ z2 v1, Ext z1 z2 → SeesB z2 v1 (topT n) → (∀ k, v1.ownBlock = some k → z1.heap.size ≤ k) → CallV Tryz.prog yv [v1] z2 (fun _ z3 => Chg z2 z3 (Mine S z0) ∧ Fin z0 z3) fun _ _ => False) fun _ _ => False) :
    Calls Tryz.prog 106 #[yv, ptr b] w (Ret fun _ w' => ∃ z0 z3 m o, Ext w z0 ∧ Chg w z3 (fun k => S k) ∧ Fin z0 z3 ∧ w.heap.size ≤ m ∧ m < z0.heap.size ∧ z0.heap.size ≤ z3.heap.size ∧ w' = z3.putObj m o) := by
  obtain ⟨hSb, hSg, hS1, hS2, hSo⟩ := hS
  refine vc_proof_walk_up_S1 ?_
  unfold V_proof_walk_up_S1
  refine Do_box (l := [yv]) (by rw [cells1 hy1]) fun w1 n1 => ?_
  refine Do_load Tryz.underlying128 rfl ((hb.ext n1.ext).cell 0) ?_
  refine CallS_r (end0_c (hg.ext n1.ext)) fun x8 w3 hh => ?_
  obtain ⟨hs8, hx3, hl8⟩ := hh
  have hX3 : Ext w w3 := n1.ext.trans hx3
  refine Do_alloc (l := [nilS_]) (by kernel_rfl) fun w4 n4 => ?_
  refine DoU_store (by kernel_rfl) n4.blk (by simp) (Sees.one hs8) fun w5 hb5 hg5 => ?_
  have hX5 : Ext w w5 := (hX3.trans n4.ext).grown hg5 fun k e => by cases e; exact hX3.size
  have hs85 : SeesB w5 x8 [0] := Sees.kept (hs8.ext n4.ext) hg5 fun k e hv => by cases e; have := hs8.lt (by simp) hv; omega
  have hb2 : ∀ {z}, Ext w5 z → Blk z w.heap.size [yv] 135 := fun hz => ((n1.blk.ext (hx3.trans n4.ext)).kept hg5 fun e => by have := Option.some.inj e; have := n1.blk.lt; have := hx3.size; omega).ext hz
  refine Do_load Tryz.underlying128 rfl ((hb.ext hX5).cell 0) ?_
  refine DoN_pu pu_nilptr ?_
  refine Do_pu (pu_field Tryz.underlying168 rfl (n := 1) (o := 0) (by kernel_rfl) rfl) ?_
  refine Do_pu (pu_field Tryz.underlying58 rfl (n := 0) (o := 0) (by kernel_rfl) rfl) ?_
  refine Do_load Tryz.underlying55 rfl ((hg.ext hX5).cell 0) ?_
  refine CallS_r (backward0_c w5) fun x14 w11 hh => ?_
  obtain ⟨rfl, hb11, hx11⟩ := hh
  refine ⟨by kernel_rfl, fun Rec _ => ?_⟩
  have hbx := begun_ext w11 Rec
  refine CallS_r (backwardS0_c (hb11.ext hbx) _) fun _ z hh => ?_
  obtain rfl := hh
  refine .on (begun_rec w11 Rec) ?_
  generalize hz0 : (begunW w11 Rec).putObj (w11.heap.size + 1) (Rec .exhausted none) = z0
  have hx0 : Ext w11 z0 := by
    rw [← hz0]
    exact hbx.chg (put_chg _ _ _) fun k e => by omega
  have hm0 : z0.heap[w11.heap.size]? = some (.deferred (some [])) := by rw [← hz0]; exact Chg.heap (begun_mark w11 Rec) (put_chg _ _ _) (by omega)
  have hs0 : z0.heap.size = w11.heap.size + 2 := by rw [← hz0]; simp [begun_size]
  have hX0 : Ext w z0 := hX5.trans (hx11.trans hx0)
  have hX50 : Ext w5 z0 := hx11.trans hx0
  refine Do_load Tryz.underlying135 rfl ((hb2 hX50).cell 0) ?_
  refine Do_load Tryz.underlying22 rfl ((hb5.ext hX50).cell 0) ?_
  have hsz1 := n1.size
  have hsz3 := hx3.size
  have hsz4 := n4.size
  have hsz5 := hg5.size
  have hsz11 := hx11.size
  refine CallV_any (hy z0 x8 hX0 (hs85.ext hX50) fun k e => by have := hl8 k e; have := n1.ext.size; omega) fun r z1 hh => ?_
  obtain ⟨rfl, hc1, hy2⟩ := hh
  have out : ∀ k, k < z0.heap.size → w.heap.size ≤ k → ¬ Mine S z0 k := fun k h1 h2 h => h.elim (fun h => by have := hSo k h; omega) fun h => by omega
  have old : ∀ k, k < w.heap.size → ¬ S k → ¬ Mine S z0 k := fun k h1 h2 h => h.elim h2 fun h => by have := hX0.size; omega
  have hgl := hg.lt
  have hbl := hb.lt
  refine CondT ?_
  have hb2' : ∀ {z}, Ext z1 z → Blk z w.heap.size [yv] 135 := fun hz => ((hb2 hX50).chg hc1 (out _ (by have := hX0.size; omega) (Nat.le_refl _))).ext hz
  have hbb : ∀ {z}, Ext z1 z → Blk z b [ptr g] 128 := fun hz => ((hb.ext hX0).chg hc1 (old _ hbl hSb)).ext hz
  have hgg : ∀ {z}, Ext z1 z → WalkAt z g n key := fun hz => ((hg.ext hX0).chg hc1 (old _ hgl hSg)).ext hz
  have hb5' : ∀ {z}, Ext z1 z → Blk z w3.heap.size [x8] 22 := fun hz => ((hb5.ext hX50).chg hc1 (out _ (by have := (hb5.ext hX50).lt; omega) (by have := hX3.size; omega))).ext hz
  have hs8' : ∀ {z}, Ext z1 z → SeesB z x8 [0] := fun hz => SeesB.ext (Sees.chg (hs85.ext hX50) hc1 fun _ k hk' => out k (by have := hs8.lt (by simp) hk'; omega) (by have := hl8 k hk'; omega)) hz
  have hk0 := hk.ext hX0
  have hk1 : Laid z1 := hk0.chg hc1 (old _ (World.block_lt_of_cell? w _ (hk.k 0 (by omega))) hS1) (old _ (World.block_lt_of_cell? w _ (hk.v0 0 (by omega))) hS2)
  refine ⟨Ext, fun i v z => (i = 5 → v = u8 (UInt8.ofNat n)) ∧ (i = 6 → SeesB z v [4, UInt8.ofNat n]) ∧ (i = 8 → ∃ vs, Sees z v 1 vs ∧ AllSee z vs [[0]]) ∧ (i = 9 → SeesB z v (shaS [0])) ∧ (i = 10 → ∃ vs, Sees z v 2 vs ∧ AllSee z vs [[4, UInt8.ofNat n], shaS [0]]) ∧ (i = 11 → SeesB z v (topT n) ∧ ∀ k, v.ownBlock = some k → z1.heap.size ≤ k), Pre.ext,
    fun i v z z' hx h => ⟨h.1, fun e => (h.2.1 e).ext hx, fun e => let ⟨vs, a, b⟩ := h.2.2.1 e; ⟨vs, a.ext hx, b.ext hx⟩, fun e => (h.2.2.2.1 e).ext hx, fun e => let ⟨vs, a, b⟩ := h.2.2.2.2.1 e; ⟨vs, a.ext hx, b.ext hx⟩, fun e => ⟨(h.2.2.2.2.2 e).1.ext hx, (h.2.2.2.2.2 e).2⟩⟩, ?_⟩
  have xd : ∀ {z}, Ext z1.drew z → Ext z1 z := fun hz => (Ext.drew _).trans hz
  refine PureQ_load Tryz.underlying135 rfl (fun z hz => (hb2' (xd hz.1)).cell 0) ?_
  refine PureQ_load Tryz.underlying128 rfl (fun z hz => (hbb (xd hz.1)).cell 0) ?_
  refine PureN_pu pu_nilptr ?_
  refine PureQ_pu (pu_field Tryz.underlying168 rfl (n := 0) (o := 2) (by kernel_rfl) rfl) ?_
  refine PureQ_load Tryz.underlying3 rfl (fun z hz => (hgg (xd hz.1)).cell 2) ?_
  refine ⟨fun z hz _ => Do_pu (pu_conv Tryz.underlying3 Tryz.underlying5) ⟨Ext.refl _, fun _ => u8_wrap n, fun e => by (cases e), fun e => by (cases e), fun e => by (cases e), fun e => by (cases e), fun e => by (cases e)⟩, fun x54 => ?_⟩
  refine ⟨fun z hz hf => ?_, fun x55 => ?_⟩
  · have h5 := hf.1.1 rfl
    subst h5
    refine Do_build1L (vs := [u8 4, u8 (UInt8.ofNat n)]) Tryz.underlying22 row8 (one_cons rfl (one_cons rfl one_nil)) rfl rfl (by decide) (by decide) fun z' nz => ?_
    exact ⟨nz.ext, fun e => by (cases e), fun _ => (Own.new (s := 1) nz rfl (by decide)).sees, fun e => by (cases e), fun e => by (cases e), fun e => by (cases e), fun e => by (cases e)⟩
  refine PureQ_load Tryz.underlying22 rfl (fun z hz => (hb5' (xd hz.1)).cell 0) ?_
  refine ⟨fun z hz _ => ?_, fun x57 => ?_⟩
  · refine Do_build1L (vs := [x8]) Tryz.underlying55 rowBytes (one_cons (Sees.one hs8) one_nil) rfl rfl (by decide) (by decide) fun z' nz => ?_
    exact ⟨nz.ext, fun e => by (cases e), fun e => by (cases e), fun _ => ⟨_, (Own.new (s := 1) nz rfl (by decide)).sees, .cons ((hs8' (xd hz)).ext nz.ext) (.nil _)⟩, fun e => by (cases e), fun e => by (cases e), fun e => by (cases e)⟩
  refine ⟨fun z hz hf => ?_, fun x58 => ?_⟩
  · obtain ⟨vs, hv, ha⟩ := hf.1.2.2.1 rfl
    refine CallS_r (shaSum_c (parts := [[0]]) (hk1.ext (xd hz)) hv ha.len ha.at_ (by decide)) fun v z' hh => ?_
    obtain ⟨ho, hx', _⟩ := hh
    have e : ([[0]] : List (List UInt8)).flatten = [0] := rfl
    rw [e] at ho
    have hsv : SeesB z' v (shaS [0]) := by unfold SeesB; rw [noneS_len]; exact ho.sees
    exact ⟨hx', fun e => by (cases e), fun e => by (cases e), fun e => by (cases e), fun _ => hsv, fun e => by (cases e), fun e => by (cases e)⟩
  refine ⟨fun z hz hf => ?_, fun x59 => ?_⟩
  · have h58 := hf.1.2.2.2.1 rfl
    have h55 := hf.2.2.1.2.1 rfl
    refine Do_build1L (vs := [x55, x58]) Tryz.underlying55 rowBytes (one_cons (Sees.one h55) (one_cons (Sees.one h58) one_nil)) rfl rfl (by decide) (by decide) fun z' nz => ?_
    exact ⟨nz.ext, fun e => by (cases e), fun e => by (cases e), fun e => by (cases e), fun e => by (cases e), fun _ => ⟨_, (Own.new (s := 1) nz rfl (by decide)).sees, .cons (h55.ext nz.ext) (.cons (h58.ext nz.ext) (.nil _))⟩, fun e => by (cases e)⟩
  refine ⟨fun z hz hf => ?_, fun x60 => ?_⟩
  · obtain ⟨vs, hv, ha⟩ := hf.1.2.2.2.2.1 rfl
    refine CallS_r (join_c (parts := [[4, UInt8.ofNat n], shaS [0]]) hv ha (by simp [noneS_len])) fun v z' hh => ?_
    obtain ⟨ho, hx', hlt⟩ := hh
    have e : ([[4, UInt8.ofNat n], shaS [0]] : List (List UInt8)).flatten = topT n := by simp
    rw [e] at ho
    exact ⟨hx', fun e => by (cases e), fun e => by (cases e), fun e => by (cases e), fun e => by (cases e), fun e => by (cases e), fun _ => ⟨ho.sees, fun k e => by have := hlt k e; have := (xd hz).size; omega⟩⟩
  intro z2 hz2 hf
  obtain ⟨h60, hl60⟩ := hf.1.2.2.2.2.2 rfl
  refine CallV_any (hy2 z2 x60 (xd hz2) h60 hl60) fun _ z3 hh => ?_
  obtain ⟨hc3, hfin⟩ := hh
  have hm3 : z3.heap[w11.heap.size]? = some (.deferred (some [])) := Chg.heap (Ext.heap (Chg.heap hm0 hc1 (out _ (by omega) (by have := hX5.size; omega))) (xd hz2)) hc3 (out _ (by omega) (by have := hX5.size; omega))
  refine EndV_mark hm3 (EndV_ret (Ret.of ⟨z0, z3, w11.heap.size, _, hX0, ?_, hfin, by have := hX5.size; omega, by omega, by have := hc1.size; have := (xd hz2).size; have := hc3.size; omega, rfl⟩))
  have hcw : Chg w z1 S := ((Chg.refl w S).ext hX0).trans hc1 fun k hk' h => h.elim id fun h => by have := hX0.size; omega
  exact (hcw.ext (xd hz2)).trans hc3 fun k hk' h => h.elim id fun h => by have := hX0.size; omega
end Go.Proofs.YtpdceilhgaladaaGreatDoor
