/- Trees that aren't there; bytes that are alike. -/
import Derived.Test.YtpdceilhgaladaaGreatDoorTree
import Derived.Test.YtpdceilhgaladaaGreatDoorData
namespace Go.Proofs.YtpdceilhgaladaaGreatDoor
open Go.Vc Go.Vc.Sha Go.RowKit
theorem sameBytes_c {w : World} {u v : Value} {a b : List UInt8} (hu : SeesB w u a) (hv : SeesB w v b) :
    Calls Tryz.prog 46 #[u, v] w (Ret fun r w' => r = .bool (a == b) ∧ Ext w w') := by
  refine vc_buttresskit_SameBytes ?_
  unfold V_buttresskit_SameBytes
  have hal := hu.len
  have hbl := hv.len
  refine DoN_pu (pu_len Tryz.underlying22 hu) ?_
  refine DoN_pu (pu_len Tryz.underlying22 hv) ?_
  refine Do_pu pu_neq (CondV_b (fun hc => ?_) fun hc => ?_)
  · refine Ret.of ⟨?_, Ext.refl _⟩
    have hne : a ≠ b := fun e => by subst e; simp at hc
    rw [beq_eq_false_iff_ne.2 hne]
  have hab : a.length = b.length := by simp at hc; omega
  refine ⟨fun m xs w' => ∃ i : Nat, xs = [i64 i] ∧ m + i = a.length ∧ Ext w w' ∧ a.take i = b.take i, ⟨a.length, 0, rfl, rfl, Ext.refl _, rfl⟩, ?_⟩
  rintro m1 x5 j1 w4 ⟨i, hx, hm, hx4, htk⟩
  obtain rfl : x5 = i64 i := by simpa using hx
  refine DoN_pu (pu_len Tryz.underlying22 hu) ?_
  refine Do_pu pu_lss (CondV_if (fun hi => ?_) fun hi => ?_)
  · have hia : i < a.length := by omega
    have hib : i < b.length := by omega
    refine ⟨Ext, fun _ _ _ => True, Pre.ext, fun _ _ _ _ _ _ => trivial, ?_⟩
    refine PureQ_pu (Sees.indexP (i := i) (s := 1) hu Tryz.underlying22 (by kernel_rfl) hia) ?_
    refine PureQ_at (v := u8 a[i]) (fun z hz => (Sees.ext hu (hx4.trans ((Ext.drew _).trans hz.1))).loadP Tryz.underlying5 rfl (by simp [hia])) ?_
    refine PureQ_pu (Sees.indexP (i := i) (s := 1) hv Tryz.underlying22 (by kernel_rfl) hib) ?_
    refine PureQ_at (v := u8 b[i]) (fun z hz => (Sees.ext hv (hx4.trans ((Ext.drew _).trans hz.1))).loadP Tryz.underlying5 rfl (by simp [hib])) ?_
    intro w7 hx7 _
    have hx7' : Ext w w7 := hx4.trans ((Ext.drew _).trans hx7)
    refine Do_pu pu_neq (CondV_b (fun hc => ?_) fun hc => ?_)
    · refine Ret.of ⟨?_, hx7'⟩
      have hne : a ≠ b := fun e => by subst e; simp at hc
      rw [beq_eq_false_iff_ne.2 hne]
    · have he : a[i] = b[i] := by
        simp only [bne_eq_false_iff_eq] at hc
        exact UInt8.toNat_inj.1 (by omega)
      refine Do_pu (pu_iadd (by omega) (by omega)) ?_
      refine ⟨m1 - 1, by omega, i + 1, by simp, by omega, hx7', ?_⟩
      rw [List.take_add_one, List.take_add_one, htk, List.getElem?_eq_getElem hia, List.getElem?_eq_getElem hib, he]
  · refine Ret.of ⟨?_, hx4⟩
    have he : a = b := by rw [← List.take_of_length_le (show a.length ≤ i by omega), htk, List.take_of_length_le (by omega)]
    rw [beq_iff_eq.2 he]

/-- A tree that isn't there. -/
def Nope (w : World) (p : Value) : Prop := p = .pointer none ∨ ∃ t a b c, p = ptr t ∧ Blk w t [a, b, c, .map none] 36
theorem Nope.ext {w w' : World} {p : Value} (h : Nope w p) (hx : Ext w w') : Nope w' p := h.imp id fun ⟨t, a, b, c, e, hb⟩ => ⟨t, a, b, c, e, hb.ext hx⟩
theorem nope_c {w : World} {p : Value} (h : Nope w p) : Calls Tryz.prog 47 #[p] w (Ret fun v w' => v = .bool false ∧ w' = w) := by
  rcases h with rfl | ⟨t, a, b, c, rfl, hb⟩
  · exact thereNil_c
  · exact there_c hb
theorem nopePut_c {w : World} {p : Value} (h : Nope w p) (l : Value) : Calls Tryz.prog 19 #[p, l] w (Ret fun v w' => v = i64 1 ∧ w' = w) := by
  refine vc_merkle_Tree_Put ?_
  unfold V_merkle_Tree_Put
  exact CallS_v (nope_c h) (Do_pu pu_not (CondT (Ret.of ⟨rfl, rfl⟩)))
theorem nopeGet_c {w : World} {p : Value} (h : Nope w p) (l : Value) : Calls Tryz.prog 20 #[p, l] w (Ret fun v w' => v = nilS_ ∧ w' = w) := by
  refine vc_merkle_Tree_Get ?_
  unfold V_merkle_Tree_Get
  exact CallS_v (nope_c h) (Do_pu pu_not (CondT (Ret.of ⟨rfl, rfl⟩)))
theorem nopeShard_c {w : World} {p : Value} (h : Nope w p) : Calls Tryz.prog 21 #[p] w (Ret fun v w' => v = i64 (-1) ∧ w' = w) := by
  refine vc_merkle_Tree_Shard ?_
  unfold V_merkle_Tree_Shard
  exact CallS_v (nope_c h) (Do_pu pu_not (CondT (Ret.of ⟨rfl, rfl⟩)))
theorem nopeTop_c {w : World} {p : Value} (h : Nope w p) : Calls Tryz.prog 22 #[p] w (Ret fun v w' => v = nilS_ ∧ w' = w) := by
  refine vc_merkle_Tree_Top ?_
  unfold V_merkle_Tree_Top
  exact CallS_v (nope_c h) (Do_pu pu_not (CondT (Ret.of ⟨rfl, rfl⟩)))
theorem nopeSum_c {w : World} {p : Value} (h : Nope w p) (l : Value) : Calls Tryz.prog 23 #[p, l] w (Ret fun v w' => v = nilS_ ∧ w' = w) := by
  refine vc_merkle_Tree_Sum ?_
  unfold V_merkle_Tree_Sum
  exact CallS_v (nope_c h) (Do_pu pu_not (BoolT (Ret.of ⟨rfl, rfl⟩)))
theorem nopeLeaves_c {w : World} {p : Value} (h : Nope w p) : Calls Tryz.prog 25 #[p] w (Ret fun v w' => v = nilS_ ∧ w' = w) := by
  refine vc_merkle_Tree_Leaves ?_
  unfold V_merkle_Tree_Leaves
  exact CallS_v (nope_c h) (Do_pu pu_not (CondT (Ret.of ⟨rfl, rfl⟩)))
theorem nopeCopy_c {w : World} {p : Value} (h : Nope w p) : Calls Tryz.prog 26 #[p] w (Ret fun v w' => v = .pointer none ∧ w' = w) := by
  refine vc_merkle_Tree_Copy ?_
  unfold V_merkle_Tree_Copy
  exact CallS_v (nope_c h) (Do_pu pu_not (CondT (Ret.of ⟨rfl, rfl⟩)))
theorem nopeNode_c {w : World} {p : Value} (h : Nope w p) (l : Value) : Calls Tryz.prog 18 #[p, l] w (Ret fun v w' => v = .tuple #[zeroN, i64 1] ∧ Ext w w') := by
  refine vc_merkle_Tree_Node ?_
  unfold V_merkle_Tree_Node
  refine Do_alloc (l := [.int .u8 0, .slice none 0 0, .slice none 0 0, .slice none 0 0]) (by kernel_rfl) fun w1 n1 => ?_
  refine CallS_v (nope_c (h.ext n1.ext)) ?_
  refine Do_pu pu_not (CondT ?_)
  refine Do_of (run_buildS (cells := [.int .u8 0, nilS_, nilS_, nilS_]) Tryz.underlying52 (zero := [.int .u8 0, .slice none 0 0, .slice none 0 0, .slice none 0 0]) (by kernel_rfl) (by kernel_rfl) (by kernel_rfl) _) ?_
  refine DoU_storeAgg (by kernel_rfl) n1.blk (by decide) (one_cons rfl (one_cons rfl (one_cons rfl (one_cons rfl one_nil)))) fun w9 hb9 hg9 => ?_
  exact ⟨[zeroN, i64 1], ⟨⟨_, rfl, run_loadVarAgg Tryz.underlying52 rfl (by kernel_rfl) (hb9.whole (by decide)).all⟩, rfl, trivial⟩, Ret.of ⟨rfl, n1.ext.grown hg9 (fun k e => by cases e; exact Nat.le_refl _)⟩⟩
theorem sameLeaves0_c (w : World) : Calls Tryz.prog 60 #[nilS_, nilS_] w (Ret fun v w' => v = .bool true ∧ w' = w) := by
  refine vc_buttresskit_SameLeaves ?_
  unfold V_buttresskit_SameLeaves
  refine DoN_pu (pu_len Tryz.underlying30 (Sees.nil w)) ?_
  refine DoN_pu (pu_len Tryz.underlying30 (Sees.nil w)) ?_
  refine Do_pu pu_neq (CondV_b (fun hc => by simp at hc) fun hc => ?_)
  refine ⟨fun m xs w' => xs = [i64 0] ∧ w' = w, ⟨0, rfl, rfl⟩, ?_⟩
  rintro m1 x13 j1 w7 ⟨hI, rfl⟩
  obtain rfl : x13 = i64 0 := by simpa using hI
  refine DoN_pu (pu_len Tryz.underlying30 (Sees.nil w7)) ?_
  exact Do_pu pu_lss (CondV_b (fun hc => by simp at hc) fun hc => Ret.of ⟨rfl, rfl⟩)
theorem sameNode0_c (w : World) : Calls Tryz.prog 24 #[zeroN, zeroN] w (Ret fun v w' => v = .bool true ∧ Ext w w') := by
  refine vc_buttresskit_SameNode ?_
  unfold V_buttresskit_SameNode
  refine Do_box (l := [.int .u8 0, nilS_, nilS_, nilS_]) rfl fun w1 n1 => ?_
  refine Do_box (l := [.int .u8 0, nilS_, nilS_, nilS_]) rfl fun w2 n2 => ?_
  have l1 : ∀ {z : World} (i : Nat), Ext w2 z → z.cell? ⟨w.heap.size, i, none⟩ = [.int .u8 0, nilS_, nilS_, nilS_][i]? := fun i hz => n1.blk.at (n2.ext.trans hz) i
  have l2 : ∀ {z : World} (i : Nat), Ext w2 z → z.cell? ⟨w1.heap.size, i, none⟩ = [.int .u8 0, nilS_, nilS_, nilS_][i]? := fun i hz => n2.blk.at hz i
  refine Do_pu (pu_field Tryz.underlying52 rfl (n := 0) (o := 0) (by kernel_rfl) rfl) ?_
  refine Do_load Tryz.underlying50 rfl ((l1 _ (Ext.refl _)).trans rfl) ?_
  refine Do_pu (pu_field Tryz.underlying52 rfl (n := 0) (o := 0) (by kernel_rfl) rfl) ?_
  refine Do_load Tryz.underlying50 rfl ((l2 _ (Ext.refl _)).trans rfl) ?_
  refine Do_pu pu_eql (BoolS (fun _ => ?_) fun h => by simp at h)
  refine Do_pu (pu_field Tryz.underlying52 rfl (n := 0) (o := 1) (by kernel_rfl) rfl) ?_
  refine Do_load Tryz.underlying22 rfl ((l1 _ (Ext.refl _)).trans rfl) ?_
  refine Do_pu (pu_field Tryz.underlying52 rfl (n := 0) (o := 1) (by kernel_rfl) rfl) ?_
  refine Do_load Tryz.underlying22 rfl ((l2 _ (Ext.refl _)).trans rfl) ?_
  refine CallS_r (sameBytes_c SeesB.nil SeesB.nil) fun x15 w12 hh => ?_
  obtain ⟨rfl, hx12⟩ := hh
  refine BoolT ?_
  refine Do_pu (pu_field Tryz.underlying52 rfl (n := 0) (o := 2) (by kernel_rfl) rfl) ?_
  refine Do_load Tryz.underlying22 rfl ((l1 _ hx12).trans rfl) ?_
  refine Do_pu (pu_field Tryz.underlying52 rfl (n := 0) (o := 2) (by kernel_rfl) rfl) ?_
  refine Do_load Tryz.underlying22 rfl ((l2 _ hx12).trans rfl) ?_
  refine CallS_r (sameBytes_c SeesB.nil SeesB.nil) fun x22 w17 hh => ?_
  obtain ⟨rfl, hx17⟩ := hh
  refine BoolT ?_
  refine Do_pu (pu_field Tryz.underlying52 rfl (n := 0) (o := 3) (by kernel_rfl) rfl) ?_
  refine Do_load Tryz.underlying30 rfl ((l1 _ (hx12.trans hx17)).trans rfl) ?_
  refine Do_pu (pu_field Tryz.underlying52 rfl (n := 0) (o := 3) (by kernel_rfl) rfl) ?_
  refine Do_load Tryz.underlying30 rfl ((l2 _ (hx12.trans hx17)).trans rfl) ?_
  refine CallS_v (sameLeaves0_c w17) ?_
  exact Ret.of ⟨rfl, n1.ext.trans (n2.ext.trans (hx12.trans hx17))⟩
end Go.Proofs.YtpdceilhgaladaaGreatDoor
