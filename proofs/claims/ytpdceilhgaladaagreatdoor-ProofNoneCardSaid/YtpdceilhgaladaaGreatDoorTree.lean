/- A tree without leaves: package merkle's New, Sum, Top, Node. -/
import Derived.Test.YtpdceilhgaladaaGreatDoorTrim
namespace Go.Proofs.YtpdceilhgaladaaGreatDoor
open Go.Vc Go.Vc.Sha Go.RowKit
abbrev noneS : List UInt8 := shaS [0]
theorem noneS_len : noneS.length = 64 := by decide +kernel
abbrev nilS_ : Value := .slice none 0 0
theorem rowInt : rowIs Tryz.prog 3 1 8 [i64 0] := rowIs_of (by kernel_rfl)
theorem rowLeaf : rowIs Tryz.prog 83 2 40 [str [], nilS_] := rowIs_of (by kernel_rfl)

theorem there_c {w : World} {t : Nat} {a b c : Value} {m : Option Nat} (hb : Blk w t [a, b, c, .map m] 36) :
    Calls Tryz.prog 47 #[ptr t] w (Ret fun v w' => v = .bool m.isSome ∧ w' = w) := by
  refine vc_merkle_Tree_there ?_
  unfold V_merkle_Tree_there
  refine Do_pu (pu_ptrne Tryz.underlying28) (BoolS (fun _ => ?_) fun h => by cases h)
  refine DoN_pu pu_nilptr ?_
  refine Do_pu (pu_field Tryz.underlying36 rfl (n := 0) (o := 3) (by kernel_rfl) rfl) ?_
  refine Do_load Tryz.underlying34 rfl ((hb.cell _).trans rfl) ?_
  refine Do_pu (pu_mapne Tryz.underlying34) (Ret.of ⟨rfl, rfl⟩)
theorem thereNil_c {w : World} : Calls Tryz.prog 47 #[.pointer none] w (Ret fun v w' => v = .bool false ∧ w' = w) := by
  refine vc_merkle_Tree_there ?_
  unfold V_merkle_Tree_there
  exact Do_pu (pu_ptrne Tryz.underlying28) (BoolS (fun h => by cases h) fun _ => Ret.of ⟨rfl, rfl⟩)

/-- A tree of a shard without leaves: its block, its map's; the digests that were asked so far. -/
structure Empty (w : World) (t m : Nat) (sh : Int) : Prop where
  lo : 2 ≠ m ∧ 0 ≠ m
  blk : Blk w t [nilS_, nilS_, i64 sh, .map (some m)] 36
  ne : t ≠ m
  map : ∃ es clock, MapB w m es clock ∧ MapKept.Stamped es.toArray clock ∧ ∀ e ∈ es, (∃ l, e.key = str l) ∧ Sees w e.val 64 (noneS.map u8) ∧ ∀ g, e.val.ownBlock = some g → g ≠ t ∧ g ≠ m
theorem Empty.ext {w w' : World} {t m : Nat} {sh : Int} (h : Empty w t m sh) (hx : Ext w w') : Empty w' t m sh := by
  obtain ⟨es, clock, hm, hst, he⟩ := h.map
  exact ⟨h.lo, h.blk.ext hx, h.ne, es, clock, hm.ext hx, hst, fun e h' => ⟨(he e h').1, (he e h').2.1.ext hx, (he e h').2.2⟩⟩
theorem Empty.lt {w : World} {t m : Nat} {sh : Int} (h : Empty w t m sh) : t < w.heap.size ∧ m < w.heap.size := by
  obtain ⟨es, clock, hm, _⟩ := h.map
  exact ⟨h.blk.lt, hm.lt⟩

theorem merkleNew_c (sh : Int) {w : World} (hk : Laid w) : Calls Tryz.prog 8 #[i64 sh] w (Ret fun v w' => Ext w w' ∧
    if 0 ≤ sh ∧ sh < 4 then v = ptr (w.heap.size + 1) ∧ Empty w' (w.heap.size + 1) w.heap.size sh ∧ MapB w' w.heap.size [] 0 else v = .pointer none) := by
  refine vc_merkle_New ?_
  unfold V_merkle_New
  refine Do_pu pu_lss (BoolS (fun hc => ?_) fun hc => ?_)
  · have := of_decide_eq_true hc
    exact Ret.of ⟨Ext.refl _, by rw [if_neg (by omega)]⟩
  have h0 := of_decide_eq_false hc
  refine Do_pu pu_geq (CondV_b (fun hc => ?_) fun hc => ?_)
  · have := of_decide_eq_true hc
    exact Ret.of ⟨Ext.refl _, by rw [if_neg (by omega)]⟩
  have h4 := of_decide_eq_false hc
  refine Do_makeMap fun w3 hm hx hs => ?_
  refine Do_of (run_buildS (cells := [nilS_, nilS_, i64 sh, .map (some w.heap.size)]) Tryz.underlying36 (zero := [.slice none 0 0, .slice none 0 0, .int .i64 0, .map none]) (by kernel_rfl) (by kernel_rfl) (by kernel_rfl) _) ?_
  refine Do_box rfl fun w5 n5 => ?_
  refine Ret.of ⟨hx.trans n5.ext, ?_⟩
  rw [if_pos (by omega), ← hs]
  have h1 := World.block_lt_of_cell? w _ (hk.k 0 (by omega))
  have h2 := World.block_lt_of_cell? w _ (hk.v0 0 (by omega))
  simp only at h1 h2
  exact ⟨rfl, ⟨⟨by omega, by omega⟩, n5.blk, by omega, [], 0, hm.ext n5.ext, MapKept.stamped_empty 0, fun e he => by cases he⟩, hm.ext n5.ext⟩

theorem all0_c {w : World} {t : Nat} {b c d : Value} (hb : Blk w t [nilS_, b, c, d] 36) :
    Calls Tryz.prog 51 #[ptr t] w (Ret fun v w' => Sees w' v 0 [] ∧ Ext w w') := by
  refine vc_merkle_row_all ?_
  unfold V_merkle_row_all
  refine DoN_pu pu_nilptr ?_
  refine Do_pu (pu_field Tryz.underlying33 rfl (n := 0) (o := 0) (by kernel_rfl) rfl) ?_
  refine Do_load Tryz.underlying30 rfl ((hb.cell _).trans rfl) ?_
  refine DoN_pu (pu_len Tryz.underlying30 (Sees.nil w)) ?_
  refine Do_makeSlice (l := 0) (c := 0) Tryz.underlying109 rowInt (by omega) (by omega) (by omega) fun w5 n5 => ?_
  have hs : Sees w5 (.slice (some ⟨w.heap.size, 0, none⟩) 0 0) 0 [] := .inr ⟨_, 0, rfl, by omega, by omega, fun j u h => by simp at h⟩
  refine DoN_pu (pu_len Tryz.underlying109 hs) ?_
  refine ⟨fun m xs w' => xs = [i64 0] ∧ w' = w5, ⟨0, rfl, rfl⟩, ?_⟩
  rintro m1 x13 j1 w7 ⟨hI, rfl⟩
  obtain rfl : x13 = i64 0 := by simpa using hI
  refine Do_pu pu_lss (CondV_b (fun hc => by simp at hc) fun hc => ?_)
  exact Ret.of ⟨hs, n5.ext⟩

theorem under0_c {w : World} {t : Nat} {p v : Value} (hv : Sees w v 0 []) :
    Calls Tryz.prog 50 #[ptr t, p, v] w (Ret fun v w' => v = nilS_ ∧ w' = w) := by
  refine vc_merkle_row_under ?_
  unfold V_merkle_row_under
  refine DoN_pu (pu_len Tryz.underlying109 hv) ?_
  refine ⟨fun m xs w' => xs = [nilS_, i64 0] ∧ w' = w, ⟨0, rfl, rfl⟩, ?_⟩
  rintro m1 x7 x12 j1 w2 ⟨hI, rfl⟩
  obtain ⟨rfl, rfl⟩ : x7 = nilS_ ∧ x12 = i64 0 := by simpa using hI
  refine Do_pu pu_lss (CondV_b (fun hc => by simp at hc) fun hc => ?_)
  exact Ret.of ⟨rfl, rfl⟩

abbrev noneN : Value := .agg #[.int .u8 1, nilS_, nilS_, nilS_]

theorem node0_c (t p : Value) (w : World) (ht : t.oneCell' = true) (hp : p.oneCell' = true) :
    Calls Tryz.prog 49 #[t, p, nilS_] w (Ret fun v w' => v = noneN ∧ Ext w w') := by
  refine vc_merkle_Tree_node ?_
  unfold V_merkle_Tree_node
  refine Do_box (l := [t]) (cells1 ht) fun w1 n1 => ?_
  refine Do_box (l := [p]) (cells1 hp) fun w2 n2 => ?_
  refine Do_box (l := [nilS_]) rfl fun w3 n3 => ?_
  refine Do_alloc (l := [.int .u8 0, .slice none 0 0, .slice none 0 0, .slice none 0 0]) (by kernel_rfl) fun w4 n4 => ?_
  refine Do_makeSlice (l := 0) (c := 2) Tryz.underlying30 rowLeaf (by omega) (by omega) (by omega) fun w5 n5 => ?_
  have hx5 : Ext w w5 := n1.ext.trans (n2.ext.trans (n3.ext.trans (n4.ext.trans n5.ext)))
  have hat : w5.cell? ⟨w2.heap.size, 0, none⟩ = some nilS_ := (n3.blk.at (n4.ext.trans n5.ext) _).trans rfl
  refine ⟨fun xs w' => w' = w5, ?_, ?_⟩
  · refine Do_load Tryz.underlying109 rfl hat ?_
    refine DoN_pu (pu_len Tryz.underlying109 (Sees.nil w)) ?_
    refine Do_pu pu_lss (BoolS (fun _ => ?_) fun h => by simp at h)
    refine Do_load Tryz.underlying109 rfl hat ?_
    refine DoN_pu (pu_len Tryz.underlying109 (Sees.nil w)) ?_
    refine ⟨fun m xs w' => (∃ y, xs = [y, i64 0]) ∧ w' = w5, ⟨0, ⟨_, rfl⟩, rfl⟩, ?_⟩
    rintro m1 x7 x22 j1 w11 ⟨⟨y, hI⟩, rfl⟩
    obtain ⟨rfl, rfl⟩ : x7 = y ∧ x22 = i64 0 := by simpa using hI
    exact Do_pu pu_lss (CondV_b (fun hc => by simp at hc) fun hc => rfl)
  rintro x7_2 j3 w38 rfl
  refine Do_load Tryz.underlying109 rfl hat ?_
  refine DoN_pu (pu_len Tryz.underlying109 (Sees.nil w)) ?_
  refine Do_pu pu_eql (CondV_b (fun _ => ?_) fun h => by simp at h)
  refine Do_of (run_buildS (cells := [.int .u8 1, nilS_, nilS_, nilS_]) Tryz.underlying52 (zero := [.int .u8 0, .slice none 0 0, .slice none 0 0, .slice none 0 0]) (by kernel_rfl) (by kernel_rfl) (by kernel_rfl) _) ?_
  refine DoU_storeAgg (by kernel_rfl) (n4.blk.ext n5.ext) (by decide) (one_cons rfl (one_cons rfl (one_cons rfl (one_cons rfl one_nil)))) fun w43 hb43 hg43 => ?_
  exact ⟨[noneN], ⟨⟨_, rfl, run_loadVarAgg Tryz.underlying52 rfl (by kernel_rfl) (hb43.whole (by decide)).all⟩, trivial⟩, Ret.of ⟨rfl, hx5.grown hg43 (fun k e => by cases e; exact (n1.ext.trans (n2.ext.trans n3.ext)).size)⟩⟩

theorem right0_c (w : World) : Calls Tryz.prog 101 #[noneN] w (Ret fun v w' => v = .bool true ∧ Ext w w') := by
  refine vc_merkle_right ?_
  unfold V_merkle_right
  refine Do_box (l := [.int .u8 1, nilS_, nilS_, nilS_]) rfl fun w1 n1 => ?_
  have ld : ∀ {z : World} (i : Nat), Ext w1 z → z.cell? ⟨w.heap.size, i, none⟩ = [.int .u8 1, nilS_, nilS_, nilS_][i]? := fun i hz => n1.blk.at hz i
  refine Do_pu (pu_field Tryz.underlying52 rfl (n := 0) (o := 3) (by kernel_rfl) rfl) ?_
  refine Do_load Tryz.underlying30 rfl ((ld _ (Ext.refl _)).trans rfl) ?_
  refine DoN_pu (pu_len Tryz.underlying30 (Sees.nil w)) ?_
  refine ⟨fun m xs w' => xs = [i64 0] ∧ w' = w1, ⟨0, rfl, rfl⟩, ?_⟩
  rintro m1 x12 j1 w5 ⟨hI, rfl⟩
  obtain rfl : x12 = i64 0 := by simpa using hI
  refine Do_pu pu_lss (CondV_b (fun hc => by simp at hc) fun hc => ?_)
  refine ⟨fun xs w' => xs = [i64 0, .bool false] ∧ Ext w5 w', ?_, ?_⟩
  · refine ⟨Ext, fun _ _ _ => True, Pre.ext, fun _ _ _ _ _ _ => trivial, ?_⟩
    refine PureQ_pu (pu_field Tryz.underlying52 rfl (n := 0) (o := 3) (by kernel_rfl) rfl) ?_
    refine PureQ_load Tryz.underlying30 rfl (fun z hz => (ld _ ((Ext.drew _).trans hz.1)).trans rfl) ?_
    refine PureN_pu (pu_len Tryz.underlying30 (Sees.nil w)) ?_
    refine PureQ_pu (pu_field Tryz.underlying52 rfl (n := 0) (o := 1) (by kernel_rfl) rfl) ?_
    refine PureQ_load Tryz.underlying22 rfl (fun z hz => (ld _ ((Ext.drew _).trans hz.1)).trans rfl) ?_
    refine PureN_pu (pu_len Tryz.underlying22 (Sees.nil w)) ?_
    refine PureQ_pu pu_eql (BoolS (fun h => by simp at h) fun _ => ?_)
    intro w24 hx24 _
    exact ⟨rfl, (Ext.drew _).trans hx24⟩
  rintro x5 x6 j2 w25 ⟨hJ, hx25⟩
  obtain ⟨rfl, rfl⟩ : x5 = i64 0 ∧ x6 = .bool false := by simpa using hJ
  refine Do_pu (pu_field Tryz.underlying52 rfl (n := 0) (o := 0) (by kernel_rfl) rfl) ?_
  refine Do_load Tryz.underlying50 rfl ((ld _ hx25).trans rfl) ?_
  refine Do_pu pu_eql (CondV_b (fun h => by simp at h) fun _ => ?_)
  refine Do_makeMap fun w30 hm30 hx30 _ => ?_
  refine DoU_mapUpdate Tryz.underlying219 Tryz.underlying50 rfl hm30 rfl fun w31 hm31 hg31 => ?_
  refine DoU_mapUpdate Tryz.underlying219 Tryz.underlying50 rfl hm31 rfl fun w32 hm32 hg32 => ?_
  refine DoU_mapUpdate Tryz.underlying219 Tryz.underlying50 rfl hm32 rfl fun w33 hm33 hg33 => ?_
  have hx33 : Ext w5 w33 := (hx25.trans (((hx30.grown hg31 (fun k e => by cases e; exact Nat.le_refl _)).grown hg32 (fun k e => by cases e; exact Nat.le_refl _)).grown hg33 (fun k e => by cases e; exact Nat.le_refl _)))
  refine Do_pu (pu_field Tryz.underlying52 rfl (n := 0) (o := 0) (by kernel_rfl) rfl) ?_
  refine Do_load Tryz.underlying50 rfl ((ld _ hx33).trans rfl) ?_
  refine Do_of (run_lookup (key := .int .u8 1) Tryz.underlying219 Tryz.underlying50 rfl hm33 (i := 0) (v := i64 0) rfl true) ?_
  refine Do_pu (pu_ext rfl) ?_
  refine Do_pu (pu_ext rfl) ?_
  refine BoolS (fun _ => ?_) fun h => by cases h
  refine Do_pu (pu_field Tryz.underlying52 rfl (n := 0) (o := 1) (by kernel_rfl) rfl) ?_
  refine Do_load Tryz.underlying22 rfl ((ld _ hx33).trans rfl) ?_
  refine DoN_pu (pu_len Tryz.underlying22 (Sees.nil w)) ?_
  refine Do_pu (pu_field Tryz.underlying52 rfl (n := 0) (o := 2) (by kernel_rfl) rfl) ?_
  refine Do_load Tryz.underlying22 rfl ((ld _ hx33).trans rfl) ?_
  refine DoN_pu (pu_len Tryz.underlying22 (Sees.nil w)) ?_
  refine Do_pu (pu_iadd (by omega) (by omega)) ?_
  refine Do_pu pu_eql (BoolS (fun _ => ?_) fun h => by simp at h)
  refine Do_pu pu_geq (BoolS (fun _ => ?_) fun h => by simp at h)
  refine Do_pu pu_eql (BoolS (fun _ => ?_) fun h => by simp at h)
  exact Ret.of ⟨rfl, n1.ext.trans hx33⟩

theorem nodeSum0_c {w : World} (hk : Laid w) : Calls Tryz.prog 65 #[noneN] w (Ret fun v w' => Own w' 5 1 v 64 (noneS.map u8) ∧ Ext w w' ∧ Late w v) := by
  refine vc_merkle_NodeSum ?_
  unfold V_merkle_NodeSum
  refine Do_box (l := [.int .u8 1, nilS_, nilS_, nilS_]) rfl fun w1 n1 => ?_
  refine Do_loadAgg (l := [.int .u8 1, nilS_, nilS_, nilS_]) Tryz.underlying52 rfl (by kernel_rfl) n1.blk.all ?_
  refine CallS_r (right0_c w1) fun x7 w3 hh => ?_
  obtain ⟨rfl, hx3⟩ := hh
  have hx3' : Ext w w3 := n1.ext.trans hx3
  have ld : ∀ {z : World} (i : Nat), Ext w3 z → z.cell? ⟨w.heap.size, i, none⟩ = [.int .u8 1, nilS_, nilS_, nilS_][i]? := fun i hz => n1.blk.at (hx3.trans hz) i
  refine Do_pu pu_not (CondF ?_)
  refine ⟨Ext, fun i v z => (i = 0 → Own z 5 1 v 5 [u8 0, u8 0, u8 1, u8 2, u8 3]) ∧ (i = 5 → Own z 5 1 v 1 [u8 0]), Pre.ext, fun i v z z' hx h => ⟨fun e => (h.1 e).ext hx, fun e => (h.2 e).ext hx⟩, ?_⟩
  refine ⟨fun w5 hx _ => ?_, fun x9_1 => ?_⟩
  · refine Do_build1L (vs := [u8 0, u8 0, u8 1, u8 2, u8 3]) Tryz.underlying22 row8 (one_cons rfl (one_cons rfl (one_cons rfl (one_cons rfl (one_cons rfl one_nil))))) rfl rfl (by decide) (by decide) fun w6 n6 => ?_
    exact ⟨n6.ext, And.intro (fun _ => Own.new n6 rfl (by decide)) (fun e => by cases e)⟩
  refine PureQ_pu (pu_field Tryz.underlying52 rfl (n := 0) (o := 0) (by kernel_rfl) rfl) ?_
  refine PureQ_load Tryz.underlying50 rfl (fun z hz => (ld _ ((Ext.drew _).trans hz.1)).trans rfl) ?_
  refine PureQ_at (v := elemP x9_1 1) (fun z hz => ((hz.2.1.1 rfl).sees.indexP (i := 1) (s := 1) Tryz.underlying22 (by kernel_rfl) (by decide)) z) ?_
  refine PureQ_at (v := u8 0) (fun z hz => (hz.2.1.1 rfl).sees.loadP Tryz.underlying5 rfl rfl) ?_
  refine ⟨fun w7 hx _ => ?_, fun x14_1 => ?_⟩
  · refine Do_build1L (vs := [u8 0]) Tryz.underlying22 row8 (one_cons rfl one_nil) rfl rfl (by decide) (by decide) fun w8 n8 => ?_
    exact ⟨n8.ext, And.intro (fun e => by cases e) (fun _ => Own.new n8 rfl (by decide))⟩
  refine PureQ_pu (pu_field Tryz.underlying52 rfl (n := 0) (o := 1) (by kernel_rfl) rfl) ?_
  refine PureQ_load Tryz.underlying22 rfl (fun z hz => (ld _ ((Ext.drew _).trans hz.1)).trans rfl) ?_
  refine PureQ_pu (pu_field Tryz.underlying52 rfl (n := 0) (o := 2) (by kernel_rfl) rfl) ?_
  refine PureQ_load Tryz.underlying22 rfl (fun z hz => (ld _ ((Ext.drew _).trans hz.1)).trans rfl) ?_
  intro w9 hx9 hf
  have ho := hf.1.2 rfl
  have hx9' : Ext w3 w9 := (Ext.drew _).trans hx9
  refine Do_build1L (vs := [x14_1, nilS_, nilS_]) Tryz.underlying55 rowBytes (one_cons ho.sees.one (one_cons rfl (one_cons rfl one_nil))) rfl rfl (by decide) (by decide) fun w10 n10 => ?_
  refine Do_pu (pu_field Tryz.underlying52 rfl (n := 0) (o := 3) (by kernel_rfl) rfl) ?_
  refine Do_load Tryz.underlying30 rfl ((ld _ (hx9'.trans n10.ext)).trans rfl) ?_
  refine DoN_pu (pu_len Tryz.underlying30 (Sees.nil w)) ?_
  refine ⟨fun m xs w' => xs = [.slice (some ⟨w9.heap.size, 0, none⟩) 3 3, i64 0] ∧ w' = w10, ⟨0, rfl, rfl⟩, ?_⟩
  rintro m1 x3 x23 j1 w14 ⟨hI, rfl⟩
  obtain ⟨rfl, rfl⟩ : x3 = .slice (some ⟨w9.heap.size, 0, none⟩) 3 3 ∧ x23 = i64 0 := by simpa using hI
  refine Do_pu pu_lss (CondV_b (fun hc => by simp at hc) fun hc => ?_)
  have hx14 : Ext w w14 := hx3'.trans (hx9'.trans n10.ext)
  have hs : Sees w14 (.slice (some ⟨w9.heap.size, 0, none⟩) 3 3) 3 [x14_1, nilS_, nilS_] := (Own.new (s := 1) n10 rfl (by decide)).sees
  have ha : AllSee w14 [x14_1, nilS_, nilS_] [[0], [], []] := .cons (ho.sees.ext n10.ext) (.cons (Sees.nil _) (.cons (Sees.nil _) (.nil _)))
  refine CallS_r (shaSum_c (parts := [[0], [], []]) (hk.ext hx14) hs ha.len ha.at_ (by decide)) fun x39 w31 hh => ?_
  obtain ⟨ho31, hx31, hl31⟩ := hh
  exact Ret.of ⟨ho31, hx14.trans hx31, fun g hg => Nat.le_trans hx14.size (hl31 g hg)⟩

theorem Laid.chg {w w' : World} {S : Nat → Prop} (h : Laid w) (hc : Chg w w' S) (h0 : ¬ S 2) (h1 : ¬ S 0) : Laid w' :=
  ⟨fun j hj => hc.cell (h.k j hj) h0, fun j hj => hc.cell (h.v0 j hj) h1⟩
/-- What asking a tree without leaves does: its map may grow. -/
def ER (t m : Nat) (sh : Int) (a b : World) : Prop := Chg a b (· = m) ∧ (Empty a t m sh → Empty b t m sh)
theorem ER.pre (t m : Nat) (sh : Int) : Pre (ER t m sh) := ⟨fun w => ⟨Chg.refl _ _, id⟩, fun h k => ⟨h.1.trans k.1 fun _ _ e => e, fun e => k.2 (h.2 e)⟩⟩
theorem ER.ext {t m : Nat} {sh : Int} {a b : World} (h : Ext a b) : ER t m sh a b := ⟨(Chg.refl _ _).ext h, fun e => e.ext h⟩
theorem ER.trans {t m : Nat} {sh : Int} {a b c : World} (h : ER t m sh a b) (k : ER t m sh b c) : ER t m sh a c := (ER.pre t m sh).trans h k
theorem ER.laid {t m : Nat} {sh : Int} {a b : World} (h : ER t m sh a b) (he : Empty a t m sh) (hk : Laid a) : Laid b := hk.chg h.1 he.lo.1 he.lo.2
theorem findNow_str {l : List UInt8} {es : List MapEntry} (h : ∀ e ∈ es, ∃ l, e.key = str l) :
    (Instr.findNow .string (str l) es 0 = some none ∧ ∀ x ∈ es, x.key ≠ str l) ∨ ∃ j e, Instr.findNow .string (str l) es 0 = some (some (0 + j, e.val)) ∧ es[j]? = some e ∧ e.key = str l := by
  rcases MapKept.findNow_spec (d := .string) (k := str l) trivial es 0 (fun e he => by obtain ⟨l, h⟩ := h e he; rw [h]; trivial) with h | h
  · exact .inl h
  · exact .inr h
theorem sum0_c {w : World} {t m : Nat} {sh : Int} (h : Empty w t m sh) (hk : Laid w) (l : List UInt8) (hl : l.length ≤ 70368744177664) :
    Calls Tryz.prog 59 #[ptr t, str l, nilS_] w (Ret fun v w' => ER t m sh w w' ∧ Sees w' v 64 (noneS.map u8) ∧ ∀ g, v.ownBlock = some g → g ≠ t ∧ g ≠ m) := by
  obtain ⟨es, clock, hm, hst, he⟩ := h.map
  have hlt := h.lt
  refine vc_merkle_Tree_sum ?_
  unfold V_merkle_Tree_sum
  refine DoN_pu pu_nilptr ?_
  refine Do_pu (pu_field Tryz.underlying36 rfl (n := 0) (o := 3) (by kernel_rfl) rfl) ?_
  refine Do_load Tryz.underlying34 rfl ((h.blk.cell _).trans rfl) ?_
  rcases findNow_str (l := l) (fun e h' => (he e h').1) with ⟨hf, hnk⟩ | ⟨j, e, hf, hj, hkey⟩
  · refine Do_of (run_lookup_no Tryz.underlying34 Tryz.underlying9 (by trivial) hm hf (z := nilS_) (by kernel_rfl) true) ?_
    refine Do_pu (pu_ext rfl) ?_
    refine Do_pu (pu_ext rfl) ?_
    refine Do_pu pu_not (CondT ?_)
    refine CallS_r (node0_c _ _ w rfl rfl) fun x23 w8 hh => ?_
    obtain ⟨rfl, hx8⟩ := hh
    refine CallS_r (nodeSum0_c (hk.ext hx8)) fun x24 w9 hh => ?_
    obtain ⟨ho9, hx9, hl9⟩ := hh
    have hx : Ext w w9 := hx8.trans hx9
    refine ⟨Ext, fun i v z => i = 5 → v = str l, Pre.ext, fun i v z z' _ h => h, ?_⟩
    refine PureN_pu pu_nilptr ?_
    refine PureQ_pu (pu_field Tryz.underlying36 rfl (n := 0) (o := 3) (by kernel_rfl) rfl) ?_
    refine PureQ_load Tryz.underlying34 rfl (fun z hz => (h.blk.at0 hx _ hz.1).trans rfl) ?_
    refine ⟨fun w10 hx10 _ => CallS_r (strClone_c ⟨l.toArray⟩ hl w10) fun x30 w11 hh => ⟨hh.2, fun _ => hh.1⟩, fun x30_1 => ?_⟩
    intro w12 hx12 hf12
    obtain rfl : x30_1 = str l := hf12.1 rfl
    have hx' : Ext w w12 := hx.trans ((Ext.drew _).trans hx12)
    refine DoU_mapUpdate Tryz.underlying34 Tryz.underlying9 (by trivial) (hm.ext hx') hf fun w13 hm13 hg13 => ?_
    have hne : ∀ g, x24.ownBlock = some g → g ≠ t ∧ g ≠ m := fun g hg => by have := hl9 g hg; have := hx8.size; omega
    have ho12 : Own w12 5 1 x24 64 (noneS.map u8) := ho9.ext ((Ext.drew _).trans hx12)
    have hk1 : ∀ {v : Value} {l : List Value}, Sees w12 v 64 l → (∀ g, v.ownBlock = some g → g ≠ t ∧ g ≠ m) → Sees w13 v 64 l := fun hs hn => hs.kept hg13 (fun g e => by cases e; exact fun e => (hn m e).2 rfl)
    have hs13 := hk1 ho12.sees hne
    refine Ret.of ⟨⟨((Chg.refl w _).ext hx').grown hg13 (fun g e _ => by cases e; rfl), fun _ => ⟨h.lo, (h.blk.ext hx').kept hg13 (fun e => h.ne (by cases e; rfl)), h.ne, _, _, hm13, by simpa using MapKept.stamped_push hst (key := str l) (val := x24) (by simpa using hnk), fun e he' => ?_⟩⟩, hs13, hne⟩
    rcases List.mem_append.1 he' with he' | he'
    · exact ⟨(he e he').1, hk1 ((he e he').2.1.ext hx') (he e he').2.2, (he e he').2.2⟩
    · rw [List.mem_singleton.1 he']
      exact ⟨⟨l, rfl⟩, hs13, hne⟩
  · refine Do_of (run_lookup Tryz.underlying34 Tryz.underlying9 (by trivial) hm hf true) ?_
    refine Do_pu (pu_ext rfl) ?_
    refine Do_pu (pu_ext rfl) ?_
    refine Do_pu pu_not (CondF ?_)
    have := he e (List.mem_of_getElem? hj)
    exact Ret.of ⟨(ER.pre t m sh).refl w, this.2.1, this.2.2⟩
theorem Sum0_c {w : World} {t m : Nat} {sh : Int} (h : Empty w t m sh) (hk : Laid w) (l : List UInt8) (hl : l.length ≤ 70368744177664) :
    Calls Tryz.prog 23 #[ptr t, str l] w (Ret fun v w' => ER t m sh w w' ∧ if isPath l = true then Own w' 5 1 v 64 (noneS.map u8) ∧ Late w v else v = nilS_) := by
  refine vc_merkle_Tree_Sum ?_
  unfold V_merkle_Tree_Sum
  refine CallS_v (there_c h.blk) ?_
  refine Do_pu pu_not (BoolF ?_)
  refine CallS_r (path_c l hl w) fun x10 w3 hh => ?_
  obtain ⟨rfl, hx3⟩ := hh
  refine Do_pu pu_not (CondV_b (fun hc => ?_) fun hc => ?_)
  · exact Ret.of ⟨.ext hx3, by rw [if_neg (by simpa using hc)]⟩
  have h3 := h.ext hx3
  refine ⟨Ext, fun i v z => (i = 9 → Sees z v 0 []) ∧ (i = 10 → v = nilS_), Pre.ext, fun i v z z' hx h => ⟨fun e => (h.1 e).ext hx, h.2⟩, ?_⟩
  refine PureN_pu pu_nilptr ?_
  refine PureQ_pu (pu_field Tryz.underlying36 rfl (n := 1) (o := 0) (by kernel_rfl) rfl) ?_
  refine PureN_pu pu_nilptr ?_
  refine PureQ_pu (pu_field Tryz.underlying36 rfl (n := 1) (o := 0) (by kernel_rfl) rfl) ?_
  refine ⟨fun w5 hx5 _ => CallS_r (all0_c (h3.blk.ext ((Ext.drew _).trans hx5))) fun x22 w6 hh => ⟨hh.2, And.intro (fun _ => hh.1) (fun e => by cases e)⟩, fun x22_1 => ?_⟩
  refine ⟨fun w7 hx7 hf => CallS_r (under0_c (hf.1.1 rfl)) fun x23 w8 hh => ⟨by rw [hh.2]; exact Ext.refl _, And.intro (fun e => by cases e) (fun _ => hh.1)⟩, fun x23_1 => ?_⟩
  intro w9 hx9 hf
  obtain rfl : x23_1 = nilS_ := hf.1.2 rfl
  have hx : Ext w w9 := hx3.trans ((Ext.drew _).trans hx9)
  refine CallS_r (sum0_c (h.ext hx) (hk.ext hx) l hl) fun x24 w10 hh => ?_
  obtain ⟨hr10, hs10, _⟩ := hh
  refine CallS_r (cloneB_c (b := noneS) (by rw [noneS_len]; exact hs10) (by rw [noneS_len]; decide)) fun x25 w11 hh => ?_
  obtain ⟨ho, hx11, hfr, _⟩ := hh
  rw [noneS_len] at ho
  refine Ret.of ⟨(ER.ext hx).trans (hr10.trans (.ext hx11)), ?_⟩
  rw [if_pos (by simpa using hc)]
  exact ⟨ho, fun g hg => Nat.le_trans (Nat.le_trans hx.size hr10.1.size) (hfr g hg)⟩
/-- A shard's digest. -/
theorem topSum_c (sh : Int) (b : List UInt8) {v : Value} {w : World} (hk : Laid w) (hv : Sees w v b.length (b.map u8)) :
    Calls Tryz.prog 31 #[i64 sh, v] w (Ret fun r w' => Ext w w' ∧
      if 0 ≤ sh ∧ sh < 4 ∧ b.length = 64 then Own w' 5 1 r 64 ((shaS (4 :: UInt8.ofNat sh.toNat :: b)).map u8) ∧ Late w r else r = nilS_) := by
  refine vc_merkle_TopSum ?_
  unfold V_merkle_TopSum
  have hvl := hv.len
  refine Do_pu pu_lss (BoolS_if (fun hc => Ret.of ⟨Ext.refl _, by rw [if_neg (by omega)]⟩) fun h0 => ?_)
  refine Do_pu pu_geq (BoolS_if (fun hc => Ret.of ⟨Ext.refl _, by rw [if_neg (by omega)]⟩) fun h4 => ?_)
  refine DoN_pu (pu_len Tryz.underlying22 hv) ?_
  refine Do_pu pu_neq (CondV_b (fun hc => Ret.of ⟨Ext.refl _, by rw [if_neg (by simp at hc; omega)]⟩) fun hc => ?_)
  have hb : b.length = 64 := by simp at hc; omega
  obtain ⟨n, rfl⟩ : ∃ n : Nat, sh = n := ⟨sh.toNat, by omega⟩
  refine Do_pu (pu_conv Tryz.underlying3 Tryz.underlying5) ?_
  rw [u8_wrap]
  refine Do_build1L (vs := [u8 4, u8 (UInt8.ofNat n)]) Tryz.underlying22 row8 (one_cons rfl (one_cons rfl one_nil)) rfl rfl (by decide) (by decide) fun w6 n6 => ?_
  refine Do_build1L (vs := [.slice (some ⟨w.heap.size, 0, none⟩) 2 2, v]) Tryz.underlying55 rowBytes (one_cons rfl (one_cons hv.one one_nil)) rfl rfl (by decide) (by decide) fun w7 n7 => ?_
  have hx : Ext w w7 := n6.ext.trans n7.ext
  have hs : Sees w7 (.slice (some ⟨w6.heap.size, 0, none⟩) 2 2) 2 _ := (Own.new (s := 1) n7 rfl (by decide)).sees
  have h2 : Sees w7 (.slice (some ⟨w.heap.size, 0, none⟩) 2 2) 2 ([4, UInt8.ofNat n].map u8) := ((Own.new (s := 1) n6 rfl (by decide)).sees).ext n7.ext
  have ha : AllSee w7 [.slice (some ⟨w.heap.size, 0, none⟩) 2 2, v] [[4, UInt8.ofNat n], b] := .cons h2 (.cons (hv.ext hx) (.nil _))
  refine CallS_r (shaSum_c (parts := [[4, UInt8.ofNat n], b]) (hk.ext hx) hs ha.len ha.at_ (by simp; omega)) fun x21 w8 hh => ?_
  obtain ⟨ho, hx8, hl8⟩ := hh
  refine Ret.of ⟨hx.trans hx8, ?_⟩
  rw [if_pos (by omega)]
  exact ⟨by simpa using ho, fun g hg => Nat.le_trans hx.size (hl8 g hg)⟩
theorem Top0_c {w : World} {t m : Nat} {sh : Int} (h : Empty w t m sh) (hk : Laid w) (hsh : 0 ≤ sh ∧ sh < 4) :
    Calls Tryz.prog 22 #[ptr t] w (Ret fun v w' => ER t m sh w w' ∧ Own w' 5 1 v 64 ((shaS (4 :: UInt8.ofNat sh.toNat :: noneS)).map u8) ∧ Late w v) := by
  refine vc_merkle_Tree_Top ?_
  unfold V_merkle_Tree_Top
  refine CallS_v (there_c h.blk) ?_
  refine Do_pu pu_not (CondF ?_)
  refine ⟨ER t m sh, fun i v z => i = 5 → Sees z v 64 (noneS.map u8) ∧ ∀ g, v.ownBlock = some g → g ≠ m, ER.pre t m sh, fun i v z z' hx hf e => ⟨(hf e).1.chg hx.1 (fun _ g hg => (hf e).2 g hg), (hf e).2⟩, ?_⟩
  refine PureN_pu pu_nilptr ?_
  refine PureQ_pu (pu_field Tryz.underlying36 rfl (n := 0) (o := 2) (by kernel_rfl) rfl) ?_
  refine PureQ_load Tryz.underlying3 rfl (fun z hz => (((h.blk.ext (Ext.drew _)).chg hz.1.1 (fun e => h.ne e)).cell _).trans rfl) ?_
  refine ⟨fun w3 hx3 _ => CallS_r (Sum0_c (hx3.2 (h.ext (Ext.drew _))) (hx3.laid (h.ext (Ext.drew _)) (hk.ext (Ext.drew _))) [] (by decide)) fun x11 w4 hh => ?_, fun x11_1 => ?_⟩
  · obtain ⟨hr, hv⟩ := hh
    rw [if_pos (by decide)] at hv
    have hlt := (hx3.2 (h.ext (Ext.drew _))).lt
    exact ⟨hr, fun _ => ⟨hv.1.sees, fun g hg => by have := hv.2 g hg; omega⟩⟩
  intro w5 hx5 hf
  have hr5 : ER t m sh w w5 := (ER.ext (Ext.drew _)).trans hx5
  have hnl := noneS_len
  refine CallS_r (topSum_c sh noneS (hr5.laid h hk) (by rw [hnl]; exact (hf.1 rfl).1)) fun x12 w6 hh => ?_
  obtain ⟨hx6, hv⟩ := hh
  rw [if_pos ⟨hsh.1, hsh.2, hnl⟩] at hv
  exact Ret.of ⟨hr5.trans (.ext hx6), hv.1, fun g hg => Nat.le_trans hr5.1.size (hv.2 g hg)⟩
abbrev zeroN : Value := .agg #[.int .u8 0, nilS_, nilS_, nilS_]
theorem Node0_c {w : World} {t m : Nat} {sh : Int} (h : Empty w t m sh) (l : List UInt8) (hl : l.length ≤ 70368744177664) :
    Calls Tryz.prog 18 #[ptr t, str l] w (Ret fun v w' => v = (if isPath l = true then .tuple #[noneN, i64 0] else .tuple #[zeroN, i64 2]) ∧ Ext w w') := by
  refine vc_merkle_Tree_Node ?_
  unfold V_merkle_Tree_Node
  refine Do_alloc (l := [.int .u8 0, .slice none 0 0, .slice none 0 0, .slice none 0 0]) (by kernel_rfl) fun w1 n1 => ?_
  have h1 := h.ext n1.ext
  refine CallS_v (there_c h1.blk) ?_
  refine Do_pu pu_not (CondF ?_)
  refine CallS_r (path_c l hl w1) fun x13 w6 hh => ?_
  obtain ⟨rfl, hx6⟩ := hh
  have hst : ∀ {z : World} (N : List Value) (e : Int) , N.length = 4 → (∀ c ∈ N, c.oneCell' = true) → Ext w1 z → (∀ z', Ext w z' → Ret (fun v w' => v = (if isPath l = true then .tuple #[noneN, i64 0] else .tuple #[zeroN, i64 2]) ∧ Ext w w') (.returned (.tuple #[.agg N.toArray, i64 e])) z') →
      DoU Tryz.prog (Instr.storeAt 52 (ptr w.heap.size) (.agg N.toArray)) z (fun w9 => ResV Tryz.prog [(.inr (ptr w.heap.size, 52)), (.inl (i64 e))] w9 (Ret fun v w' => v = (if isPath l = true then .tuple #[noneN, i64 0] else .tuple #[zeroN, i64 2]) ∧ Ext w w')) (pkR (Ret fun v w' => v = (if isPath l = true then .tuple #[noneN, i64 0] else .tuple #[zeroN, i64 2]) ∧ Ext w w')) := fun N e hN h1 hx hR => by
    refine DoU_storeAgg (by rw [hN]; kernel_rfl) (n1.blk.ext hx) (by rw [hN]; decide) h1 fun w9 hb9 hg9 => ?_
    exact ⟨[.agg N.toArray, i64 e], ⟨⟨_, rfl, run_loadVarAgg Tryz.underlying52 rfl (by rw [hN]; kernel_rfl) (hb9.whole (by rw [hN]; decide)).all⟩, rfl, trivial⟩, hR _ ((n1.ext.trans hx).grown hg9 (fun k e => by cases e; exact Nat.le_refl _))⟩
  refine Do_pu pu_not (CondV_b (fun hc => ?_) fun hc => ?_)
  · refine Do_of (run_buildS (cells := [.int .u8 0, nilS_, nilS_, nilS_]) Tryz.underlying52 (zero := [.int .u8 0, .slice none 0 0, .slice none 0 0, .slice none 0 0]) (by kernel_rfl) (by kernel_rfl) (by kernel_rfl) _) ?_
    exact hst [.int .u8 0, nilS_, nilS_, nilS_] 2 rfl (one_cons rfl (one_cons rfl (one_cons rfl (one_cons rfl one_nil)))) hx6 fun z' hz => Ret.of ⟨by rw [if_neg (by simpa using hc)], hz⟩
  refine ⟨Ext, fun i v z => (i = 9 → Sees z v 0 []) ∧ (i = 10 → v = nilS_), Pre.ext, fun i v z z' hx h => ⟨fun e => (h.1 e).ext hx, h.2⟩, ?_⟩
  refine PureN_pu pu_nilptr ?_
  refine PureQ_pu (pu_field Tryz.underlying36 rfl (n := 1) (o := 0) (by kernel_rfl) rfl) ?_
  refine PureN_pu pu_nilptr ?_
  refine PureQ_pu (pu_field Tryz.underlying36 rfl (n := 1) (o := 0) (by kernel_rfl) rfl) ?_
  refine ⟨fun w5 hx5 _ => CallS_r (all0_c (h1.blk.ext (hx6.trans ((Ext.drew _).trans hx5)))) fun x22 w6 hh => ⟨hh.2, And.intro (fun _ => hh.1) (fun e => by cases e)⟩, fun x22_1 => ?_⟩
  refine ⟨fun w7 hx7 hf => CallS_r (under0_c (hf.1.1 rfl)) fun x23 w8 hh => ⟨by rw [hh.2]; exact Ext.refl _, And.intro (fun e => by cases e) (fun _ => hh.1)⟩, fun x23_1 => ?_⟩
  intro w9 hx9 hf
  obtain rfl : x23_1 = nilS_ := hf.1.2 rfl
  refine CallS_r (node0_c _ _ w9 rfl rfl) fun x27 w15 hh => ?_
  obtain ⟨rfl, hx15⟩ := hh
  exact hst [.int .u8 1, nilS_, nilS_, nilS_] 0 rfl (one_cons rfl (one_cons rfl (one_cons rfl (one_cons rfl one_nil)))) (hx6.trans ((Ext.drew _).trans (hx9.trans hx15))) fun z' hz => Ret.of ⟨by rw [if_pos (by simpa using hc)], hz⟩
end Go.Proofs.YtpdceilhgaladaaGreatDoor
