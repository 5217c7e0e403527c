/- The statement's function itself: it returns true, and leaves all that was there. -/
import Derived.Test.YtpdceilhgaladaaGreatDoorNone
import Derived.Test.YtpdceilhgaladaaGreatDoorRef01
import Derived.Test.YtpdceilhgaladaaGreatDoorLight12
namespace Go.Proofs.YtpdceilhgaladaaGreatDoor.Law12
open Go.Vc Go.Vc.Sha Go.RowKit Go.Proofs.YtpdceilhgaladaaGreatDoor
theorem noneB {w : World} {v : Value} (h : Sees w v 64 (noneS.map u8)) : SeesB w v noneS := by unfold SeesB; rw [noneS_len]; exact h
theorem awake_c {w : World} (hk : Laid w) : Calls Tryz.prog 16 #[] w (Ret fun v w' => v = .bool true ∧ Ext w w') := by
  refine vc_buttresslaw12_awake ?_
  unfold V_buttresslaw12_awake
  refine CallS_r (merkleNew_c 0 hk) fun x5 w1 hh => ?_
  obtain ⟨hx1, hh⟩ := hh
  rw [if_pos (by decide)] at hh
  obtain ⟨rfl, he1⟩ := hh
  generalize w.heap.size + 1 = t at he1
  generalize hm : w.heap.size = m at he1
  have hk1 := hk.ext hx1
  refine CallS_r (Node0_c he1 [] (by decide)) fun x8 w2 hh => ?_
  obtain ⟨rfl, hx2⟩ := hh
  rw [if_pos (by decide)]
  refine Do_pu (pu_ext rfl) ?_
  refine Do_pu (pu_ext rfl) ?_
  refine Do_alloc (l := [.int .u8 0, .slice none 0 0, .slice none 0 0, .slice none 0 0]) (by kernel_rfl) fun w5 n5 => ?_
  refine DoU_storeAgg (by kernel_rfl) n5.blk (by decide) (one_cons rfl (one_cons rfl (one_cons rfl (one_cons rfl one_nil)))) fun w6 hb6 hg6 => ?_
  have hb := hb6.whole (by decide)
  have hx6 : Ext w1 w6 := (hx2.trans n5.ext).grown hg6 (fun k e => by cases e; exact hx2.size)
  refine Do_build1L (vs := [u8 0]) Tryz.underlying22 row8 (one_cons rfl one_nil) rfl rfl (by decide) (by decide) fun w7 n7 => ?_
  have hs7 : Sees w7 (.slice (some ⟨w6.heap.size, 0, none⟩) 1 1) 1 [u8 0] := (Own.new (s := 1) n7 rfl (by decide)).sees
  refine CallS_r (refSum_c (b := [0]) hs7 (by decide)) fun x12 w8 hh => ?_
  obtain ⟨ho8, hx8, hl8⟩ := hh
  refine Do_pu pu_eql (BoolS (fun _ => ?_) fun h => by simp at h)
  refine Do_pu (pu_field Tryz.underlying52 rfl (n := 0) (o := 0) (by kernel_rfl) rfl) ?_
  refine Do_load Tryz.underlying50 rfl ((hb.at (n7.ext.trans hx8) _).trans rfl) ?_
  refine Do_pu pu_eql (BoolS (fun _ => ?_) fun h => by simp at h)
  have hx18 : Ext w1 w8 := hx6.trans (n7.ext.trans hx8)
  have he8 := he1.ext hx18
  have hk8 := hk1.ext hx18
  have hlt := he1.lt
  have hne8 : ∀ g, x12.ownBlock = some g → g ≠ m := fun g hg => by have := hl8 g hg; have := hx6.size; have := n7.size; omega
  refine CallS_r (Top0_c he8 hk8 (by decide)) fun x22 w13 hh => ?_
  obtain ⟨hr13, ho13, hl13⟩ := hh
  have hs13 : Sees w13 x12 64 (noneS.map u8) := ho8.sees.chg hr13.1 (fun _ g hg => hne8 g hg)
  refine CallS_r (topSum_c 0 noneS (hr13.laid he8 hk8) (noneB hs13)) fun x24 w14 hh => ?_
  obtain ⟨hx14, hh⟩ := hh
  rw [if_pos (by rw [noneS_len]; decide)] at hh
  have hl64 : ∀ b : List UInt8, ∀ {w : World} {v : Value}, Own w 5 1 v 64 (b.map u8) → SeesB w v b := fun b w v h => by
    have hb : b.length = 64 := by have := h.1; simpa using this
    unfold SeesB; rw [hb]; exact h.sees
  refine CallS_r (sameBytes_c (SeesB.ext (hl64 _ ho13) hx14) (hl64 _ hh.1)) fun x25 w15 hh2 => ?_
  obtain ⟨rfl, hx15⟩ := hh2
  rw [beq_self_eq_true]
  refine BoolT ?_
  have hr15 : ER t m 0 w8 w15 := hr13.trans (.ext (hx14.trans hx15))
  refine CallS_r (Top0_c (hr15.2 he8) (hr15.laid he8 hk8) (by decide)) fun x29 w16 hh => ?_
  obtain ⟨hr16, ho16, _⟩ := hh
  refine DoN_pu (pu_len Tryz.underlying22 ho16.sees) ?_
  refine Do_pu pu_eql (BoolS (fun _ => ?_) fun h => by simp at h)
  have hr16' := hr15.trans hr16
  refine CallS_r (Sum0_c (hr16'.2 he8) (hr16'.laid he8 hk8) [48, 49] (by decide)) fun x35 w19 hh => ?_
  obtain ⟨hr19, hh⟩ := hh
  rw [if_pos (by decide)] at hh
  have hr19' := hr16'.trans hr19
  have hs19 : Sees w19 x12 64 (noneS.map u8) := ho8.sees.chg hr19'.1 (fun _ g hg => hne8 g hg)
  refine CallS_r (sameBytes_c (hl64 _ hh.1) (noneB hs19)) fun x37 w20 hh2 => ?_
  obtain ⟨rfl, hx20⟩ := hh2
  rw [beq_self_eq_true]
  refine BoolT ?_
  have hr20 : ER t m 0 w8 w20 := hr19'.trans (.ext hx20)
  refine CallS_r (merkleNew_c 4 (hr20.laid he8 hk8)) fun x40 w21 hh => ?_
  obtain ⟨hx21, hh⟩ := hh
  rw [if_neg (by decide)] at hh
  subst hh
  refine Do_pu (pu_ptreq Tryz.underlying28) ?_
  refine Ret.of ⟨rfl, ((hx1.trans hx18).chg hr20.1 (fun g e => by omega)).trans hx21⟩

theorem merkleNone_c {w : World} {v : Value} {ls : List Lf} (hk : Laid w) (hv : SeesL LfC 2 w v ls) (path : List UInt8) (hp : path.length ≤ 9223372036854775807) (sh : Int) :
    Calls Tryz.prog 5 #[v, str path, i64 sh] w (Ret fun r w' => r = .bool true ∧ Ext w w') := by
  refine vc_buttresslaw12_MerkleNone ?_
  unfold V_buttresslaw12_MerkleNone
  refine CallS_r (awake_c hk) fun x12 w1 hh => ?_
  obtain ⟨rfl, hx1⟩ := hh
  refine Do_pu pu_not (CondF ?_)
  refine CallS_r (light_c (hv.ext LfC.mono hx1)) fun x15 w3 hh => ?_
  obtain ⟨hx3, b, rfl, _⟩ := hh
  have hx3' : Ext w w3 := hx1.trans hx3
  refine Do_pu pu_not (BoolS (fun _ => Ret.of ⟨rfl, hx3'⟩) fun _ => ?_)
  refine DoN_pu (pu_lenS Tryz.underlying9) ?_
  refine Do_pu pu_gtr (CondV_if (fun _ => Ret.of ⟨rfl, hx3'⟩) fun h600 => ?_)
  refine ⟨fun _ w' => Ext w w', ?_, ?_⟩
  · have hnew : ∀ {z : World}, Ext w z → ¬ (0 ≤ sh ∧ sh < 4) → Calls Tryz.prog 8 #[i64 sh] z (Ret fun v w' => v = .pointer none ∧ Ext w w') := fun hz hsh =>
      (merkleNew_c sh (hk.ext hz)).mono fun e w' he => he.mono fun v w' hh => by rw [if_neg hsh] at hh; exact ⟨hh.2, hz.trans hh.1⟩
    refine Do_pu pu_lss (BoolS_if (fun hs => ?_) fun hs => ?_)
    · refine CallS_r (hnew hx3' (by omega)) fun x26 w8 hh => ?_
      obtain ⟨rfl, hx8⟩ := hh
      refine Do_pu (pu_ptrne Tryz.underlying28) (BoolF ?_)
      refine Do_pu pu_gtr (BoolS_if (fun h3 => by omega) fun _ => hx8)
    · refine Do_pu pu_gtr (BoolS_if (fun h3 => ?_) fun _ => hx3')
      refine CallS_r (hnew hx3' (by omega)) fun x26 w8 hh => ?_
      obtain ⟨rfl, hx8⟩ := hh
      exact Do_pu (pu_ptrne Tryz.underlying28) (CondF hx8)
  rintro j1 w16 hx16
  refine Do_of (run_buildS (cells := [.slice none 0 0, .slice none 0 0, .int .i64 0, .map none]) Tryz.underlying36 (zero := [.slice none 0 0, .slice none 0 0, .int .i64 0, .map none]) (by kernel_rfl) (by kernel_rfl) (by kernel_rfl) _) ?_
  refine Do_box rfl fun w18 n18 => ?_
  refine Do_build1L (vs := [.pointer none, ptr w16.heap.size]) Tryz.underlying64 (rowIs_of (bytes := 8) (z := [.pointer none]) (by kernel_rfl)) (one_cons rfl (one_cons rfl one_nil)) rfl rfl (by decide) (by decide) fun w19 n19 => ?_
  have hs19 : Sees w19 (.slice (some ⟨w18.heap.size, 0, none⟩) 2 2) 2 [.pointer none, ptr w16.heap.size] := (Own.new (s := 1) n19 rfl (by decide)).sees
  have hx19 : Ext w w19 := hx16.trans (n18.ext.trans n19.ext)
  refine ⟨fun m xs w' => ∃ i : Nat, xs = [i64 i] ∧ m + i = 2 ∧ Ext w19 w', ⟨2, 0, rfl, rfl, Ext.refl _⟩, ?_⟩
  rintro m2 x8 j2 w20 ⟨i, hx8, hm, hx20⟩
  obtain rfl : x8 = i64 i := by simpa using hx8
  refine Do_pu pu_lss (CondV_if (fun hi => ?_) fun hi => Ret.of ⟨rfl, hx19.trans hx20⟩)
  obtain ⟨p, hp, hno⟩ : ∃ p, [.pointer none, ptr w16.heap.size][i]? = some p ∧ Nope w19 p := by
    obtain rfl | rfl : i = 0 ∨ i = 1 := by omega
    · exact ⟨_, rfl, .inl rfl⟩
    · exact ⟨_, rfl, .inr ⟨_, _, _, _, rfl, n18.blk.ext n19.ext⟩⟩
  refine Do_pu (hs19.indexP (i := i) (s := 1) Tryz.underlying64 (by kernel_rfl) (by omega)) ?_
  refine Do_of ((hs19.ext hx20).loadP Tryz.underlying28 rfl (by rw [Nat.mul_one]; exact hp)) ?_
  refine CallS_r (nopeNode_c (hno.ext hx20) _) fun x52 w24 hh => ?_
  obtain ⟨rfl, hx24⟩ := hh
  refine Do_pu (pu_ext rfl) ?_
  refine Do_pu (pu_ext rfl) ?_
  refine Do_alloc (l := [.int .u8 0, .slice none 0 0, .slice none 0 0, .slice none 0 0]) (by kernel_rfl) fun w27 n27 => ?_
  refine DoU_storeAgg (by kernel_rfl) n27.blk (by decide) (one_cons rfl (one_cons rfl (one_cons rfl (one_cons rfl one_nil)))) fun w28 hb28 hg28 => ?_
  have hb := hb28.whole (by decide)
  have hx28 : Ext w19 w28 := ((hx20.trans hx24).trans n27.ext).grown hg28 (fun k e => by cases e; exact (hx20.trans hx24).size)
  have hno28 := hno.ext hx28
  refine CallS_v (nopePut_c hno28 v) ?_
  refine Do_pu pu_neq (BoolS (fun h => by simp at h) fun _ => ?_)
  refine CallS_v (nopeGet_c hno28 _) ?_
  refine DoN_pu (pu_len Tryz.underlying47 (Sees.nil w)) ?_
  refine Do_pu pu_neq (BoolS (fun h => by simp at h) fun _ => ?_)
  refine CallS_v (nopeShard_c hno28) ?_
  refine Do_pu pu_neq (BoolS (fun h => by simp at h) fun _ => ?_)
  refine CallS_v (nopeTop_c hno28) ?_
  refine DoN_pu (pu_len Tryz.underlying22 (Sees.nil w)) ?_
  refine Do_pu pu_neq (BoolS (fun h => by simp at h) fun _ => ?_)
  refine CallS_v (nopeSum_c hno28 _) ?_
  refine DoN_pu (pu_len Tryz.underlying22 (Sees.nil w)) ?_
  refine Do_pu pu_neq (BoolS (fun h => by simp at h) fun _ => ?_)
  refine Do_pu pu_neq (BoolS (fun h => by simp at h) fun _ => ?_)
  refine Do_loadAgg (l := [.int .u8 0, nilS_, nilS_, nilS_]) Tryz.underlying52 rfl (by kernel_rfl) hb.all ?_
  refine Do_of (run_buildS (cells := [.int .u8 0, nilS_, nilS_, nilS_]) Tryz.underlying52 (zero := [.int .u8 0, .slice none 0 0, .slice none 0 0, .slice none 0 0]) (by kernel_rfl) (by kernel_rfl) (by kernel_rfl) _) ?_
  refine CallS_r (sameNode0_c w28) fun x90 w45 hh => ?_
  obtain ⟨rfl, hx45⟩ := hh
  refine Do_pu pu_not (BoolF ?_)
  have hno45 := hno28.ext hx45
  refine CallS_v (nopeLeaves_c hno45) ?_
  refine DoN_pu (pu_len Tryz.underlying30 (Sees.nil w)) ?_
  refine Do_pu pu_neq (BoolS (fun h => by simp at h) fun _ => ?_)
  refine CallS_v (nopeCopy_c hno45) ?_
  refine Do_pu (pu_ptrne Tryz.underlying28) (CondF ?_)
  refine Do_pu (pu_iadd (by omega) (by omega)) ?_
  exact ⟨m2 - 1, by omega, i + 1, by simp, by omega, hx28.trans hx45⟩
end Go.Proofs.YtpdceilhgaladaaGreatDoor.Law12
