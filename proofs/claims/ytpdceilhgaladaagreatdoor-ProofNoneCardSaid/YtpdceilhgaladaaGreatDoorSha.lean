/- What the program's own digest (package sha) computes. -/
import Derived.Test.YtpdceilhgaladaaGreatDoorVSha
import Derived.Test.YtpdceilhgaladaaGreatDoorPu
import Derived.Test.YtpdceilhgaladaaGreatDoorShaS
namespace Go.Proofs.YtpdceilhgaladaaGreatDoor
open Go.Vc Go.Vc.Sha Go.RowKit

theorem rotateLeft64_c (x : UInt64) (a : Nat) (h : (BitVec.ofInt 64 (IntKind.u64.wrap (-(a : Int))) &&& BitVec.ofInt 64 63).toNat = 64 - a) (ha : a ≤ 64) (w : World) :
    Calls Tryz.prog 194 #[u64 x, i64 (-a)] w (Ret fun v' w' => v' = u64 (rl x a) ∧ w' = w) := by
  refine vc_math_bits_RotateLeft64 ?_
  unfold V_math_bits_RotateLeft64
  refine Do_pu (pu_conv Tryz.underlying3 Tryz.underlying107) ?_
  refine Do_of (run_bits_and _ _ _) ?_
  rw [h, show IntKind.u64.wrap ((64 - a : Nat) : Int) = ((64 - a : Nat) : Int) by rw [wrap_u64]; omega]
  refine Do_pu (pu_ushl (by omega) (by omega)) ?_
  refine Do_of (run_sub _ _ _ _) ?_
  rw [show IntKind.u64.wrap (64 - ((64 - a : Nat) : Int)) = (a : Int) by rw [wrap_u64]; omega]
  refine Do_pu (pu_ushr (by omega) (by omega)) ?_
  refine Do_pu pu_uor ?_
  exact Ret.of ⟨by simp [rl], rfl⟩
theorem rot_ok {a : Nat} (h : a < 64) (h0 : 0 < a) : (BitVec.ofInt 64 (IntKind.u64.wrap (-(a : Int))) &&& BitVec.ofInt 64 63).toNat = 64 - a := by
  have : ∀ a : Fin 64, 0 < a.val → (BitVec.ofInt 64 (IntKind.u64.wrap (-(a.val : Int))) &&& BitVec.ofInt 64 63).toNat = 64 - a.val := by decide
  exact this ⟨a, h⟩ h0
theorem mix_c (x : UInt64) {a b c : Nat} (ha : a < 64) (ha0 : 0 < a) (hb : b < 64) (hb0 : 0 < b) (hc : c < 64) (hc0 : 0 < c) (w : World) :
    Calls Tryz.prog 171 #[u64 x, i64 a, i64 b, i64 c] w (Ret fun v' w' => v' = u64 (mixS x a b c) ∧ w' = w) := by
  refine vc_sha_mix ?_
  unfold V_sha_mix
  refine Do_pu (pu_ineg (by omega) (by omega)) ?_
  refine CallS_v (rotateLeft64_c x a (rot_ok ha ha0) (by omega) _) ?_
  refine Do_pu (pu_ineg (by omega) (by omega)) ?_
  refine CallS_v (rotateLeft64_c x b (rot_ok hb hb0) (by omega) _) ?_
  refine Do_pu pu_uxor ?_
  refine Do_pu (pu_ineg (by omega) (by omega)) ?_
  refine CallS_v (rotateLeft64_c x c (rot_ok hc hc0) (by omega) _) ?_
  refine Do_pu pu_uxor ?_
  exact Ret.of ⟨rfl, rfl⟩
theorem small_c (x : UInt64) {a b s : Nat} (ha : a < 64) (ha0 : 0 < a) (hb : b < 64) (hb0 : 0 < b) (hs : s ≤ 64) (w : World) :
    Calls Tryz.prog 170 #[u64 x, i64 a, i64 b, i64 s] w (Ret fun v' w' => v' = u64 (smallS x a b s) ∧ Ext w w') := by
  refine vc_sha_small ?_
  unfold V_sha_small
  refine ⟨Ext, fun i v _ => (i = 3 → v = u64 (rl x a)) ∧ (i = 7 → v = u64 (rl x b)), Pre.ext, fun _ _ _ _ _ h => h, ?_⟩
  refine PureQ_pu (pu_ineg (by omega) (by omega)) ⟨fun w1 hx _ => CallS_v (rotateLeft64_c x a (rot_ok ha ha0) (by omega) _) ⟨Ext.refl _, fun _ => rfl, by omega⟩, fun x12 => ?_⟩
  refine PureQ_pu (pu_ineg (by omega) (by omega)) ⟨fun w1 hx _ => CallS_v (rotateLeft64_c x b (rot_ok hb hb0) (by omega) _) ⟨Ext.refl _, by omega, fun _ => rfl⟩, fun x16 => ?_⟩
  refine PureQ_at (v := u64 (rl x a ^^^ rl x b)) (fun z hz => by rw [hz.2.1.2 rfl, hz.2.2.1.1 rfl]; exact pu_uxor z) ?_
  refine PureQ_pu (pu_ushr (by omega) (by omega)) fun w5 hx _ => ?_
  refine Do_pu pu_uxor ?_
  exact Ret.of ⟨rfl, (Ext.drew w).trans hx⟩

/-- The two variables of package sha hold the constants. -/
structure Laid (w : World) : Prop where
  k : ∀ j, j < 80 → w.cell? ⟨2, j, none⟩ = some (u64 (kS.getD j 0))
  v0 : ∀ j, j < 8 → w.cell? ⟨0, j, none⟩ = some (u64 (v0S.getD j 0))
theorem Laid.ext {w w' : World} (h : Laid w) (hx : Ext w w') : Laid w' := ⟨fun j hj => cell_ext hx (h.k j hj), fun j hj => cell_ext hx (h.v0 j hj)⟩
theorem Laid.kept {w w' : World} {g : Nat} (h : Laid w) (hg : w.grownBy w' (some g)) (h0 : g ≠ 2) (h1 : g ≠ 0) : Laid w' :=
  ⟨fun j hj => hg.cell (h.k j hj) (fun e => h0 (by cases e; rfl)), fun j hj => hg.cell (h.v0 j hj) (fun e => h1 (by cases e; rfl))⟩

theorem map_getD (l : List UInt64) (i : Nat) (h : i < l.length) : (l.map u64)[i]? = some (u64 (l.getD i 0)) := by simp [h]
theorem one_u64 (l : List UInt64) : ∀ c ∈ l.map u64, c.oneCell' = true := by intro c hc; obtain ⟨x, _, rfl⟩ := List.mem_map.1 hc; rfl
theorem one_u8 (l : List UInt8) : ∀ c ∈ l.map u8, c.oneCell' = true := by intro c hc; obtain ⟨x, _, rfl⟩ := List.mem_map.1 hc; rfl

theorem block_c {w : World} {h : Nat} {ws : List UInt64} {tl : List Value} {th : TypeId} {v1 : Value} {b : List UInt8} (hw : Blk w h (ws.map u64 ++ tl) th) (hn : ws.length = 8)
    (hb : Sees w v1 128 (b.map u8)) (hbl : b.length = 128) (hk : Laid w) :
    Calls Tryz.prog 141 #[.pointer (some ⟨h, 0, none⟩), v1] w (Ret fun _ w' => Blk w' h ((blockS kS ws b).map u64 ++ tl) th ∧ w.grownBy w' (some h)) := by
  refine vc_sha_words_block ?_
  unfold V_sha_words_block
  refine Do_alloc (l := List.replicate 80 (u64 0)) (by kernel_rfl) fun w1 n1 => ?_
  refine ⟨fun m xs w' => ∃ t : Nat, xs = [i64 t] ∧ m + t = 80 ∧ Ext w w' ∧ Blk w' w.heap.size ((schedS b t).map u64 ++ List.replicate (80 - t) (u64 0)) 241, ⟨80, 0, rfl, rfl, n1.ext, n1.blk⟩, ?_⟩
  rintro m1 x16 j1 w2 ⟨t, hx, hm, hxt, hblk⟩
  obtain rfl : x16 = i64 t := by simpa using hx
  refine Do_pu pu_lss (CondV_if (fun ht => ?_) fun ht => ?_)
  · refine Do_pu pu_lss (CondV_if (fun ht16 => ?_) fun ht16 => ?_)
    · refine Do_pu (pu_imul (by omega) (by omega)) ?_
      refine Do_pu (pu_imul (by omega) (by omega)) ?_
      refine Do_pu (pu_iadd (by omega) (by omega)) ?_
      obtain ⟨v2, p2, s2, _⟩ := Sees.sliceAt (P := Tryz.prog) (s := 1) (lo := 8 * t) (hi := 8 * t + 8) hb (by simp [hbl]) Tryz.underlying22 (by kernel_rfl) (some (i64 (8 * t))) (some (i64 (8 * t + 8))) (.inl (by simp)) (.inl (by simp)) (by omega) (by omega)
      have s2' : Sees w v2 8 (((b.drop (8 * t)).take 8).map u8) := by
        rw [show 8 * t + 8 - 8 * t = 8 by omega] at s2
        simpa using s2
      have hbs : ((b.drop (8 * t)).take 8).length = 8 := by simp [hbl]; omega
      generalize hbe : (b.drop (8 * t)).take 8 = bs at s2' hbs
      refine Do_pu p2 ?_
      refine DoN_pu (pu_len Tryz.underlying22 s2') ?_
      refine ⟨fun m xs w' => ∃ i : Nat, xs = [i64 i] ∧ m + i = 8 ∧ Ext w w' ∧ Blk w' w.heap.size ((schedS b t).map u64 ++ u64 ((bs.take i).foldl push8 0) :: List.replicate (79 - t) (u64 0)) 241, ⟨8, 0, rfl, rfl, hxt, ?_⟩, ?_⟩
      · rw [show 80 - t = (79 - t) + 1 by omega, List.replicate_succ] at hblk
        exact hblk
      rintro m2 x29 j2 w10 ⟨i, hx2, hm2, hxi, hbi⟩
      obtain rfl : x29 = i64 i := by simpa using hx2
      refine Do_pu pu_lss (CondV_if (fun hi8 => ?_) fun hi8 => ?_)
      · have hi8' : i < 8 := by omega
        obtain ⟨a, pa, ca⟩ := (s2'.ext hxi).indexAt (P := Tryz.prog) (s := 1) (k := .i64) Tryz.underlying22 (by kernel_rfl) hi8'
        have ca0 := ca 0 (u8 (bs[i]'(by omega))) (by simp [hbs, hi8'])
        have hcell : ((schedS b t).map u64 ++ u64 ((bs.take i).foldl push8 0) :: List.replicate (79 - t) (u64 0))[t]? = some (u64 ((bs.take i).foldl push8 0)) := by
          rw [List.getElem?_append_right (by simp [schedS_length])]; simp [schedS_length]
        refine Do_pu pa ?_
        refine Do_load Tryz.underlying5 rfl (by simpa [add_zero_] using ca0) ?_
        refine Do_pu (pu_indexArr Tryz.underlying241 (s := 1) (by kernel_rfl) (by omega) (by omega)) ?_
        refine Do_load Tryz.underlying191 rfl (v := u64 ((bs.take i).foldl push8 0)) (by simpa [hbi.cell] using hcell) ?_
        refine Do_pu (pu_ushl (by omega) (by omega)) ?_
        refine Do_pu (pu_u8u64 Tryz.underlying5 Tryz.underlying191) ?_
        refine Do_pu pu_uor ?_
        refine Do_pu (pu_indexArr Tryz.underlying241 (s := 1) (by kernel_rfl) (by omega) (by omega)) ?_
        refine DoU_store (i := 0 + (t : Int).toNat * 1) (by kernel_rfl) hbi (by simp [schedS_length]) rfl fun w20 hb20 hg20 => ?_
        refine Do_pu (pu_iadd (by omega) (by omega)) ?_
        refine ⟨m2 - 1, by omega, i + 1, by simp, by omega, hxi.grown hg20 (fun k e => by cases e; exact Nat.le_refl _), ?_⟩
        have e1 : (bs.take (i + 1)).foldl push8 0 = push8 ((bs.take i).foldl push8 0) (bs[i]'(by omega)) := by
          rw [List.take_add_one, List.getElem?_eq_getElem (by omega), List.foldl_append]; rfl
        rw [e1]
        simpa [schedS_length, push8, List.set_append_right] using hb20
      · refine Do_pu (pu_iadd (by omega) (by omega)) ?_
        obtain rfl : i = 8 := by omega
        refine ⟨m1 - 1, by omega, t + 1, by simp, by omega, hxi, ?_⟩
        have e2 : (bs.take 8).foldl push8 0 = nextS b (schedS b t) t := by
          rw [List.take_of_length_le (by omega), ← hbe, nextS, if_pos (by omega)]; rfl
        rw [e2] at hbi
        rw [schedS, show 80 - (t + 1) = 79 - t by omega]
        simpa using hbi
    · have hlen : ((schedS b t).map u64 ++ List.replicate (80 - t) (u64 0)).length = 80 := by simp [schedS_length]; omega
      have hget : ∀ (z : World) (u : Nat), Ext w2.drew z → u < t → z.cell? ⟨w.heap.size, 0 + ((u : Nat) : Int).toNat * 1, none⟩ = some (u64 ((schedS b t).getD u 0)) := by
        intro z u hz hu
        rw [(hblk.ext ((Ext.drew w2).trans hz)).cell, List.getElem?_append_left (by simp [schedS_length]; omega)]
        simpa using map_getD (schedS b t) u (by rw [schedS_length]; omega)
      have e2 : (i64 ((t : Int) - 2)) = i64 ((t - 2 : Nat) : Int) := by congr 1; omega
      have e7 : (i64 ((t : Int) - 7)) = i64 ((t - 7 : Nat) : Int) := by congr 1; omega
      have e15 : (i64 ((t : Int) - 15)) = i64 ((t - 15 : Nat) : Int) := by congr 1; omega
      have e16 : (i64 ((t : Int) - 16)) = i64 ((t - 16 : Nat) : Int) := by congr 1; omega
      refine ⟨Ext, fun i v _ => (i = 5 → v = u64 (smallS ((schedS b t).getD (t - 2) 0) 19 61 6)) ∧ (i = 15 → v = u64 (smallS ((schedS b t).getD (t - 15) 0) 1 8 7)), Pre.ext, fun _ _ _ _ _ h => h, ?_⟩
      refine PureQ_pu (pu_isub (by omega) (by omega)) ?_
      rw [e2]
      refine PureQ_pu (pu_indexArr Tryz.underlying241 (s := 1) (by kernel_rfl) (by omega) (by omega)) ?_
      refine PureQ_load Tryz.underlying191 rfl (fun z hz => hget z (t - 2) hz.1 (by omega)) ⟨fun w23 hx23 _ => CallS_r (small_c _ (a := 19) (b := 61) (s := 6) (by omega) (by omega) (by omega) (by omega) (by omega) w23) fun v w24 hv => ⟨hv.2, fun _ => hv.1, by omega⟩, fun x48 => ?_⟩
      refine PureQ_pu (pu_isub (by omega) (by omega)) ?_
      rw [e7]
      refine PureQ_pu (pu_indexArr Tryz.underlying241 (s := 1) (by kernel_rfl) (by omega) (by omega)) ?_
      refine PureQ_load Tryz.underlying191 rfl (fun z hz => hget z (t - 7) hz.1 (by omega)) ?_
      refine PureQ_at (v := u64 (smallS ((schedS b t).getD (t - 2) 0) 19 61 6 + (schedS b t).getD (t - 7) 0)) (fun z hz => by rw [hz.2.1.1 rfl]; exact pu_uadd z) ?_
      refine PureQ_pu (pu_isub (by omega) (by omega)) ?_
      rw [e15]
      refine PureQ_pu (pu_indexArr Tryz.underlying241 (s := 1) (by kernel_rfl) (by omega) (by omega)) ?_
      refine PureQ_load Tryz.underlying191 rfl (fun z hz => hget z (t - 15) hz.1 (by omega)) ⟨fun w23 hx23 _ => CallS_r (small_c _ (a := 1) (b := 8) (s := 7) (by omega) (by omega) (by omega) (by omega) (by omega) w23) fun v w24 hv => ⟨hv.2, by omega, fun _ => hv.1⟩, fun x58 => ?_⟩
      refine PureQ_at (v := u64 (smallS ((schedS b t).getD (t - 2) 0) 19 61 6 + (schedS b t).getD (t - 7) 0 + smallS ((schedS b t).getD (t - 15) 0) 1 8 7)) (fun z hz => by rw [hz.2.1.2 rfl]; exact pu_uadd z) ?_
      refine PureQ_pu (pu_isub (by omega) (by omega)) ?_
      rw [e16]
      refine PureQ_pu (pu_indexArr Tryz.underlying241 (s := 1) (by kernel_rfl) (by omega) (by omega)) ?_
      refine PureQ_load Tryz.underlying191 rfl (fun z hz => hget z (t - 16) hz.1 (by omega)) ?_
      refine PureQ_pu pu_uadd fun w27 hx27 _ => ?_
      refine Do_pu (pu_indexArr Tryz.underlying241 (s := 1) (by kernel_rfl) (by omega) (by omega)) ?_
      have hb27 := hblk.ext ((Ext.drew w2).trans hx27)
      refine DoU_store (i := 0 + (t : Int).toNat * 1) (by kernel_rfl) hb27 (by rw [hlen]; omega) rfl fun w28 hb28 hg28 => ?_
      refine Do_pu (pu_iadd (by omega) (by omega)) ?_
      refine ⟨m1 - 1, by omega, t + 1, by simp, by omega, (hxt.trans ((Ext.drew w2).trans hx27)).grown hg28 (fun k e => by cases e; exact Nat.le_refl _), ?_⟩
      have e3 : nextS b (schedS b t) t = smallS ((schedS b t).getD (t - 2) 0) 19 61 6 + (schedS b t).getD (t - 7) 0 + smallS ((schedS b t).getD (t - 15) 0) 1 8 7 + (schedS b t).getD (t - 16) 0 := by rw [nextS, if_neg (by omega)]
      rw [schedS, e3, show 80 - (t + 1) = 79 - t by omega]
      rw [show 80 - t = (79 - t) + 1 by omega, List.replicate_succ] at hb28
      simpa [schedS_length, List.set_append_right] using hb28
  · obtain rfl : t = 80 := by omega
    have hM : Blk w2 w.heap.size ((schedS b 80).map u64) 241 := by simpa using hblk
    have hw2 : Blk w2 h (ws.map u64 ++ tl) th := hw.ext hxt
    have hhlt : h < w.heap.size := hw.lt
    refine DoN_pu pu_nilptr ?_
    refine Do_loadAgg (l := ws.map u64) Tryz.underlying215 rfl (by rw [List.length_map, hn]; kernel_rfl) (fun j v hj => ?_) ?_
    · have hj8 : j < 8 := by simpa [hn] using (List.getElem?_eq_some_iff.1 hj).1
      rw [add_off, hw2.cell, List.getElem?_append_left (by simp; omega), Nat.zero_add]; exact hj
    refine Do_alloc (l := List.replicate 8 (u64 0)) (by kernel_rfl) fun w32 n32 => ?_
    refine DoU_storeAgg (l := List.replicate 8 (u64 0)) (by rw [List.length_map, hn]; kernel_rfl) n32.blk (by simp [hn]) (one_u64 ws) fun w33 hb33 hg33 => ?_
    have hx33 : Ext w2 w33 := n32.ext.grown hg33 (fun k e => by cases e; exact Nat.le_refl _)
    have hb33' : Blk w33 w2.heap.size (ws.map u64) 215 := by simpa [hn] using hb33
    refine Do_loadAgg (l := (schedS b 80).map u64) Tryz.underlying241 rfl (by rw [List.length_map, schedS_length]; kernel_rfl) (fun j v hj => ?_) ?_
    · rw [add_off, (hM.ext hx33).cell, Nat.zero_add]; exact hj
    refine ⟨fun m xs w' => ∃ t : Nat, xs = [i64 t] ∧ m + t = 80 ∧ Ext w2 w' ∧ Blk w' w2.heap.size ((roundsS kS b ws t).map u64) 215, ⟨80, 0, rfl, rfl, hx33, hb33'⟩, ?_⟩
    rintro m4 x71 j4 w35 ⟨t, hx4, hm4, hxt4, hv⟩
    obtain rfl : x71 = i64 t := by simpa using hx4
    have h8 := roundsS_length kS b ws hn t
    refine Do_pu pu_lss (CondV_if (fun ht => ?_) fun ht => ?_)
    · have htn : t < 80 := by omega
      have hxx : Ext w w35 := hxt.trans hxt4
      have hkk := (hk.ext hxx).k t htn
      have hstep : roundsS kS b ws (t + 1) = stepS (kS.getD t 0) ((schedS b 80).getD t 0) (roundsS kS b ws t) := rfl
      generalize roundsS kS b ws t = v at hv h8 hstep
      generalize hK : kS.getD t 0 = kk at hkk hstep
      refine Do_of (run_index1 (l := (schedS b 80).map u64) (v := u64 ((schedS b 80).getD t 0)) Tryz.underlying241 (by kernel_rfl) Tryz.underlying191 rfl (by omega) (by omega) (by rw [Int.toNat_natCast]; exact map_getD (schedS b 80) t (by rw [schedS_length]; omega)) _) ?_
      generalize (schedS b 80).getD t 0 = mm at hstep
      obtain ⟨a, b', c, d, e, f, g, i, rfl⟩ := list8 h8
      have ld : ∀ (z : World) (u : Nat) (y : UInt64), Ext w35.drew z → [a, b', c, d, e, f, g, i][u]? = some y → z.cell? ⟨w2.heap.size, 0 + ((u : Nat) : Int).toNat * 1, none⟩ = some (u64 y) := fun z u y hz hy => by
        rw [(hv.ext ((Ext.drew w35).trans hz)).cell, show 0 + ((u : Nat) : Int).toNat * 1 = u by omega, List.getElem?_map, hy]; rfl
      refine ⟨Ext, fun _ _ _ => True, Pre.ext, fun _ _ _ _ _ _ => trivial, ?_⟩
      refine PureQ_pu (pu_indexArr Tryz.underlying215 (s := 1) (by kernel_rfl) (by omega) (by omega)) ?_
      refine PureQ_load Tryz.underlying191 rfl (fun z hz => ld z 0 a hz.1 rfl) ?_
      refine PureQ_pu (pu_indexArr Tryz.underlying215 (s := 1) (by kernel_rfl) (by omega) (by omega)) ?_
      refine PureQ_load Tryz.underlying191 rfl (fun z hz => ld z 4 e hz.1 rfl) fun w38 hx38 _ => ?_
      have hx38' : Ext w35.drew w38.drew := hx38.trans (Ext.drew _)
      refine ⟨Ext, fun i v _ => i = 3 → v = u64 (mixS e 14 18 41), Pre.ext, fun _ _ _ _ _ h => h, ?_⟩
      refine PureQ_pu (pu_indexArr Tryz.underlying215 (s := 1) (by kernel_rfl) (by omega) (by omega)) ?_
      refine PureQ_load Tryz.underlying191 rfl (fun z hz => ld z 7 i (hx38'.trans hz.1) rfl) ⟨fun w39 hx39 _ => CallS_v (mix_c e (a := 14) (b := 18) (c := 41) (by omega) (by omega) (by omega) (by omega) (by omega) (by omega) w39) ⟨Ext.refl _, fun _ => rfl⟩, fun x82 => ?_⟩
      refine PureQ_at (v := u64 (i + mixS e 14 18 41)) (fun z hz => by rw [hz.2.1 rfl]; exact pu_uadd z) ?_
      refine PureQ_pu (pu_indexArr Tryz.underlying215 (s := 1) (by kernel_rfl) (by omega) (by omega)) ?_
      refine PureQ_load Tryz.underlying191 rfl (fun z hz => ld z 5 f (hx38'.trans hz.1) rfl) ?_
      refine PureQ_pu pu_uand ?_
      refine PureQ_pu pu_unot ?_
      refine PureQ_pu (pu_indexArr Tryz.underlying215 (s := 1) (by kernel_rfl) (by omega) (by omega)) ?_
      refine PureQ_load Tryz.underlying191 rfl (fun z hz => ld z 6 g (hx38'.trans hz.1) rfl) ?_
      refine PureQ_pu pu_uand ?_
      refine PureQ_pu pu_uxor ?_
      refine PureQ_pu pu_uadd ?_
      refine PureQ_pu (pu_indexArr Tryz.underlying241 (s := 1) (by kernel_rfl) (by omega) (by omega)) ?_
      refine PureQ_load Tryz.underlying191 rfl (v := u64 kk) (fun z hz => by simpa using cell_ext (((Ext.drew w35).trans hx38').trans hz.1) hkk) ?_
      refine PureQ_pu pu_uadd fun w41 hx41 _ => ?_
      refine Do_pu pu_uadd ?_
      have hx41' : Ext w35.drew w41.drew := (hx38'.trans hx41).trans (Ext.drew _)
      refine ⟨Ext, fun i v _ => i = 1 → v = u64 (mixS a 28 34 39), Pre.ext, fun _ _ _ _ _ h => h, ⟨fun w42 hx42 _ => CallS_v (mix_c a (a := 28) (b := 34) (c := 39) (by omega) (by omega) (by omega) (by omega) (by omega) (by omega) w42) ⟨Ext.refl _, fun _ => rfl⟩, fun x102 => ?_⟩⟩
      refine PureQ_pu (pu_indexArr Tryz.underlying215 (s := 1) (by kernel_rfl) (by omega) (by omega)) ?_
      refine PureQ_load Tryz.underlying191 rfl (fun z hz => ld z 1 b' (hx41'.trans hz.1) rfl) ?_
      refine PureQ_pu pu_uand ?_
      refine PureQ_pu (pu_indexArr Tryz.underlying215 (s := 1) (by kernel_rfl) (by omega) (by omega)) ?_
      refine PureQ_load Tryz.underlying191 rfl (fun z hz => ld z 2 c (hx41'.trans hz.1) rfl) ?_
      refine PureQ_pu pu_uand ?_
      refine PureQ_pu pu_uxor ?_
      refine PureQ_pu (pu_indexArr Tryz.underlying215 (s := 1) (by kernel_rfl) (by omega) (by omega)) ?_
      refine PureQ_load Tryz.underlying191 rfl (fun z hz => ld z 1 b' (hx41'.trans hz.1) rfl) ?_
      refine PureQ_pu (pu_indexArr Tryz.underlying215 (s := 1) (by kernel_rfl) (by omega) (by omega)) ?_
      refine PureQ_load Tryz.underlying191 rfl (fun z hz => ld z 2 c (hx41'.trans hz.1) rfl) ?_
      refine PureQ_pu pu_uand ?_
      refine PureQ_pu pu_uxor fun w44 hx44 hf44 => ?_
      rw [hf44.1 rfl]
      refine Do_pu pu_uadd ?_
      refine ⟨Ext, fun _ _ _ => True, Pre.ext, fun _ _ _ _ _ _ => trivial, ?_⟩
      refine PureQ_pu (pu_sliceArr Tryz.underlying215 (s := 1) (by kernel_rfl) (l := 1) (h := 8) _ _ (.inl rfl) (.inr ⟨rfl, rfl⟩) (by omega) (by omega) (by omega)) ?_
      refine PureQ_pu (pu_sliceArr Tryz.underlying215 (s := 1) (by kernel_rfl) (l := 0) (h := 7) _ _ (.inr ⟨rfl, rfl⟩) (.inl rfl) (by omega) (by omega) (by omega)) fun w45 hx45 _ => ?_
      have hxe : Ext w35 w45 := (Ext.drew _).trans ((hx41'.trans hx44).trans ((Ext.drew _).trans hx45))
      have hv45 := hv.ext hxe
      have hstep' : roundsS kS b ws (t + 1) = [i + mixS e 14 18 41 + (e &&& f ^^^ ~~~e &&& g) + kk + mm + (mixS a 28 34 39 + (a &&& b' ^^^ a &&& c ^^^ b' &&& c)), a, b', c, d + (i + mixS e 14 18 41 + (e &&& f ^^^ ~~~e &&& g) + kk + mm), e, f, g] := by
        rw [hstep]; simp [stepS, oneS, twoS]
      clear hstep
      generalize i + mixS e 14 18 41 + (e &&& f ^^^ ~~~e &&& g) + kk + mm = one at hstep' ⊢
      generalize mixS a 28 34 39 + (a &&& b' ^^^ a &&& c ^^^ b' &&& c) = two at hstep' ⊢
      refine DoN_copy (cs := [u64 a, u64 b', u64 c, u64 d, u64 e, u64 f, u64 g]) Tryz.underlying145 (by kernel_rfl) hv45 rfl (fun j v hj => ?_) (by simp) (by simp [u64, Value.oneCell']) fun w46 hb46 hg46 => ?_
      · have hj7 : j < 7 := by simpa using (List.getElem?_eq_some_iff.1 hj).1
        rw [add_off, hv45.cell, show 0 + 0 * 1 + j = j by omega, ← hj]
        exact List.getElem?_append_left (l₁ := [u64 a, u64 b', u64 c, u64 d, u64 e, u64 f, u64 g]) (l₂ := [u64 i]) (by simpa using hj7)
      have hb46' : Blk w46 w2.heap.size [u64 a, u64 a, u64 b', u64 c, u64 d, u64 e, u64 f, u64 g] 215 := hb46
      refine Do_pu pu_uadd ?_
      refine Do_pu (pu_indexArr Tryz.underlying215 (s := 1) (by kernel_rfl) (by omega) (by omega)) ?_
      refine Do_load Tryz.underlying191 rfl (v := u64 d) (by rw [hb46'.cell]; rfl) ?_
      refine Do_pu pu_uadd ?_
      refine Do_pu (pu_indexArr Tryz.underlying215 (s := 1) (by kernel_rfl) (by omega) (by omega)) ?_
      refine DoU_store (i := 0) (by kernel_rfl) hb46' (by simp) rfl fun w52 hb52 hg52 => ?_
      refine Do_pu (pu_indexArr Tryz.underlying215 (s := 1) (by kernel_rfl) (by omega) (by omega)) ?_
      refine DoU_store (i := 4) (by kernel_rfl) hb52 (by simp) rfl fun w54 hb54 hg54 => ?_
      refine Do_pu (pu_iadd (by omega) (by omega)) ?_
      have hrow : ∀ k, some w2.heap.size = some k → w2.heap.size ≤ k := fun k e => by cases e; exact Nat.le_refl _
      refine ⟨m4 - 1, by omega, t + 1, by simp, by omega, (((hxt4.trans hxe).grown hg46 hrow).grown hg52 hrow).grown hg54 hrow, ?_⟩
      rw [hstep']
      exact hb54
    · obtain rfl : t = 80 := by omega
      have hr8 := roundsS_length kS b ws hn 80
      have hB : blockS kS ws b = ws.zipWith (· + ·) (roundsS kS b ws 80) := rfl
      generalize roundsS kS b ws 80 = r at hv hr8 hB
      have hxt35 : Ext w w35 := hxt.trans hxt4
      refine ⟨fun m xs w' => ∃ t : Nat, xs = [i64 t] ∧ m + t = 8 ∧ w.grownBy w' (some h) ∧ Blk w' w2.heap.size (r.map u64) 215 ∧ Blk w' h (((ws.zipWith (· + ·) r).take t).map u64 ++ (ws.drop t).map u64 ++ tl) th, ⟨8, 0, rfl, rfl, grown_of_ext hxt35 _, hv, by simpa using hw.ext hxt35⟩, ?_⟩
      rintro m9 x132 j9 w56 ⟨t, hx9, hm9, hg9, hr9, hb9⟩
      obtain rfl : x132 = i64 t := by simpa using hx9
      have hhne : h ≠ w2.heap.size := by have := hxt.size; omega
      have hzl : (ws.zipWith (· + ·) r).length = 8 := by simp [hn, hr8]
      refine Do_pu pu_lss (CondV_if (fun ht => ?_) fun ht => ?_)
      · have htn : t < 8 := by omega
        have e3 : (List.map u64 (List.take t (List.zipWith (· + ·) ws r))).length = t := by simp [hn, hr8]; omega
        refine ⟨Ext, fun _ _ _ => True, Pre.ext, fun _ _ _ _ _ _ => trivial, ?_⟩
        refine PureN_pu pu_nilptr ?_
        refine PureQ_pu (pu_indexArr Tryz.underlying215 (s := 1) (by kernel_rfl) (by omega) (by omega)) ?_
        refine PureQ_load Tryz.underlying191 rfl (v := u64 (ws.getD t 0)) (fun z hz => ?_) ?_
        · rw [(hb9.ext ((Ext.drew _).trans hz.1)).cell, List.append_assoc, List.getElem?_append_right (by rw [e3]; omega), e3, show 0 + (t : Int).toNat * 1 - t = 0 by omega, List.getElem?_append_left (by simp; omega)]
          simp [hn, htn]
        refine PureQ_pu (pu_indexArr Tryz.underlying215 (s := 1) (by kernel_rfl) (by omega) (by omega)) ?_
        refine PureQ_load Tryz.underlying191 rfl (v := u64 (r.getD t 0)) (fun z hz => ?_) ?_
        · rw [(hr9.ext ((Ext.drew _).trans hz.1)).cell, show 0 + (t : Int).toNat * 1 = t by omega]
          exact map_getD r t (by omega)
        refine PureQ_pu pu_uadd ?_
        refine PureN_pu pu_nilptr fun w58 hx58 _ => ?_
        refine Do_pu (pu_indexArr Tryz.underlying215 (s := 1) (by kernel_rfl) (by omega) (by omega)) ?_
        have hx58' : Ext w56 w58 := (Ext.drew _).trans hx58
        refine DoU_store (i := 0 + (t : Int).toNat * 1) (by kernel_rfl) (hb9.ext hx58') (by simp [hn]; omega) rfl fun w59 hb59 hg59 => ?_
        refine Do_pu (pu_iadd (by omega) (by omega)) ?_
        refine ⟨m9 - 1, by omega, t + 1, by simp, by omega, (hg9.trans (grown_of_ext hx58' _)).trans hg59, (hr9.ext hx58').kept hg59 (fun e => hhne (by cases e; rfl)), ?_⟩
        have e1 : (ws.zipWith (· + ·) r).take (t + 1) = (ws.zipWith (· + ·) r).take t ++ [ws.getD t 0 + r.getD t 0] := by
          rw [List.take_add_one]; simp [hn, hr8, htn]
        have e2 : ws.drop t = ws.getD t 0 :: ws.drop (t + 1) := by
          rw [List.drop_eq_getElem_cons (by omega)]; simp [hn, htn]
        rw [e2] at hb59
        rw [e1]
        rw [List.append_assoc, List.set_append_right _ _ (by rw [e3]; omega), e3, show 0 + (t : Int).toNat * 1 - t = 0 by omega] at hb59
        simpa using hb59
      · obtain rfl : t = 8 := by omega
        refine Ret.of ⟨?_, hg9⟩
        rw [hB]
        rw [List.take_of_length_le (by omega), List.drop_eq_nil_of_le (by omega)] at hb9
        simpa using hb9
end Go.Proofs.YtpdceilhgaladaaGreatDoor
