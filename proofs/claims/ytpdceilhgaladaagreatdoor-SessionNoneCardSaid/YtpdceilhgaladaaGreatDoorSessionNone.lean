/- The statement SessionNone's function: it returns true, and leaves all that was there. -/
import Derived.Test.YtpdceilhgaladaaGreatDoorOffer
namespace Go.Proofs.YtpdceilhgaladaaGreatDoor.Law24
open Go.Vc Go.Vc.Sha Go.RowKit Go.Proofs.YtpdceilhgaladaaGreatDoor
theorem awake_c {w : World} (hk : Laid w) : Calls Tryz.prog 6 #[] w (Ret fun v w' => v = .bool true ∧ Ext w w') := by
  have hlo : ∀ {z : World}, Ext w z → ∀ p, w.heap.size ≤ p → 2 ≠ p ∧ 0 ≠ p := fun _ p hp => by
    have h1 := World.block_lt_of_cell? w _ (hk.k 0 (by omega))
    have h2 := World.block_lt_of_cell? w _ (hk.v0 0 (by omega))
    simp only at h1 h2
    omega
  refine vc_buttresslaw24_awake ?_
  unfold V_buttresslaw24_awake
  refine CallS_r (merkleNew_c 1 hk) fun x8 w1 hh => ?_
  obtain ⟨hx1, hh⟩ := hh
  rw [if_pos (by decide)] at hh
  obtain ⟨rfl, he1, _⟩ := hh
  obtain ⟨t, ht⟩ : ∃ t, t = w.heap.size + 1 := ⟨_, rfl⟩
  obtain ⟨m, hm⟩ : ∃ m, m = w.heap.size := ⟨_, rfl⟩
  rw [← ht, ← hm] at he1
  rw [← ht]
  have hk1 := hk.ext hx1
  have hlt1 := he1.lt
  refine CallS_r (newPull_c he1 hk1 (by decide) 3 1) fun x10 w2 hh => ?_
  obtain ⟨hx2, hh⟩ := hh
  rw [if_pos (by decide)] at hh
  obtain ⟨p, t1, m1, mp1, rfl, hp2, hpl, ht1l, hm1l, hmp1l⟩ := hh
  have he2 := he1.ext hx2
  have hk2 := hk1.ext hx2
  refine CallS_r (Top0_c he2 hk2 (by decide)) fun x14 w3 hh => ?_
  obtain ⟨hr3, ho3, hl3⟩ := hh
  have he3 := hr3.2 he2
  have hk3 := hr3.laid he2 hk2
  have hp3 := hp2.er' he2 hr3 (by omega) (by omega)
  refine CallS_r (mkOffer_c (own64 ho3) 3 1) fun x15 w4 hh => ?_
  obtain ⟨hx4, gv, rfl, hrt4⟩ := hh
  have he4 := he3.ext hx4
  refine CallS_r (Sum0_c he4 (hk3.ext hx4) [] (by decide)) fun x17 w5 hh => ?_
  obtain ⟨hr5, hh⟩ := hh
  rw [if_pos (by decide)] at hh
  obtain ⟨ho5, hl5⟩ := hh
  have he5 := hr5.2 he4
  have hk5 := hr5.laid he4 (hk3.ext hx4)
  have hp5 := (hp3.ext hx4).er' he4 hr5 (by omega) (by omega)
  have hs12 := hx2.size
  have hs3 := hr3.1.size
  have hs4 := hx4.size
  have hs5 := hr5.1.size
  have hrt5 : RtV w5 ⟨3, 1, 1, shaS (4 :: UInt8.ofNat (1 : Int).toNat :: noneS), List.replicate 64 0⟩ x14 gv := by
    obtain ⟨es, clock, hm4, _, _⟩ := he4.map
    refine ⟨Sees.chg hrt4.1 hr5.1 (fun hne g hg e => ?_), Sees.chg hrt4.2 hr5.1 (fun hne g hg e => ?_)⟩
    · subst e; exact Sees.noMap hrt4.1 hne hm4 hg
    · subst e; exact Sees.noMap hrt4.2 hne hm4 hg
  have h64 : (shaS (4 :: UInt8.ofNat (1 : Int).toNat :: noneS)).length = 64 := by have := ho3.1; simpa using this
  have hpm := hp5.blk.lt
  have hrr : (⟨3, 1, 1, shaS (4 :: UInt8.ofNat (1 : Int).toNat :: noneS), List.replicate 64 0⟩ : Rt).right := ⟨⟨by decide, by decide, by decide, by decide, by decide, by decide, h64⟩, by simp⟩
  have hlt3 := (hp3.tree).lt
  have hpb3 := hp3.blk.lt
  refine CallS_r (offerOk_c hp5 hk5 (hlo hx1 p (by have := hx1.size; omega)) (by decide) (by decide) hrt5 hrr rfl rfl rfl (own64 ho5) (fun g hg => by have := hl5 g hg; omega)) fun x18 w6 hh => ?_
  obtain ⟨rfl, hc6, hp6⟩ := hh
  refine Do_pu (pu_ext rfl) ?_
  refine Do_pu (pu_ext rfl) ?_
  have he6 := he5.pull hp5 hc6 (by omega)
  have hlo1 := hlo hx1 p (by have := hx1.size; omega)
  have hlo2 := hlo hx1 m1 (by have := hx1.size; omega)
  have hk6 : Laid w6 := hk5.chg hc6 (fun e => e.elim hlo2.1 hlo1.1) (fun e => e.elim hlo2.2 hlo1.2)
  refine CallS_r (newPull_c he6 hk6 (by decide) 3 1) fun x22 w9 hh => ?_
  obtain ⟨hx9, hh⟩ := hh
  rw [if_pos (by decide)] at hh
  obtain ⟨q, t2, m2, mp2, rfl, hq9, hql, ht2l, hm2l, hmp2l⟩ := hh
  have hs6 := hc6.size
  have he9 := he6.ext hx9
  have hk9 := hk6.ext hx9
  refine CallS_r (Top0_c he9 hk9 (by decide)) fun x26 w10 hh => ?_
  obtain ⟨hr10, ho10, hl10⟩ := hh
  have he10 := hr10.2 he9
  have hp10 := (hp6.ext hx9).er' he9 hr10 (by omega) (by omega)
  have hq10 := hq9.er' he9 hr10 (by omega) (by omega)
  refine CallS_r (mkOffer_c (own64 ho10) 4 1) fun x27 w11 hh => ?_
  obtain ⟨hx11, gv2, rfl, hrt11⟩ := hh
  have he11 := he10.ext hx11
  refine CallS_r (Sum0_c he11 ((hr10.laid he9 hk9).ext hx11) [] (by decide)) fun x29 w12 hh => ?_
  obtain ⟨hr12, hh⟩ := hh
  have hp12 := (hp10.ext hx11).er' he11 hr12 (by omega) (by omega)
  have hq12 := (hq10.ext hx11).er' he11 hr12 (by omega) (by omega)
  have hrt12 : RtV w12 ⟨4, 1, 1, shaS (4 :: UInt8.ofNat (1 : Int).toNat :: noneS), List.replicate 64 0⟩ x26 gv2 := by
    obtain ⟨es, clock, hm4, _, _⟩ := he11.map
    refine ⟨Sees.chg hrt11.1 hr12.1 (fun hne g hg e => ?_), Sees.chg hrt11.2 hr12.1 (fun hne g hg e => ?_)⟩
    · subst e; exact Sees.noMap hrt11.1 hne hm4 hg
    · subst e; exact Sees.noMap hrt11.2 hne hm4 hg
  have hrr2 : (⟨4, 1, 1, shaS (4 :: UInt8.ofNat (1 : Int).toNat :: noneS), List.replicate 64 0⟩ : Rt).right := ⟨⟨by decide, by decide, by decide, by decide, by decide, by decide, h64⟩, by simp⟩
  refine CallS_r (offerBad_c hq12 (by decide) hrt12 hrr2 (by decide)) fun x30 w13 hh => ?_
  obtain ⟨rfl, hx13⟩ := hh
  refine Do_pu (pu_ext rfl) ?_
  refine Do_pu (pu_ext rfl) ?_
  refine Do_pu pu_eql (BoolS (fun _ => ?_) fun h => by simp at h)
  refine DoN_pu (pu_len Tryz.underlying31 (Sees.nil w)) ?_
  refine Do_pu pu_eql (BoolS (fun _ => ?_) fun h => by simp at h)
  refine CallS_v (done_c (hp12.ext hx13) (by decide)) (BoolT ?_)
  refine Do_pu pu_eql (BoolS (fun _ => ?_) fun h => by simp at h)
  refine CallS_v (done_c (hq12.ext hx13) (by decide)) ?_
  refine Do_pu pu_not (BoolT ?_)
  refine CallS_v (newPullNone_c (.inl rfl) 3 1) ?_
  refine Do_pu (pu_ptreq Tryz.underlying26) (Ret.of ⟨rfl, ?_⟩)
  have e5 : Ext w w5 := (((hx1.trans hx2).chg hr3.1 (fun g e => by omega)).trans hx4).chg hr5.1 (fun g e => by omega)
  have e6 : Ext w w6 := e5.chg hc6 (fun g e => by have := hx1.size; omega)
  exact ((((e6.trans hx9).chg hr10.1 (fun g e => by omega)).trans hx11).chg hr12.1 (fun g e => by omega)).trans hx13
theorem sessionNone_c {w : World} (hk : Laid w) (peer nonce : Int) (path : List UInt8) (hp : path.length ≤ 9223372036854775807) {r : Rt} {sv gv : Value} (hr : RtV w r sv gv) :
    Calls Tryz.prog 3 #[i64 peer, i64 nonce, str path, .agg (r.cells sv gv).toArray] w (Ret fun v w' => v = .bool true ∧ Ext w w') := by
  refine vc_buttresslaw24_SessionNone ?_
  unfold V_buttresslaw24_SessionNone
  have hsl := hr.1.len
  have hgl := hr.2.len
  refine Do_box (l := r.cells sv gv) rfl fun w1 n1 => ?_
  refine CallS_r (awake_c (hk.ext n1.ext)) fun x17 w2 hh => ?_
  obtain ⟨rfl, hx2⟩ := hh
  have hx2' : Ext w w2 := n1.ext.trans hx2
  refine Do_pu pu_not (CondF ?_)
  refine DoN_pu (pu_lenS Tryz.underlying9) ?_
  refine Do_pu pu_gtr (BoolS_if (fun _ => Ret.of ⟨rfl, hx2'⟩) fun h600 => ?_)
  refine Do_pu (pu_field Tryz.underlying24 rfl (n := 0) (o := 3) (by kernel_rfl) rfl) ?_
  refine Do_load Tryz.underlying22 rfl ((n1.blk.at hx2 _).trans rfl) ?_
  refine DoN_pu (pu_len Tryz.underlying22 hr.1) ?_
  refine Do_pu pu_gtr (BoolS_if (fun _ => Ret.of ⟨rfl, hx2'⟩) fun _ => ?_)
  refine Do_pu (pu_field Tryz.underlying24 rfl (n := 0) (o := 4) (by kernel_rfl) rfl) ?_
  refine Do_load Tryz.underlying22 rfl ((n1.blk.at hx2 _).trans rfl) ?_
  refine DoN_pu (pu_len Tryz.underlying22 hr.2) ?_
  refine Do_pu pu_gtr (CondV_if (fun _ => Ret.of ⟨rfl, hx2'⟩) fun _ => ?_)
  refine ⟨fun xs w' => xs = [.bool (decide (1 ≤ peer ∧ peer ≤ 7 ∧ 1 ≤ nonce))] ∧ w' = w2, ?_, ?_⟩
  · refine Do_pu pu_geq (BoolS_if (fun h1 => ?_) fun h1 => ⟨by rw [decide_eq_false (by omega)], rfl⟩)
    refine Do_pu pu_leq (BoolS_if (fun h2 => ?_) fun h2 => ⟨by rw [decide_eq_false (by omega)], rfl⟩)
    exact Do_pu pu_geq ⟨by simp [h1, h2], rfl⟩
  rintro x9 j1 w17 ⟨hx9, rfl⟩
  obtain rfl : x9 = .bool (decide (1 ≤ peer ∧ peer ≤ 7 ∧ 1 ≤ nonce)) := by simpa using hx9
  refine CallS_r (merkleNew_c 0 (hk.ext hx2')) fun x44 w18 hh => ?_
  obtain ⟨hx18, hh⟩ := hh
  rw [if_pos (by decide)] at hh
  obtain ⟨rfl, he18, _⟩ := hh
  refine CallS_r (newPull_c he18 (hk.ext (hx2'.trans hx18)) (by decide) peer nonce) fun x47 w19 hh => ?_
  obtain ⟨hx19, hh⟩ := hh
  have hx19' : Ext w w19 := hx2'.trans (hx18.trans hx19)
  obtain ⟨o, rfl, hob⟩ : ∃ o : Option Addr, x47 = .pointer o ∧ o.isSome = decide (1 ≤ peer ∧ peer ≤ 7 ∧ 1 ≤ nonce) := by
    by_cases hg : 1 ≤ peer ∧ peer ≤ 7 ∧ 1 ≤ nonce
    · rw [if_pos hg] at hh
      obtain ⟨p, _, _, _, rfl, _⟩ := hh
      exact ⟨_, rfl, by rw [decide_eq_true hg]; rfl⟩
    · rw [if_neg hg] at hh
      exact ⟨none, hh, by rw [decide_eq_false hg]; rfl⟩
  refine Do_pu (pu_ptrne Tryz.underlying26) ?_
  rw [hob]
  refine Do_pu (pu_boolne Tryz.underlying4) (BoolS (fun h => by simp at h) fun _ => ?_)
  refine Do_of (run_buildS (cells := [.slice none 0 0, .slice none 0 0, .int .i64 0, .map none]) Tryz.underlying36 (zero := [.slice none 0 0, .slice none 0 0, .int .i64 0, .map none]) (by kernel_rfl) (by kernel_rfl) (by kernel_rfl) _) ?_
  refine Do_box rfl fun w23 n23 => ?_
  refine CallS_v (newPullNone_c (.inr ⟨_, _, _, _, rfl, n23.blk⟩) 1 1) ?_
  refine Do_pu (pu_ptrne Tryz.underlying26) (CondF ?_)
  refine Do_of (run_buildS (cells := [.pointer none, .map none, .int .i64 0, .int .i64 0, .bool false]) Tryz.underlying42 (zero := [.pointer none, .map none, .int .i64 0, .int .i64 0, .bool false]) (by kernel_rfl) (by kernel_rfl) (by kernel_rfl) _) ?_
  refine Do_box rfl fun w27 n27 => ?_
  refine Do_build1L (vs := [.pointer none, ptr w23.heap.size]) Tryz.underlying43 (rowIs_of (bytes := 8) (z := [.pointer none]) (by kernel_rfl)) (one_cons rfl (one_cons rfl one_nil)) rfl rfl (by decide) (by decide) fun w28 n28 => ?_
  have hs28 : Sees w28 (.slice (some ⟨w27.heap.size, 0, none⟩) 2 2) 2 [.pointer none, ptr w23.heap.size] := (Own.new (s := 1) n28 rfl (by decide)).sees
  have hx28 : Ext w w28 := hx19'.trans (n23.ext.trans (n27.ext.trans n28.ext))
  have hb28 : Ext w1 w28 := hx2.trans (hx18.trans (hx19.trans (n23.ext.trans (n27.ext.trans n28.ext))))
  refine ⟨fun n xs w' => ∃ i : Nat, xs = [i64 i] ∧ n + i = 2 ∧ Ext w28 w', ⟨2, 0, rfl, rfl, Ext.refl _⟩, ?_⟩
  rintro m2 x11 j2 w29 ⟨i, hx11, hm, hx29⟩
  obtain rfl : x11 = i64 i := by simpa using hx11
  refine Do_pu pu_lss (CondV_if (fun hi => ?_) fun hi => Ret.of ⟨rfl, hx28.trans hx29⟩)
  obtain ⟨q, hq, hno⟩ : ∃ q, [.pointer none, ptr w23.heap.size][i]? = some q ∧ NoPull w28 q := by
    obtain rfl | rfl : i = 0 ∨ i = 1 := by omega
    · exact ⟨_, rfl, .inl rfl⟩
    · exact ⟨_, rfl, .inr ⟨_, _, _, _, _, rfl, n27.blk.ext n28.ext⟩⟩
  have ldq : ∀ {z : World}, Ext w28 z → (Instr.loadAt 26 (elemP (.slice (some ⟨w27.heap.size, 0, none⟩) 2 2) (i * 1))).run Tryz.prog z = .ok q z := fun hz => (hs28.ext hz).loadP Tryz.underlying26 rfl (by rw [Nat.mul_one]; exact hq)
  refine ⟨Ext, fun k v _ => k = 7 → v = .tuple #[nilS_, i64 1], Pre.ext, fun _ _ _ _ _ h => h, ?_⟩
  refine PureQ_pu (hs28.indexP (i := i) (s := 1) Tryz.underlying43 (by kernel_rfl) (by omega)) ?_
  refine PureQ_at (v := q) (fun z hz => ldq (hx29.trans ((Ext.drew _).trans hz.1))) ?_
  refine PureQ_loadAgg (l := r.cells sv gv) Tryz.underlying24 rfl (by kernel_rfl) (fun z hz => (n1.blk.ext (hb28.trans (hx29.trans ((Ext.drew _).trans hz.1)))).all) ?_
  refine PureQ_pu (pu_field Tryz.underlying24 rfl (n := 0) (o := 3) (by kernel_rfl) rfl) ?_
  refine PureQ_load Tryz.underlying22 rfl (fun z hz => (n1.blk.at0 (hb28.trans hx29) _ hz.1).trans rfl) ?_
  refine ⟨fun w31 hx31 _ => CallS_r (noOffer_c (hno.ext (hx29.trans ((Ext.drew _).trans hx31)))) fun v z hh => ⟨hh.2, fun _ => hh.1⟩, fun x72_1 => ?_⟩
  refine PureQ_at (v := nilS_) (fun z hz => by rw [hz.2.1 rfl]; exact pu_ext rfl z) ?_
  refine PureQ_at (v := i64 1) (fun z hz => by rw [hz.2.1 rfl]; exact pu_ext rfl z) ?_
  intro w33 hx33 _
  have hx33' : Ext w28 w33 := hx29.trans ((Ext.drew _).trans hx33)
  refine Do_pu (hs28.indexP (i := i) (s := 1) Tryz.underlying43 (by kernel_rfl) (by omega)) ?_
  refine Do_of (ldq hx33') ?_
  refine Do_of (run_buildS (cells := [.int .u8 0, nilS_, nilS_, nilS_]) Tryz.underlying52 (zero := [.int .u8 0, .slice none 0 0, .slice none 0 0, .slice none 0 0]) (by kernel_rfl) (by kernel_rfl) (by kernel_rfl) _) ?_
  refine CallS_r (noNode_c (hno.ext hx33')) fun x82 w37 hh => ?_
  obtain ⟨rfl, hx37⟩ := hh
  refine Do_pu (pu_ext rfl) ?_
  refine Do_pu (pu_ext rfl) ?_
  refine Do_pu (pu_ext rfl) ?_
  refine Do_pu pu_neq (BoolS (fun h => by simp at h) fun _ => ?_)
  refine DoN_pu (pu_len Tryz.underlying31 (Sees.nil w)) ?_
  refine Do_pu pu_neq (BoolS (fun h => by simp at h) fun _ => ?_)
  refine Do_pu pu_neq (BoolS (fun h => by simp at h) fun _ => ?_)
  refine DoN_pu (pu_len Tryz.underlying47 (Sees.nil w)) ?_
  refine Do_pu pu_neq (BoolS (fun h => by simp at h) fun _ => ?_)
  refine DoN_pu (pu_len Tryz.underlying31 (Sees.nil w)) ?_
  refine Do_pu pu_neq (BoolS (fun h => by simp at h) fun _ => ?_)
  have hx37' : Ext w28 w37 := hx33'.trans hx37
  refine Do_pu (hs28.indexP (i := i) (s := 1) Tryz.underlying43 (by kernel_rfl) (by omega)) ?_
  refine Do_of (ldq hx37') ?_
  refine CallS_v (noDone_c (hno.ext hx37')) (BoolF ?_)
  refine Do_pu (hs28.indexP (i := i) (s := 1) Tryz.underlying43 (by kernel_rfl) (by omega)) ?_
  refine Do_of (ldq hx37') ?_
  refine CallS_v (noAsked_c (hno.ext hx37')) ?_
  refine Do_pu pu_neq (CondV_b (fun h => by simp at h) fun _ => ?_)
  refine Do_pu (pu_iadd (by omega) (by omega)) ?_
  exact ⟨m2 - 1, by omega, i + 1, by simp, by omega, hx37'⟩
end Go.Proofs.YtpdceilhgaladaaGreatDoor.Law24
