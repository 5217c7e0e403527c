/- What a pull of a tree without leaves makes of offers. -/
import Derived.Test.YtpdceilhgaladaaGreatDoorPull
namespace Go.Proofs.YtpdceilhgaladaaGreatDoor
open Go.Vc Go.Vc.Sha Go.RowKit
theorem zeros_bytes (n : Nat) : (madeCells [u8 0].toArray (n * 1)).toList = (List.replicate n (0 : UInt8)).map u8 := by
  apply List.ext_getElem
  · simp [madeCells]
  · intro i h1 h2
    simp [madeCells, Nat.mod_one]
theorem own64 {b : List UInt8} {w : World} {v : Value} (h : Own w 5 1 v 64 (b.map u8)) : SeesB w v b := by
  have hb : b.length = 64 := by have := h.1; simpa using this
  unfold SeesB; rw [hb]; exact h.sees
theorem mkOffer_c {w : World} {v : Value} {top : List UInt8} (hv : SeesB w v top) (peer shard : Int) : Calls Tryz.prog 27 #[i64 peer, i64 shard, v] w
    (Ret fun r w' => Ext w w' ∧ ∃ gv, r = .agg (Rt.cells ⟨peer, shard, 1, top, List.replicate 64 0⟩ v gv).toArray ∧ RtV w' ⟨peer, shard, 1, top, List.replicate 64 0⟩ v gv) := by
  obtain ⟨a, c, rfl⟩ := Sees.shape hv
  refine vc_buttresslaw24_offer ?_
  unfold V_buttresslaw24_offer
  refine Do_alloc (l := [.int .i64 0, .int .i64 0, .int .i64 0, .slice none 0 0, .slice none 0 0]) (by kernel_rfl) fun w1 n1 => ?_
  refine Do_makeSlice (l := 64) (c := 64) Tryz.underlying22 row8 (by omega) (by omega) (by omega) fun w2 n2 => ?_
  rw [zeros_bytes] at n2
  have hg : SeesB w2 (.slice (some ⟨w1.heap.size, 0, none⟩) 64 64) (List.replicate 64 0) := own64 (Own.new n2 (n := 64) (s := 1) (by simp) (by decide))
  refine Do_of (run_buildS (cells := [i64 peer, i64 shard, i64 1, .slice a top.length c, .slice (some ⟨w1.heap.size, 0, none⟩) 64 64]) Tryz.underlying24 (zero := [.int .i64 0, .int .i64 0, .int .i64 0, .slice none 0 0, .slice none 0 0]) (by kernel_rfl) (by kernel_rfl) (by kernel_rfl) _) ?_
  refine DoU_storeAgg (by kernel_rfl) (n1.blk.ext n2.ext) (by simp) (one_cons rfl (one_cons rfl (one_cons rfl (one_cons rfl (one_cons rfl one_nil))))) fun w4 hb4 hg4 => ?_
  have hx2 : Ext w w2 := n1.ext.trans n2.ext
  have hx4 : Ext w w4 := hx2.grown hg4 (fun k e => by cases e; exact Nat.le_refl _)
  exact ⟨[.agg (Rt.cells ⟨peer, shard, 1, top, List.replicate 64 0⟩ (.slice a top.length c) (.slice (some ⟨w1.heap.size, 0, none⟩) 64 64)).toArray], ⟨⟨_, rfl, run_loadVarAgg Tryz.underlying24 rfl (by kernel_rfl) (hb4.whole (by simp)).all⟩, trivial⟩,
    Ret.of ⟨hx4, _, rfl, SeesB.ext hv hx4, Sees.kept hg hg4 (fun g e => by cases e; have := n1.size; simp [Value.ownBlock]; omega)⟩⟩
theorem noU8 {t mp : Nat} {n k : Int} {b : Bool} (h : ∀ u ∈ noneS.map u8, u ∈ [ptr t, .map (some mp), i64 n, i64 k, .bool b]) : False := by
  have hl := noneS_len
  cases hs : noneS with
  | nil => rw [hs] at hl; cases hl
  | cons c l =>
    have := h (u8 c) (by rw [hs]; exact List.mem_cons_self ..)
    simp [u8] at this
theorem Blk.noMap {w : World} {g clock : Nat} {l : List Value} {t : TypeId} {es : List MapEntry} (h : Blk w g l t) (hm : MapB w g es clock) : False := by
  have h1 : w.heap[g]? = _ := h
  have h2 : w.heap[g]? = _ := hm
  rw [h1] at h2
  cases h2
theorem Sees.noMap {w : World} {v : Value} {m g clock : Nat} {l : List Value} {es : List MapEntry} (hv : Sees w v m l) (hl : l ≠ []) (hm : MapB w g es clock) : v.ownBlock ≠ some g := by
  intro hg
  rcases hv with ⟨rfl, _, rfl⟩ | ⟨a, c, rfl, _, _, h4⟩
  · exact hl rfl
  · cases l with
    | nil => exact hl rfl
    | cons u l =>
      have h := h4 0 u rfl
      have hab : (a.add 0).block = g := by
        have : a.block = g := by simpa [Value.ownBlock] using hg
        rw [← this]; unfold Addr.add; split <;> rfl
      have hm' : w.heap[(a.add 0).block]? = some (.map es.toArray clock) := by rw [hab]; exact hm
      unfold World.cell? at h
      rw [hm'] at h
      cases h
theorem none_ne : noneS.map u8 ≠ [] := fun e => by have := congrArg List.length e; rw [List.length_map, noneS_len] at this; cases this
theorem PullE.er' {w w' : World} {p t1 m1 mp t m : Nat} {sh sh' peer : Int} {b : Bool} (h : PullE w p t1 m1 mp sh peer b) (hT : Empty w t m sh') (hr : ER t m sh' w w') (h1 : m ≠ m1) (h2 : m ≠ mp) : PullE w' p t1 m1 mp sh peer b := by
  obtain ⟨es, clock, hm, _, _⟩ := hT.map
  obtain ⟨es1, clock1, hm1, _, hes1⟩ := h.tree.map
  refine h.er hr h1 (fun e => ?_) (fun e => ?_) h2 (fun e es2 clock2 hm2 he2 => ?_)
  · subst e; exact Blk.noMap h.tree.blk hm
  · subst e; exact Blk.noMap h.blk hm
  · have e1 : w.heap[m1]? = _ := hm1
    have e2 : w.heap[m1]? = _ := hm2
    rw [e1] at e2
    have : es1 = es2 := by simpa using (Obj.map.inj (Option.some.inj e2)).1
    subst this
    exact Sees.noMap (hes1 e he2).2.1 none_ne hm
/-- What an offer changes leaves another tree. -/
theorem Empty.pull {w w' : World} {p t1 m1 mp t m : Nat} {sh sh' peer : Int} {b : Bool} (hT : Empty w t m sh') (h : PullE w p t1 m1 mp sh peer b) (hc : Chg w w' (fun g => g = m1 ∨ g = p)) (h1 : m ≠ m1) : Empty w' t m sh' := by
  obtain ⟨es, clock, hm, hst, hes⟩ := hT.map
  obtain ⟨es1, clock1, hm1, _, _⟩ := h.tree.map
  have htp : t ≠ p := fun e => by subst e; have := (h.blk.inj hT.blk).1; simp at this
  have htm : t ≠ m1 := fun e => by subst e; exact Blk.noMap hT.blk hm1
  have hmp : m ≠ p := fun e => by subst e; exact Blk.noMap h.blk hm
  refine ⟨hT.lo, hT.blk.chg hc (fun e => e.elim htm htp), hT.ne, es, clock, (hc.block m hm.lt (fun e => e.elim h1 hmp)).trans hm, hst, fun e he => ⟨(hes e he).1, (hes e he).2.1.chg hc (fun _ g hg e' => ?_), (hes e he).2.2⟩⟩
  rcases e' with rfl | rfl
  · exact Sees.noMap (hes e he).2.1 none_ne hm1 hg
  · exact noU8 ((hes e he).2.1.mem h.blk hg)
theorem shard0_c {w : World} {t m : Nat} {sh : Int} (h : Empty w t m sh) : Calls Tryz.prog 21 #[ptr t] w (Ret fun v w' => v = i64 sh ∧ w' = w) := by
  refine vc_merkle_Tree_Shard ?_
  unfold V_merkle_Tree_Shard
  refine CallS_v (there_c h.blk) ?_
  refine Do_pu pu_not (CondF ?_)
  refine DoN_pu pu_nilptr ?_
  refine Do_pu (pu_field Tryz.underlying36 rfl (n := 0) (o := 2) (by kernel_rfl) rfl) ?_
  exact Do_load Tryz.underlying3 rfl ((h.blk.cell _).trans rfl) (Ret.of ⟨rfl, rfl⟩)
theorem other0_c {w : World} {t m : Nat} {sh : Int} (h : Empty w t m sh) (hk : Laid w) {nv : Value} {b : List UInt8} (hv : SeesB w nv b) (hn : ∀ g, nv.ownBlock = some g → g ≠ m) (l : List UInt8) (hl : isPath l = true) (hl' : l.length ≤ 70368744177664) :
    Calls Tryz.prog 64 #[.agg #[ptr t], str l, nv] w (Ret fun v w' => v = .bool (!(noneS == b)) ∧ ER t m sh w w') := by
  refine vc_session_pullOf_other ?_
  unfold V_session_pullOf_other
  refine Do_box (l := [ptr t]) rfl fun w1 n1 => ?_
  refine Do_pu (pu_field Tryz.underlying38 rfl (n := 0) (o := 0) (by kernel_rfl) rfl) ?_
  refine Do_load Tryz.underlying28 rfl ((n1.blk.cell _).trans rfl) ?_
  refine CallS_r (Sum0_c (h.ext n1.ext) (hk.ext n1.ext) l hl') fun x10 w4 hh => ?_
  obtain ⟨hr4, hh⟩ := hh
  rw [if_pos hl] at hh
  refine CallS_v (bytesEqual_c (own64 hh.1) (Sees.chg (SeesB.ext hv n1.ext) hr4.1 (fun _ g hg => hn g hg))) ?_
  exact Do_pu pu_not (Ret.of ⟨rfl, (ER.ext n1.ext).trans hr4⟩)
theorem ask0_c {w : World} {p t m mp : Nat} {sh peer : Int} {b : Bool} (h : PullE w p t m mp sh peer b) (hk : Laid w) {nv sv pv : Value} (hs : Sees w sv 1 [nv]) (hp : Sees w pv 1 [str []]) (hnv : SeesB w nv noneS) (hn : ∀ g, nv.ownBlock = some g → g ≠ m) (hsn : ∀ g, sv.ownBlock = some g → g ≠ m) (hpn : ∀ g, pv.ownBlock = some g → g ≠ m) :
    Calls Tryz.prog 32 #[ptr p, sv, pv] w (Ret fun v w' => v = nilS_ ∧ ER t m sh w w') := by
  refine vc_session_Pull_ask ?_
  unfold V_session_Pull_ask
  refine DoN_pu (pu_len Tryz.underlying31 hp) ?_
  refine ⟨fun n xs w' => ∃ i : Nat, xs = [nilS_, i64 i] ∧ n + i = 1 ∧ ER t m sh w w', ⟨1, 0, rfl, rfl, (ER.pre t m sh).refl w⟩, ?_⟩
  rintro m1 x7 x12 j1 w2 ⟨i, hx, hm, hr2⟩
  obtain ⟨rfl, rfl⟩ : x7 = nilS_ ∧ x12 = i64 i := by simpa using hx
  refine Do_pu pu_lss (CondV_if (fun hi => ?_) fun hi => Ret.of ⟨rfl, hr2⟩)
  obtain rfl : i = 0 := by omega
  have hp2 : Sees w2 pv 1 [str []] := hp.chg hr2.1 (fun _ g hg => hpn g hg)
  have hs2 : Sees w2 sv 1 [nv] := hs.chg hr2.1 (fun _ g hg => hsn g hg)
  have hv2 : SeesB w2 nv noneS := Sees.chg hnv hr2.1 (fun _ g hg => hn g hg)
  have hb2 := h.blk.chg hr2.1 (fun e => h.ne.1 e)
  refine Do_pu (hp2.indexP (i := 0) (s := 1) Tryz.underlying31 (by kernel_rfl) (by omega)) ?_
  refine Do_of (hp2.loadP Tryz.underlying9 rfl rfl) ?_
  refine ⟨Ext, fun _ _ _ => True, Pre.ext, fun _ _ _ _ _ _ => trivial, ?_⟩
  refine PureN_pu pu_nilptr ?_
  refine PureQ_pu (pu_field Tryz.underlying42 rfl (n := 0) (o := 0) (by kernel_rfl) rfl) ?_
  refine PureQ_loadAgg (l := [ptr t]) Tryz.underlying38 rfl (by kernel_rfl) (fun z hz => (hb2.ext ((Ext.drew _).trans hz.1)).part (m := [ptr t]) (k := []) rfl rfl) ?_
  refine PureQ_pu (hs2.indexP (i := 0) (s := 1) Tryz.underlying55 (by kernel_rfl) (by omega)) ?_
  refine PureQ_at (v := nv) (fun z hz => (hs2.ext ((Ext.drew _).trans hz.1)).loadP Tryz.underlying22 rfl rfl) ?_
  intro w6 hx6 _
  have hx6' : Ext w2 w6 := (Ext.drew _).trans hx6
  have hr6 : ER t m sh w w6 := hr2.trans (.ext hx6')
  refine CallS_r (other0_c (hr6.2 h.tree) (hr6.laid h.tree hk) (hv2.ext hx6') hn [] (by decide) (by decide)) fun x26 w7 hh => ?_
  obtain ⟨rfl, hr7⟩ := hh
  rw [beq_self_eq_true]
  refine CondF ?_
  refine Do_pu (pu_iadd (by omega) (by omega)) ?_
  exact ⟨0, by omega, 1, rfl, by omega, hr6.trans hr7⟩
/-- An offer of a replica that is not the one asked. -/
theorem offerBad_c {w : World} {p t m mp : Nat} {sh peer : Int} (h : PullE w p t m mp sh peer false) (hpeer : 0 < peer) {r : Rt} {sv gv nv : Value} (hr : RtV w r sv gv) (hright : r.right) (hrep : r.rep ≠ peer) :
    Calls Tryz.prog 9 #[ptr p, .agg (r.cells sv gv).toArray, nv] w (Ret fun v w' => v = .tuple #[nilS_, i64 22] ∧ Ext w w') := by
  refine vc_session_Pull_Offer ?_
  unfold V_session_Pull_Offer
  refine Do_box (l := r.cells sv gv) rfl fun w1 n1 => ?_
  refine ⟨fun _ _ => False, ?_, fun _ _ h => h.elim⟩
  have h1 := h.ext n1.ext
  refine CallS_v (pullThere_c h1.blk) ?_
  rw [decide_eq_true hpeer]
  refine Do_pu pu_not (CondF ?_)
  refine DoN_pu pu_nilptr ?_
  refine Do_pu (pu_field Tryz.underlying42 rfl (n := 0) (o := 4) (by kernel_rfl) rfl) ?_
  refine Do_load Tryz.underlying4 rfl ((h1.blk.cell _).trans rfl) (CondF ?_)
  refine Do_loadAgg (l := r.cells sv gv) Tryz.underlying24 rfl (by kernel_rfl) n1.blk.all ?_
  refine CallS_r (rootRight_c (hr.ext n1.ext)) fun x19 w8 hh => ?_
  obtain ⟨rfl, hx8⟩ := hh
  rw [decide_eq_true hright]
  refine Do_pu pu_not (CondF ?_)
  refine ⟨Ext, fun _ _ _ => True, Pre.ext, fun _ _ _ _ _ _ => trivial, ?_⟩
  refine PureQ_pu (pu_field Tryz.underlying24 rfl (n := 0) (o := 0) (by kernel_rfl) rfl) ?_
  refine PureQ_load Tryz.underlying3 rfl (fun z hz => (n1.blk.at0 hx8 _ hz.1).trans rfl) ?_
  refine PureN_pu pu_nilptr ?_
  refine PureQ_pu (pu_field Tryz.underlying42 rfl (n := 0) (o := 3) (by kernel_rfl) rfl) ?_
  refine PureQ_load Tryz.underlying3 rfl (fun z hz => (h1.blk.at0 hx8 _ hz.1).trans rfl) ?_
  intro w15 hx15 _
  refine Do_pu pu_neq (CondV_b (fun _ => ?_) fun hc => absurd (by simpa using hc) hrep)
  rw [show (r.rep != peer) = true from bne_iff_ne.2 hrep]
  refine CondT (Ret.of ⟨rfl, n1.ext.trans (hx8.trans ((Ext.drew _).trans hx15))⟩)
/-- The true offer of a tree without leaves. -/
theorem offerOk_c {w : World} {p t m mp : Nat} {sh peer : Int} (h : PullE w p t m mp sh peer false) (hk : Laid w) (hpr : 2 ≠ p ∧ 0 ≠ p) (hsh : 0 ≤ sh ∧ sh < 4) (hpeer : 0 < peer) {r : Rt} {sv gv nv : Value} (hr : RtV w r sv gv) (hright : r.right) (hrep : r.rep = peer) (hrs : r.shard = sh)
    (hsum : r.sum = shaS (4 :: UInt8.ofNat sh.toNat :: noneS)) (hnv : SeesB w nv noneS) (hn : ∀ g, nv.ownBlock = some g → g ≠ m ∧ g ≠ p) :
    Calls Tryz.prog 9 #[ptr p, .agg (r.cells sv gv).toArray, nv] w (Ret fun v w' => v = .tuple #[nilS_, i64 0] ∧ Chg w w' (fun g => g = m ∨ g = p) ∧ PullE w' p t m mp sh peer true) := by
  subst hrep hrs
  refine vc_session_Pull_Offer ?_
  unfold V_session_Pull_Offer
  refine Do_box (l := r.cells sv gv) rfl fun w1 n1 => ?_
  have h1 := h.ext n1.ext
  refine ⟨fun _ w' => Ext w1 w', ?_, ?_⟩
  · refine CallS_v (pullThere_c h1.blk) ?_
    rw [decide_eq_true hpeer]
    refine Do_pu pu_not (CondF ?_)
    refine DoN_pu pu_nilptr ?_
    refine Do_pu (pu_field Tryz.underlying42 rfl (n := 0) (o := 4) (by kernel_rfl) rfl) ?_
    refine Do_load Tryz.underlying4 rfl ((h1.blk.cell _).trans rfl) (CondF ?_)
    refine Do_loadAgg (l := r.cells sv gv) Tryz.underlying24 rfl (by kernel_rfl) n1.blk.all ?_
    refine CallS_r (rootRight_c (hr.ext n1.ext)) fun x19 w8 hh => ?_
    obtain ⟨rfl, hx8⟩ := hh
    rw [decide_eq_true hright]
    refine Do_pu pu_not (CondF ?_)
    refine ⟨Ext, fun _ _ _ => True, Pre.ext, fun _ _ _ _ _ _ => trivial, ?_⟩
    refine PureQ_pu (pu_field Tryz.underlying24 rfl (n := 0) (o := 0) (by kernel_rfl) rfl) ?_
    refine PureQ_load Tryz.underlying3 rfl (fun z hz => (n1.blk.at0 hx8 _ hz.1).trans rfl) ?_
    refine PureN_pu pu_nilptr ?_
    refine PureQ_pu (pu_field Tryz.underlying42 rfl (n := 0) (o := 3) (by kernel_rfl) rfl) ?_
    refine PureQ_load Tryz.underlying3 rfl (fun z hz => (h1.blk.at0 hx8 _ hz.1).trans rfl) ?_
    intro w15 hx15 _
    have hx15' : Ext w1 w15 := hx8.trans ((Ext.drew _).trans hx15)
    refine Do_pu pu_neq (CondV_b (fun hc => by simp at hc) fun _ => ?_)
    refine ⟨Ext, fun i v _ => i = 7 → v = i64 r.shard, Pre.ext, fun _ _ _ _ _ h => h, ?_⟩
    refine PureQ_pu (pu_field Tryz.underlying24 rfl (n := 0) (o := 1) (by kernel_rfl) rfl) ?_
    refine PureQ_load Tryz.underlying3 rfl (fun z hz => (n1.blk.at0 hx15' _ hz.1).trans rfl) ?_
    refine PureN_pu pu_nilptr ?_
    refine PureQ_pu (pu_field Tryz.underlying42 rfl (n := 0) (o := 0) (by kernel_rfl) rfl) ?_
    refine PureQ_pu (pu_field Tryz.underlying38 rfl (n := 0) (o := 0) (by kernel_rfl) rfl) ?_
    refine PureQ_load Tryz.underlying28 rfl (fun z hz => (h1.blk.at0 hx15' _ hz.1).trans rfl) ?_
    refine ⟨fun w22 hx22 _ => CallS_r (shard0_c (h1.tree.ext (hx15'.trans ((Ext.drew _).trans hx22)))) fun v z hh => ⟨by rw [hh.2]; exact Ext.refl _, fun _ => hh.1⟩, fun x35_1 => ?_⟩
    intro w24 hx24 hf
    obtain rfl : x35_1 = i64 r.shard := hf.1 rfl
    have hx24' : Ext w1 w24 := hx15'.trans ((Ext.drew _).trans hx24)
    refine Do_pu pu_neq (CondV_b (fun hc => by simp at hc) fun _ => ?_)
    refine ⟨Ext, fun i v z => i = 3 → SeesB z v r.sum, Pre.ext, fun _ _ _ _ hx h e => (h e).ext hx, ?_⟩
    refine PureQ_pu (pu_field Tryz.underlying24 rfl (n := 0) (o := 1) (by kernel_rfl) rfl) ?_
    refine PureQ_load Tryz.underlying3 rfl (fun z hz => (n1.blk.at0 hx24' _ hz.1).trans rfl) ?_
    refine ⟨fun w26 hx26 _ => ?_, fun x41_5 => ?_⟩
    · have hx26' : Ext w w26 := n1.ext.trans (hx24'.trans ((Ext.drew _).trans hx26))
      refine CallS_r (topSum_c r.shard noneS (hk.ext hx26') (hnv.ext hx26')) fun v z hh => ?_
      obtain ⟨hxz, hh⟩ := hh
      rw [if_pos ⟨hsh.1, hsh.2, noneS_len⟩, ← hsum] at hh
      exact ⟨hxz, fun _ => own64 hh.1⟩
    refine PureQ_pu (pu_field Tryz.underlying24 rfl (n := 0) (o := 3) (by kernel_rfl) rfl) ?_
    refine PureQ_load Tryz.underlying22 rfl (fun z hz => (n1.blk.at0 hx24' _ hz.1).trans rfl) ?_
    intro w28 hx28 hf
    have hx28' : Ext w1 w28 := hx24'.trans ((Ext.drew _).trans hx28)
    refine CallS_v (bytesEqual_c (hf.1 rfl) (hr.1.ext (n1.ext.trans hx28'))) ?_
    rw [beq_self_eq_true]
    exact Do_pu pu_not (CondF hx28')
  · rintro j1 w31 hx31
    have h31 := h1.ext hx31
    refine DoN_pu pu_nilptr ?_
    refine Do_pu (pu_field Tryz.underlying42 rfl (n := 0) (o := 4) (by kernel_rfl) rfl) ?_
    refine DoU_store (by kernel_rfl) h31.blk (by simp) rfl fun w34 hb34 hg34 => ?_
    have hlt := h31.tree.lt
    have hty : t ≠ p := fun e => by
      subst e
      have := (h31.blk.inj h31.tree.blk).1
      simp at this
    have hk34 : ∀ {v : Value} {l : List Value} {n : Nat}, Sees w31 v n l → (∀ g, v.ownBlock = some g → g ≠ p) → Sees w34 v n l := fun hs hn => hs.kept hg34 (fun g e => by cases e; exact fun e => hn p e rfl)
    obtain ⟨es, clock, hm, hst, hes⟩ := h31.tree.map
    have h34 : PullE w34 p t m mp r.shard r.rep true := by
      refine ⟨hb34, ⟨h31.tree.lo, h31.tree.blk.kept hg34 (fun e => hty (by cases e; rfl)), h31.tree.ne, es, clock, hm.kept hg34 (fun e => h31.ne.1 (by cases e; rfl)), hst, fun e he => ⟨(hes e he).1, ?_, (hes e he).2.2⟩⟩, h31.map.kept hg34 (fun e => h31.ne.2.2 (by cases e; rfl)), h31.ne⟩
      refine hk34 (hes e he).2.1 (fun g hg e' => ?_)
      subst e'
      exact noU8 ((hes e he).2.1.mem h31.blk hg)
    have hx31' : Ext w w31 := n1.ext.trans hx31
    have hnv34 : SeesB w34 nv noneS := hk34 (hnv.ext hx31') (fun g hg => (hn g hg).2)
    refine Do_build1L (vs := [nv]) Tryz.underlying55 rowBytes (one_cons (Sees.one hnv) one_nil) rfl rfl (by decide) (by decide) fun w35 n35 => ?_
    refine Do_build1L (vs := [str []]) Tryz.underlying31 (rowIs_of (bytes := 16) (z := [str []]) (by kernel_rfl)) (one_cons rfl one_nil) rfl rfl (by decide) (by decide) fun w36 n36 => ?_
    have hs36 : Sees w36 (.slice (some ⟨w34.heap.size, 0, none⟩) 1 1) 1 [nv] := (Own.new (s := 1) n35 rfl (by decide)).sees.ext n36.ext
    have hp36 : Sees w36 (.slice (some ⟨w35.heap.size, 0, none⟩) 1 1) 1 [str []] := (Own.new (s := 1) n36 rfl (by decide)).sees
    have hx36 : Ext w34 w36 := n35.ext.trans n36.ext
    have hs34 := hg34.size
    have hk34' : Laid w34 := ⟨fun j hj => hg34.cell ((hk.ext hx31').k j hj) (fun e => hpr.1 (by cases e; rfl)), fun j hj => hg34.cell ((hk.ext hx31').v0 j hj) (fun e => hpr.2 (by cases e; rfl))⟩
    refine CallS_r (ask0_c (h34.ext hx36) (hk34'.ext hx36) hs36 hp36 (hnv34.ext hx36) (fun g hg => (hn g hg).1) (fun g hg => by cases hg; show w34.heap.size ≠ m; omega) (fun g hg => by cases hg; have := n35.size; show w35.heap.size ≠ m; omega)) fun x53 w37 hh => ?_
    obtain ⟨rfl, hr37⟩ := hh
    have h36 := h34.ext hx36
    have hc34 : Chg w w34 (fun g => g = m ∨ g = p) := ((Chg.refl w _).ext hx31').grown hg34 (fun g e _ => .inr (by cases e; rfl))
    refine Ret.of ⟨rfl, (hc34.ext hx36).trans hr37.1 (fun g _ e => .inl e), ⟨h36.blk.chg hr37.1 (fun e => h36.ne.1 e), hr37.2 h36.tree, (hr37.1.block mp h36.map.lt (fun e => h36.ne.2.1 e)).trans h36.map, h36.ne⟩⟩
end Go.Proofs.YtpdceilhgaladaaGreatDoor
