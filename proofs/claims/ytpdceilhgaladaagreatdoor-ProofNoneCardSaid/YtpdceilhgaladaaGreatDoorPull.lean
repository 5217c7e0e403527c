/- Roots; pulls of trees without leaves. -/
import Derived.Test.YtpdceilhgaladaaGreatDoorSess
import Derived.Laws.BytesArg
import Derived.Laws.IdiomStrings
namespace Go.Vc
open Go.RowKit
section
variable {P : Program} {w : World} {t e : TypeId}
/-- string(b) -/
theorem run_b2s {s d : TypeId} {v : Value} {b : List UInt8} (hs : P.underlying s = some (.slice e)) (he : P.underlying e = some (.int .u8)) (hd : P.underlying d = some .string) (hv : SeesB w v b) : (convert s d v).run P w = .ok (str b) w := by
  rcases hv with ⟨rfl, h0, _⟩ | ⟨a, c, rfl, h2, h3, h4⟩
  · obtain rfl : b = [] := List.eq_nil_of_length_eq_zero h0
    exact run_convert_bytes_nil w s e hs he 0 0 d hd
  · exact run_convert_bytes_back w s d e a c b hs he hd (fun j hj => h4 j _ (by simp [hj]; rfl))
end
structure Rt where
  rep : Int
  shard : Int
  seq : Int
  sum : List UInt8
  sig : List UInt8
/-- A root's value. -/
def RtV (w : World) (r : Rt) (sv gv : Value) : Prop := SeesB w sv r.sum ∧ SeesB w gv r.sig
theorem RtV.ext {w w' : World} {r : Rt} {sv gv : Value} (h : RtV w r sv gv) (hx : Ext w w') : RtV w' r sv gv := ⟨h.1.ext hx, h.2.ext hx⟩
def Rt.cells (r : Rt) (sv gv : Value) : List Value := [i64 r.rep, i64 r.shard, i64 r.seq, sv, gv]
def Rt.shape (r : Rt) : Prop := 1 ≤ r.rep ∧ r.rep ≤ 7 ∧ 0 ≤ r.shard ∧ r.shard < 4 ∧ 1 ≤ r.seq ∧ r.seq ≤ 1073741824 ∧ r.sum.length = 64
instance (r : Rt) : Decidable r.shape := by unfold Rt.shape; infer_instance
def Rt.right (r : Rt) : Prop := r.shape ∧ r.sig.length = 64
instance (r : Rt) : Decidable r.right := by unfold Rt.right; infer_instance
end Go.Vc

namespace Go.Proofs.YtpdceilhgaladaaGreatDoor
open Go.Vc Go.Vc.Sha Go.RowKit
theorem list5 {α : Type} {l : List α} (h : l.length = 5) : ∃ a b c d e, l = [a, b, c, d, e] := by
  match l, h with
  | [a, b, c, d, e], _ => exact ⟨a, b, c, d, e, rfl⟩
theorem open_root {w : World} {H : Type} {enc : TypeId × Value → H} {base fuel : Nat} {spare : Nat → Bool} {held : Bool} {cs : List Value} {x : DataW H × List MemPlace} (h : DataW.trod enc Tryz.prog w base spare held fuel 24 cs = some x) : ∃ r sv gv, cs = Rt.cells r sv gv ∧ RtV w r sv gv := by
  obtain ⟨xs, n, rfl, _, hlen, hxl, hf⟩ := DataW.trod_struct Tryz.underlying24 h
  obtain ⟨c0, c1, c2, c3, c4, rfl⟩ := list5 (hlen.trans (by kernel_rfl))
  have hx : xs.length = 5 := hxl
  obtain ⟨n0, h0, _⟩ := open_i64 Tryz.underlying3 (field1 hf (i := 0) rfl (by kernel_rfl) (by omega) rfl rfl)
  obtain ⟨n1, h1, _⟩ := open_i64 Tryz.underlying3 (field1 hf (i := 1) rfl (by kernel_rfl) (by omega) rfl rfl)
  obtain ⟨n2, h2, _⟩ := open_i64 Tryz.underlying3 (field1 hf (i := 2) rfl (by kernel_rfl) (by omega) rfl rfl)
  obtain ⟨v3, b3, h3, r3⟩ := openB Tryz.underlying22 Tryz.underlying5 (by kernel_rfl) (field1 hf (i := 3) rfl (by kernel_rfl) (by omega) rfl rfl)
  obtain ⟨v4, b4, h4, r4⟩ := openB Tryz.underlying22 Tryz.underlying5 (by kernel_rfl) (field1 hf (i := 4) rfl (by kernel_rfl) (by omega) rfl rfl)
  cases h0; cases h1; cases h2; cases h3; cases h4
  exact ⟨⟨n0, n1, n2, b3, b4⟩, _, _, rfl, r3, r4⟩
theorem bytesEqual_c {w : World} {u v : Value} {a b : List UInt8} (hu : SeesB w u a) (hv : SeesB w v b) : Calls Tryz.prog 30 #[u, v] w (Ret fun r w' => r = .bool (a == b) ∧ w' = w) := by
  refine vc_bytes_Equal ?_
  unfold V_bytes_Equal
  refine Do_of (run_b2s Tryz.underlying22 Tryz.underlying5 Tryz.underlying9 hu) ?_
  refine Do_of (run_b2s Tryz.underlying22 Tryz.underlying5 Tryz.underlying9 hv) ?_
  exact Do_pu pu_seql (Ret.of ⟨rfl, rfl⟩)
theorem rootShape_c {w : World} {r : Rt} {sv gv : Value} (h : RtV w r sv gv) : Calls Tryz.prog 97 #[.agg (r.cells sv gv).toArray] w (Ret fun v w' => v = .bool (decide r.shape) ∧ Ext w w') := by
  refine vc_root_paper_shape ?_
  unfold V_root_paper_shape
  refine Do_box (l := r.cells sv gv) rfl fun w1 n1 => ?_
  have no : ¬ r.shape → Ret (fun v w' => v = .bool (decide r.shape) ∧ Ext w w') (.returned (.bool false)) w1 := fun h => Ret.of ⟨by rw [decide_eq_false h], n1.ext⟩
  refine Do_pu (pu_field Tryz.underlying122 rfl (n := 4) (o := 0) (by kernel_rfl) rfl) ?_
  refine Do_pu (pu_field Tryz.underlying24 rfl (n := 0) (o := 0) (by kernel_rfl) rfl) ?_
  refine Do_load Tryz.underlying3 rfl ((n1.blk.cell _).trans rfl) ?_
  refine Do_pu pu_geq (BoolS_if (fun h1 => ?_) fun hn => no (fun h => hn h.1))
  refine Do_pu (pu_field Tryz.underlying122 rfl (n := 4) (o := 0) (by kernel_rfl) rfl) ?_
  refine Do_pu (pu_field Tryz.underlying24 rfl (n := 0) (o := 0) (by kernel_rfl) rfl) ?_
  refine Do_load Tryz.underlying3 rfl ((n1.blk.cell _).trans rfl) ?_
  refine Do_pu pu_leq (BoolS_if (fun h2 => ?_) fun hn => no (fun h => hn h.2.1))
  refine Do_pu (pu_field Tryz.underlying122 rfl (n := 4) (o := 0) (by kernel_rfl) rfl) ?_
  refine Do_pu (pu_field Tryz.underlying24 rfl (n := 0) (o := 1) (by kernel_rfl) rfl) ?_
  refine Do_load Tryz.underlying3 rfl ((n1.blk.cell _).trans rfl) ?_
  refine Do_pu pu_geq (BoolS_if (fun h3 => ?_) fun hn => no (fun h => hn h.2.2.1))
  refine Do_pu (pu_field Tryz.underlying122 rfl (n := 4) (o := 0) (by kernel_rfl) rfl) ?_
  refine Do_pu (pu_field Tryz.underlying24 rfl (n := 0) (o := 1) (by kernel_rfl) rfl) ?_
  refine Do_load Tryz.underlying3 rfl ((n1.blk.cell _).trans rfl) ?_
  refine Do_pu pu_lss (BoolS_if (fun h4 => ?_) fun hn => no (fun h => hn h.2.2.2.1))
  refine Do_pu (pu_field Tryz.underlying122 rfl (n := 4) (o := 0) (by kernel_rfl) rfl) ?_
  refine Do_pu (pu_field Tryz.underlying24 rfl (n := 0) (o := 2) (by kernel_rfl) rfl) ?_
  refine Do_load Tryz.underlying3 rfl ((n1.blk.cell _).trans rfl) ?_
  refine Do_pu pu_geq (BoolS_if (fun h5 => ?_) fun hn => no (fun h => hn h.2.2.2.2.1))
  refine Do_pu (pu_field Tryz.underlying122 rfl (n := 4) (o := 0) (by kernel_rfl) rfl) ?_
  refine Do_pu (pu_field Tryz.underlying24 rfl (n := 0) (o := 2) (by kernel_rfl) rfl) ?_
  refine Do_load Tryz.underlying3 rfl ((n1.blk.cell _).trans rfl) ?_
  refine Do_pu pu_leq (BoolS_if (fun h6 => ?_) fun hn => no (fun h => hn h.2.2.2.2.2.1))
  refine Do_pu (pu_field Tryz.underlying122 rfl (n := 4) (o := 0) (by kernel_rfl) rfl) ?_
  refine Do_pu (pu_field Tryz.underlying24 rfl (n := 0) (o := 3) (by kernel_rfl) rfl) ?_
  refine Do_load Tryz.underlying22 rfl ((n1.blk.cell _).trans rfl) ?_
  refine DoN_pu (pu_len Tryz.underlying22 h.1) ?_
  refine Do_pu pu_eql (Ret.of ⟨?_, n1.ext⟩)
  congr 1
  rw [Bool.eq_iff_iff, beq_iff_eq, decide_eq_true_eq]
  unfold Rt.shape
  omega
theorem rootRight_c {w : World} {r : Rt} {sv gv : Value} (h : RtV w r sv gv) : Calls Tryz.prog 29 #[.agg (r.cells sv gv).toArray] w (Ret fun v w' => v = .bool (decide r.right) ∧ Ext w w') := by
  refine vc_root_Right ?_
  unfold V_root_Right
  refine Do_box (l := r.cells sv gv) rfl fun w1 n1 => ?_
  refine Do_loadAgg (l := r.cells sv gv) Tryz.underlying24 rfl (by kernel_rfl) n1.blk.all ?_
  refine Do_of (run_buildS (cells := r.cells sv gv) Tryz.underlying122 (zero := [.int .i64 0, .int .i64 0, .int .i64 0, .slice none 0 0, .slice none 0 0]) (by kernel_rfl) (by kernel_rfl) (by kernel_rfl) _) ?_
  refine CallS_r (Q := fun v w' => v = .bool (decide r.right) ∧ Ext w1 w') ?_ fun v w' hh => Ret.of ⟨hh.1, n1.ext.trans hh.2⟩
  refine vc_root_paper_right ?_
  unfold V_root_paper_right
  refine Do_box (l := r.cells sv gv) rfl fun w2 n2 => ?_
  refine Do_loadAgg (l := r.cells sv gv) Tryz.underlying122 rfl (by kernel_rfl) n2.blk.all ?_
  refine CallS_r (rootShape_c (h.ext (n1.ext.trans n2.ext))) fun x4 w3 hh => ?_
  obtain ⟨rfl, hx3⟩ := hh
  refine BoolS_if (fun hs => ?_) fun hs => Ret.of ⟨by rw [decide_eq_false (fun h => hs h.1)], n2.ext.trans hx3⟩
  refine Do_pu (pu_field Tryz.underlying122 rfl (n := 4) (o := 0) (by kernel_rfl) rfl) ?_
  refine Do_pu (pu_field Tryz.underlying24 rfl (n := 0) (o := 4) (by kernel_rfl) rfl) ?_
  refine Do_load Tryz.underlying22 rfl ((n2.blk.at hx3 _).trans rfl) ?_
  refine DoN_pu (pu_len Tryz.underlying22 h.2) ?_
  refine Do_pu pu_eql (Ret.of ⟨?_, n2.ext.trans hx3⟩)
  congr 1
  rw [Bool.eq_iff_iff, beq_iff_eq, decide_eq_true_eq]
  unfold Rt.right
  constructor
  · intro h; exact ⟨hs, by omega⟩
  · intro h; have := h.2; omega

/-- A pull of a tree without leaves; nothing is asked for. -/
structure PullE (w : World) (p t m mp : Nat) (sh peer : Int) (began : Bool) : Prop where
  blk : Blk w p [ptr t, .map (some mp), i64 0, i64 peer, .bool began] 42
  tree : Empty w t m sh
  map : MapB w mp [] 0
  ne : p ≠ m ∧ mp ≠ m ∧ p ≠ mp
theorem PullE.ext {w w' : World} {p t m mp : Nat} {sh peer : Int} {b : Bool} (h : PullE w p t m mp sh peer b) (hx : Ext w w') : PullE w' p t m mp sh peer b := ⟨h.blk.ext hx, h.tree.ext hx, h.map.ext hx, h.ne⟩
/-- Asking another tree, in other blocks, leaves it. -/
theorem PullE.er {w w' : World} {p t m mp t' m' : Nat} {sh sh' peer : Int} {b : Bool} (h : PullE w p t m mp sh peer b) (hr : ER t' m' sh' w w') (h1 : m' ≠ m) (h2 : m' ≠ t) (h3 : m' ≠ p) (h4 : m' ≠ mp) (hd : ∀ e : MapEntry, ∀ es clock, MapB w m es clock → e ∈ es → e.val.ownBlock ≠ some m') : PullE w' p t m mp sh peer b := by
  obtain ⟨es, clock, hm, hst, hes⟩ := h.tree.map
  refine ⟨h.blk.chg hr.1 (fun e => h3 e.symm), ⟨h.tree.lo, h.tree.blk.chg hr.1 (fun e => h2 e.symm), h.tree.ne, es, clock, ?_, hst, fun e he => ⟨(hes e he).1, (hes e he).2.1.chg hr.1 (fun _ g hg e' => hd e es clock hm he (by rw [hg, e'])), (hes e he).2.2⟩⟩, ?_, h.ne⟩
  · exact (hr.1.block m hm.lt (fun e => h1 e.symm)).trans hm
  · exact (hr.1.block mp h.map.lt (fun e => h4 e.symm)).trans h.map
theorem pullThere_c {w : World} {p : Nat} {a b c d : Value} {n : Int} (h : Blk w p [a, b, c, i64 n, d] 42) : Calls Tryz.prog 28 #[ptr p] w (Ret fun v w' => v = .bool (decide (0 < n)) ∧ w' = w) := by
  refine vc_session_Pull_there ?_
  unfold V_session_Pull_there
  refine Do_pu (pu_ptrne Tryz.underlying26) (BoolT ?_)
  refine DoN_pu pu_nilptr ?_
  refine Do_pu (pu_field Tryz.underlying42 rfl (n := 0) (o := 3) (by kernel_rfl) rfl) ?_
  refine Do_load Tryz.underlying3 rfl ((h.cell _).trans rfl) ?_
  exact Do_pu pu_gtr (Ret.of ⟨rfl, rfl⟩)
/-- A pull that isn't there. -/
def NoPull (w : World) (v : Value) : Prop := v = .pointer none ∨ ∃ p a b c d, v = ptr p ∧ Blk w p [a, b, c, i64 0, d] 42
theorem NoPull.ext {w w' : World} {v : Value} (h : NoPull w v) (hx : Ext w w') : NoPull w' v := h.imp id fun ⟨p, a, b, c, d, e, hb⟩ => ⟨p, a, b, c, d, e, hb.ext hx⟩
theorem noPull_c {w : World} {v : Value} (h : NoPull w v) : Calls Tryz.prog 28 #[v] w (Ret fun v w' => v = .bool false ∧ w' = w) := by
  rcases h with rfl | ⟨p, a, b, c, d, rfl, hb⟩
  · refine vc_session_Pull_there ?_
    unfold V_session_Pull_there
    exact Do_pu (pu_ptrne Tryz.underlying26) (BoolF (Ret.of ⟨rfl, rfl⟩))
  · exact pullThere_c hb
theorem noOffer_c {w : World} {v nv : Value} {l : List Value} (h : NoPull w v) : Calls Tryz.prog 9 #[v, .agg l.toArray, nv] w (Ret fun v w' => v = .tuple #[nilS_, i64 1] ∧ Ext w w') := by
  refine vc_session_Pull_Offer ?_
  unfold V_session_Pull_Offer
  refine Do_box (l := l) rfl fun w1 n1 => ?_
  refine ⟨fun _ _ => False, ?_, fun _ _ h => h.elim⟩
  refine CallS_v (noPull_c (h.ext n1.ext)) ?_
  exact Do_pu pu_not (CondT (Ret.of ⟨rfl, n1.ext⟩))
theorem noNode_c {w : World} {v pv : Value} {l : List Value} (h : NoPull w v) : Calls Tryz.prog 10 #[v, pv, .agg l.toArray] w (Ret fun v w' => v = .tuple #[nilS_, nilS_, i64 1] ∧ Ext w w') := by
  refine vc_session_Pull_Node ?_
  unfold V_session_Pull_Node
  refine Do_box (l := l) rfl fun w1 n1 => ?_
  refine CallS_v (noPull_c (h.ext n1.ext)) ?_
  exact Do_pu pu_not (CondT (Ret.of ⟨rfl, n1.ext⟩))
theorem noDone_c {w : World} {v : Value} (h : NoPull w v) : Calls Tryz.prog 11 #[v] w (Ret fun v w' => v = .bool false ∧ w' = w) := by
  refine vc_session_Pull_Done ?_
  unfold V_session_Pull_Done
  exact CallS_v (noPull_c h) (BoolF (Ret.of ⟨rfl, rfl⟩))
theorem noAsked_c {w : World} {v : Value} (h : NoPull w v) : Calls Tryz.prog 12 #[v] w (Ret fun v w' => v = i64 0 ∧ w' = w) := by
  refine vc_session_Pull_Asked ?_
  unfold V_session_Pull_Asked
  exact CallS_v (noPull_c h) (Do_pu pu_not (CondT (Ret.of ⟨rfl, rfl⟩)))
theorem done_c {w : World} {p t m mp : Nat} {sh peer : Int} {b : Bool} (h : PullE w p t m mp sh peer b) (hp : 0 < peer) : Calls Tryz.prog 11 #[ptr p] w (Ret fun v w' => v = .bool b ∧ w' = w) := by
  refine vc_session_Pull_Done ?_
  unfold V_session_Pull_Done
  refine CallS_v (pullThere_c h.blk) ?_
  refine BoolS_if (fun _ => ?_) fun hn => absurd hp hn
  refine DoN_pu pu_nilptr ?_
  refine Do_pu (pu_field Tryz.underlying42 rfl (n := 0) (o := 4) (by kernel_rfl) rfl) ?_
  refine Do_load Tryz.underlying4 rfl ((h.blk.cell _).trans rfl) ?_
  cases b with
  | false => exact BoolF (Ret.of ⟨rfl, rfl⟩)
  | true =>
    refine BoolT ?_
    refine DoN_pu pu_nilptr ?_
    refine Do_pu (pu_field Tryz.underlying42 rfl (n := 1) (o := 1) (by kernel_rfl) rfl) ?_
    refine Do_pu (pu_field Tryz.underlying40 rfl (n := 0) (o := 0) (by kernel_rfl) rfl) ?_
    refine Do_load Tryz.underlying34 rfl ((h.blk.cell _).trans rfl) ?_
    refine DoN_of (run_lenMap Tryz.underlying34 h.map) ?_
    exact Do_pu pu_eql (Ret.of ⟨rfl, rfl⟩)
theorem newPull_c {w : World} {t m : Nat} {sh : Int} (h : Empty w t m sh) (hk : Laid w) (hsh : 0 ≤ sh ∧ sh < 4) (peer nonce : Int) :
    Calls Tryz.prog 7 #[ptr t, i64 peer, i64 nonce] w (Ret fun v w' => Ext w w' ∧ if 1 ≤ peer ∧ peer ≤ 7 ∧ 1 ≤ nonce then ∃ p t' m' mp, v = ptr p ∧ PullE w' p t' m' mp sh peer false ∧ w.heap.size ≤ p ∧ w.heap.size ≤ t' ∧ w.heap.size ≤ m' ∧ w.heap.size ≤ mp else v = .pointer none) := by
  refine vc_session_New ?_
  unfold V_session_New
  refine CallS_r (copy0_c h hk hsh) fun x9 w1 hh => ?_
  obtain ⟨hx1, t', m', rfl, he1, ht', hm'⟩ := hh
  refine Do_pu (pu_ptreq Tryz.underlying28) (BoolF ?_)
  refine Do_pu pu_lss (BoolS_if (fun hc => Ret.of ⟨hx1, by rw [if_neg (by omega)]⟩) fun h1 => ?_)
  refine Do_pu pu_gtr (BoolS_if (fun hc => Ret.of ⟨hx1, by rw [if_neg (by omega)]⟩) fun h2 => ?_)
  refine Do_pu pu_lss (CondV_if (fun hc => Ret.of ⟨hx1, by rw [if_neg (by omega)]⟩) fun h3 => ?_)
  refine Do_of (run_buildS (cells := [ptr t']) Tryz.underlying38 (zero := [.pointer none]) (by kernel_rfl) (by kernel_rfl) (by kernel_rfl) _) ?_
  refine Do_makeMap fun w7 hm7 hx7 hs7 => ?_
  refine Do_of (run_buildS (cells := [.map (some w1.heap.size), i64 0]) Tryz.underlying40 (zero := [.map none, .int .i64 0]) (by kernel_rfl) (by kernel_rfl) (by kernel_rfl) _) ?_
  refine Do_of (run_buildS (cells := [ptr t', .map (some w1.heap.size), i64 0, i64 peer, .bool false]) Tryz.underlying42 (zero := [.pointer none, .map none, .int .i64 0, .int .i64 0, .bool false]) (by kernel_rfl) (by kernel_rfl) (by kernel_rfl) _) ?_
  refine Do_box rfl fun w10 n10 => ?_
  refine Ret.of ⟨hx1.trans (hx7.trans n10.ext), ?_⟩
  rw [if_pos (by omega)]
  have hlt := he1.lt
  have := hx1.size
  exact ⟨_, t', m', w1.heap.size, rfl, ⟨n10.blk, he1.ext (hx7.trans n10.ext), hm7.ext n10.ext, by omega, by omega, by omega⟩, by omega, ht', hm', by omega⟩
theorem newPullNone_c {w : World} {v : Value} (h : Nope w v) (peer nonce : Int) : Calls Tryz.prog 7 #[v, i64 peer, i64 nonce] w (Ret fun v w' => v = .pointer none ∧ w' = w) := by
  refine vc_session_New ?_
  unfold V_session_New
  refine CallS_v (nopeCopy_c h) ?_
  exact Do_pu (pu_ptreq Tryz.underlying28) (BoolT (Ret.of ⟨rfl, rfl⟩))
end Go.Proofs.YtpdceilhgaladaaGreatDoor
