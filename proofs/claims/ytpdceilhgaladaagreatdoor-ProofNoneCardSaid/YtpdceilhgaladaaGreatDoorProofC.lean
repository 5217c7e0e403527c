/- Proofs without digests: what is checked, what holds, all texts. -/
import Derived.Test.YtpdceilhgaladaaGreatDoorProofB
import Derived.Test.YtpdceilhgaladaaGreatDoorPull
namespace Go.Proofs.YtpdceilhgaladaaGreatDoor
open Go.Vc Go.Vc.Sha Go.RowKit
/-- Does a proof without digests lead to a digest? -/
def leads (n : Nat) (key top : List UInt8) : Bool := isLong key && ofS key == n && shaS (topT n) == top
set_option maxRecDepth 20000 in
theorem check0_c {w : World} (hk : Laid w) {n : Nat} (hn : n < 4) {key top : List UInt8} {tv : Value} (hl : key.length ≤ 35184372088000) (ht : SeesB w tv top) :
    Calls Tryz.prog 37 #[i64 n, tv, str key, zeroP] w (Ret fun r w' => Ext w w' ∧ r = .tuple #[nilS_, i64 (if leads n key top = true then 0 else 23)]) := by
  refine vc_proof_Check ?_
  unfold V_proof_Check
  refine Do_box (l := [nilS_, nilS_]) rfl fun w1 n1 => ?_
  refine Do_loadAgg (l := [nilS_, nilS_]) Tryz.underlying58 rfl (by kernel_rfl) n1.blk.all ?_
  refine CallS_r (proofBegin0_c (hk.ext n1.ext) n key hl) fun x18 w3 hh => ?_
  obtain ⟨hx3, ⟨hno, rfl⟩ | ⟨hyes, g, rfl, hg3, hg1⟩⟩ := hh
  · refine Do_pu (pu_ext rfl) ?_
    refine Do_pu (pu_ext rfl) ?_
    refine Do_pu pu_not (CondT ?_)
    refine Ret.of ⟨n1.ext.trans hx3, ?_⟩
    unfold leads
    rw [hno]
    rfl
  refine Do_pu (pu_ext rfl) ?_
  refine Do_pu (pu_ext rfl) ?_
  refine Do_pu pu_not (CondF ?_)
  have hX3 := n1.ext.trans hx3
  refine Do_alloc (l := [nilS_]) (by kernel_rfl) fun w7 n7 => ?_
  refine CallS_r (up_c g w7) fun x24 w8 hh => ?_
  obtain ⟨rfl, hb8, hx8⟩ := hh
  have hX8 : Ext w w8 := hX3.trans (n7.ext.trans hx8)
  refine ⟨by kernel_rfl, fun Rec hY => ?_⟩
  have hbx := begun_ext w8 Rec
  have hbs := begun_size w8 Rec
  have hglt := hg3.lt
  have h7s := n7.size
  have hclt : w3.heap.size < w8.heap.size := by have := hx8.size; omega
  have hwl0 : 2 < w.heap.size := World.block_lt_of_cell? w _ (hk.k 0 (by omega))
  have hwl1 : 0 < w.heap.size := World.block_lt_of_cell? w _ (hk.v0 0 (by omega))
  have hw3 := hX3.size
  have h8s : w7.heap.size < w8.heap.size := hb8.lt
  refine CallS_r (up0_c (S := fun k => k = w3.heap.size) (Fin := fun z0 z3 => Rnds w8 Rec z3 ∧ ∃ v1, Blk z3 w3.heap.size [v1] 22 ∧ SeesB z3 v1 (topT n) ∧ ∀ k, v1.ownBlock = some k → z0.heap.size ≤ k)
    (hk.ext (hX8.trans hbx)) (hb8.ext hbx) (hg3.ext (n7.ext.trans (hx8.trans hbx))) hn rfl ⟨by omega, by omega, by omega, by omega, fun k e => by subst e; omega⟩ ?_) fun _ w' hh => ?_
  · intro z0 v0 hx0 hs0 hl0
    have hR0 : Rnds w8 Rec z0 := (Rnds.start w8 Rec).ext hx0
    have hc0 : Blk z0 w3.heap.size [nilS_] 22 := n7.blk.ext (hx8.trans (hbx.trans hx0))
    refine hY _ _ _ _ rfl hR0.rec_ ⟨hR0.rec_, ?_⟩
    refine DoU_store (by kernel_rfl) (hc0.chg (put_chg _ _ _) (by omega)) (by simp) (Sees.one hs0) fun w10 hb10 hg10 => ?_
    have hc10 : Chg (z0.putObj (w8.heap.size + 1) (Rec .busy none)) w10 (fun k => k = w3.heap.size) := (Chg.refl _ _).grown hg10 fun k e _ => by cases e; rfl
    refine round_on hR0 hc10 (by omega) ⟨rfl, ?_, ?_⟩
    · exact (Chg.refl _ _).trans (round_chg hR0 hc10) fun k _ e => .inl e
    have hR1 : Rnds w8 Rec (w10.putObj (w8.heap.size + 1) (Rec .ready none)) := ⟨World.putObj_heap_same (by have := (Array.getElem?_eq_some_iff.1 hR0.rec_).1; have := hc10.size; simp at this; omega), Chg.heap hR0.mark (round_chg hR0 hc10) (by omega)⟩
    intro z2 v1 hx2 hs2 hl2
    have hR2 := hR1.ext hx2
    have hz1s : w8.heap.size + 2 ≤ (w10.putObj (w8.heap.size + 1) (Rec .ready none)).heap.size := by have := hx0.size; have := hc10.size; simp at this ⊢; omega
    have hc2 : Blk z2 w3.heap.size [v0] 22 := (hb10.chg (put_chg _ _ _) (by omega)).ext hx2
    refine hY _ _ _ _ rfl hR2.rec_ ⟨hR2.rec_, ?_⟩
    refine DoU_store (by kernel_rfl) (hc2.chg (put_chg _ _ _) (by omega)) (by simp) (Sees.one hs2) fun w11 hb11 hg11 => ?_
    have hc11 : Chg (z2.putObj (w8.heap.size + 1) (Rec .busy none)) w11 (fun k => k = w3.heap.size) := (Chg.refl _ _).grown hg11 fun k e _ => by cases e; rfl
    have hcc := round_chg hR2 hc11
    refine round_on hR2 hc11 (by omega) ⟨(Chg.refl _ _).trans hcc fun k _ e => .inl e, ⟨World.putObj_heap_same (by have := (Array.getElem?_eq_some_iff.1 hR2.rec_).1; have := hc11.size; simp at this; omega), Chg.heap hR2.mark hcc (by omega)⟩, v1, hb11.chg (put_chg _ _ _) (by omega), Sees.chg hs2 hcc fun _ k hk' e => by have := hl2 k hk'; omega, fun k hk' => by have := hl2 k hk'; have := hc10.size; simp at *; omega⟩
  · obtain ⟨z0, z3, m, o, hx0, hcw, ⟨hR3, v1, hb3, hs3, hl3⟩, hm1, hm2, hm3, rfl⟩ := hh
    refine .on (Chg.heap hR3.rec_ (put_chg _ _ _) (by omega)) ?_
    have hcA : Chg w8 ((z3.putObj m o).putObj (w8.heap.size + 1) (Rec .exhausted none)) (fun k => k = w3.heap.size) :=
      ((((Chg.refl w8 _).ext hbx).trans hcw fun k _ e => e).trans (put_chg _ _ _) fun k _ e => by omega).trans (put_chg _ _ _) fun k _ e => by omega
    have hbA := (hb3.chg (put_chg z3 m o) (by omega)).chg (put_chg _ (w8.heap.size + 1) (Rec .exhausted none)) (by omega)
    have hsA : SeesB ((z3.putObj m o).putObj (w8.heap.size + 1) (Rec .exhausted none)) v1 (topT n) := Sees.chg (Sees.chg hs3 (put_chg _ _ _) fun _ k hk' e => by have := hl3 k hk'; omega) (put_chg _ _ _) fun _ k hk' e => by have := hl3 k hk'; have := hx0.size; omega
    have hmA := Chg.heap (Chg.heap hR3.mark (put_chg z3 m o) (by omega)) (put_chg _ (w8.heap.size + 1) (Rec .exhausted none)) (by omega)
    generalize ((z3.putObj m o).putObj (w8.heap.size + 1) (Rec .exhausted none)) = W at hcA hbA hsA hmA
    have hXW : Ext w W := hX8.chg hcA fun k e => by omega
    have hgW : WalkAt W g n key := (hg3.ext (n7.ext.trans hx8)).chg hcA (by omega)
    refine Do_load Tryz.underlying22 rfl (hbA.cell 0) ?_
    refine Do_build1L (vs := [v1]) Tryz.underlying55 rowBytes (one_cons (Sees.one hsA) one_nil) rfl rfl (by decide) (by decide) fun w15 n15 => ?_
    refine CallS_r (shaSum_c (parts := [topT n]) (hk.ext (hXW.trans n15.ext)) (Own.new (s := 1) n15 rfl (by decide)).sees rfl (fun i v p h1 h2 => by
      cases i with
      | zero => cases h1; cases h2; exact hsA.ext n15.ext
      | succ i => simp at h1) (by simp [noneS_len])) fun x29 w16 hh => ?_
    obtain ⟨ho16, hx16, _⟩ := hh
    have e : ([topT n] : List (List UInt8)).flatten = topT n := by simp
    rw [e] at ho16
    have h64 : (shaS (topT n)).length = 64 := by have := ho16.1; simpa using this
    have hs16 : SeesB w16 x29 (shaS (topT n)) := by unfold SeesB; rw [h64]; exact ho16.sees
    have hxW : Ext W w16 := n15.ext.trans hx16
    refine CallS_r (bytesEqual_c hs16 (ht.ext (hXW.trans hxW))) fun x31 w17 hh => ?_
    obtain ⟨rfl, rfl⟩ := hh
    refine Do_pu pu_not (CondV_b (fun hne => ?_) fun hne => ?_)
    · have hne : (shaS (topT n) == top) = false := by simpa using hne
      refine EndV_mark (Ext.heap hmA hxW) (EndV_ret (Ret.of ⟨(hXW.trans hxW).chg (put_chg _ _ _) fun k e => by omega, ?_⟩))
      unfold leads
      rw [hne, Bool.and_false]
      rfl
    · have heq : (shaS (topT n) == top) = true := by simpa using hne
      refine CallS_r (says0_c (hgW.ext hxW) _) fun x35 w19 hh => ?_
      obtain ⟨rfl, rfl⟩ := hh
      refine EndV_mark (Ext.heap hmA hxW) (EndV_ret (Ret.of ⟨(hXW.trans hxW).chg (put_chg _ _ _) fun k e => by omega, ?_⟩))
      unfold leads
      rw [hyes, heq]
      rfl
end Go.Proofs.YtpdceilhgaladaaGreatDoor
