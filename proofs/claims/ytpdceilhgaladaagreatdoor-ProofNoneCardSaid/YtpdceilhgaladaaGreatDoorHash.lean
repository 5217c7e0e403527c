/- The digest's writer: New, Write, Copy, Sum of package sha. -/
import Derived.Test.YtpdceilhgaladaaGreatDoorSha
import Derived.Test.YtpdceilhgaladaaGreatDoorApp
namespace Go.Vc
open Go.RowKit
section
variable {P : Program} {w : World} {K : Value → World → Prop} {Kp : List PanicEntry → World → Prop} {t e : TypeId}
theorem range0 : Array.range 0 = (#[] : Array Nat) := by apply Array.ext <;> simp
theorem range1 : Array.range 1 = #[0] := by apply Array.ext <;> simp
/-- A slice of nothing, made. -/
theorem Do_build0 {n bytes : Nat} {z : List Value} (hu : P.underlying t = some (.slice e)) (he : rowIs P e n bytes z)
    (hk : ∀ w', New w w' [] e → K (.slice (some ⟨w.heap.size, 0, none⟩) 0 0) w') : Do P (Instr.buildSlice t 0 #[]) w K Kp := by
  obtain ⟨i, v, hi, hz, hs, _, hv⟩ := he
  refine Do_of (w' := w.alloc (.cells ([] : List Value).toArray e)) ?_ (hk _ (New.mk' w [] e))
  simp [Instr.buildSlice, run_underlying' hu, sizeOf, typeInfo, hi, newRow, Instr.fill, range0]
/-- A slice of one element of one cell, made. -/
theorem Do_build1 {bytes : Nat} {z u : Value} (hu : P.underlying t = some (.slice e)) (he : rowIs P e 1 bytes [z]) (h1 : u.oneCell' = true)
    (hk : ∀ w', New w w' [u] e → K (.slice (some ⟨w.heap.size, 0, none⟩) 1 1) w') : Do P (Instr.buildSlice t 1 #[(0, u)]) w K Kp := by
  have hv : u.cells = #[u] := by cases u <;> first | rfl | cases h1
  refine Do_buildSlice (cells := [u]) hu he (by decide) (by decide) ?_ hk
  simp [Instr.fill, hv, range1]
end
end Go.Vc

namespace Go.Proofs.YtpdceilhgaladaaGreatDoor
open Go.Vc Go.Vc.Sha Go.RowKit

theorem row8 : rowIs Tryz.prog 5 1 1 [u8 0] := rowIs_of (by kernel_rfl)
theorem row64 : rowIs Tryz.prog 191 1 8 [u64 0] := rowIs_of (by kernel_rfl)
theorem rowBytes : rowIs Tryz.prog 22 1 24 [.slice none 0 0] := rowIs_of (by kernel_rfl)

/-- slices.Clone of bytes. -/
theorem cloneB_c {w : World} {v : Value} {b : List UInt8} (hv : Sees w v b.length (b.map u8)) (hb : b.length ≤ 70368744177664) :
    Calls Tryz.prog 35 #[v] w (Ret fun v' w' => Own w' 5 1 v' b.length (b.map u8) ∧ Ext w w' ∧ (∀ g, v'.ownBlock = some g → w.heap.size ≤ g) ∧ (v' = .slice none 0 0 ↔ v = .slice none 0 0)) := by
  refine vc_slices_Clone_byte_byte ?_
  unfold V_slices_Clone_byte_byte
  rcases hv with ⟨rfl, hl, he⟩ | ⟨a, c, rfl, h2, h3, h4⟩
  · refine Do_pu (pu_sleq Tryz.underlying22) ?_
    obtain rfl : b = [] := List.eq_nil_of_length_eq_zero hl
    refine CondT ?_
    exact Ret.of ⟨Own.nil _ _ _, Ext.refl _, fun g hg => (by cases hg), by simp⟩
  · refine Do_pu (pu_sleq Tryz.underlying22) ?_
    refine Do_build0 Tryz.underlying22 row8 fun w2 n2 => ?_
    refine DoN_append Tryz.underlying22 row8 rfl (by omega) (Own.new n2 (n := 0) rfl (by omega)) (Sees.ext (.inr ⟨a, c, rfl, h2, h3, h4⟩) n2.ext) (by simp) (one_u8 b) (by omega) (by omega) fun v' w3 ho hg hbl hnil => ?_
    refine Ret.of ⟨by simpa using ho, n2.ext.grown hg (fun k e => by cases e; exact Nat.le_refl _), fun g hgg => ?_, ?_⟩
    · rcases hbl with h | h
      · rw [h] at hgg; cases hgg; exact Nat.le_refl _
      · rw [h] at hgg; cases hgg; have := n2.size; omega
    · simpa using hnil

/-- A writer that lies at block h: its words, what is no block yet, how many bytes were written. -/
structure HashAt (w : World) (h : Nat) (ws : List UInt64) (lv : Value) (left : List UInt8) (many : UInt64) : Prop where
  blk : Blk w h (ws.map u64 ++ [lv, u64 many, .bool true]) 217
  len : ws.length = 8
  left : Own w 5 1 lv left.length (left.map u8)
  ne : lv.ownBlock ≠ some h

theorem hashNew_c {w : World} (hk : Laid w) :
    Calls Tryz.prog 98 #[] w (Ret fun v' w' => v' = .pointer (some ⟨w.heap.size, 0, none⟩) ∧ HashAt w' w.heap.size v0S (.slice none 0 0) [] 0 ∧ Ext w w' ∧ w.heap.size < w'.heap.size) := by
  refine vc_sha_New ?_
  unfold V_sha_New
  refine Do_loadAgg (l := v0S.map u64) Tryz.underlying215 rfl (by kernel_rfl) (fun j v hj => ?_) ?_
  · have hj8 : j < 8 := (List.getElem?_eq_some_iff.1 hj).1
    rw [add_off, Nat.zero_add, hk.v0 j hj8, ← hj]
    exact (map_getD v0S j hj8).symm
  refine Do_of (run_buildS (cells := v0S.map u64 ++ [.slice none 0 0, u64 0, .bool true]) Tryz.underlying217 (zero := List.replicate 8 (u64 0) ++ [.slice none 0 0, u64 0, .bool false]) (by kernel_rfl) (by kernel_rfl) (by kernel_rfl) _) ?_
  refine Do_box rfl fun w3 n3 => ?_
  exact Ret.of ⟨rfl, ⟨n3.blk, rfl, Own.nil _ _ _, by simp [Value.ownBlock]⟩, n3.ext, by have := n3.size; omega⟩

theorem hashThere_c {w : World} {h : Nat} {ws : List UInt64} {lv : Value} {many : UInt64} (hb : Blk w h (ws.map u64 ++ [lv, u64 many, .bool true]) 217) (hl : ws.length = 8) :
    Calls Tryz.prog 140 #[.pointer (some ⟨h, 0, none⟩)] w (Ret fun v' w' => v' = .bool true ∧ w' = w) := by
  refine vc_sha_Hash_there ?_
  unfold V_sha_Hash_there
  refine Do_pu (pu_ptrne Tryz.underlying162) ?_
  refine DoN_pu pu_nilptr ?_
  refine Do_pu (pu_field Tryz.underlying217 rfl (n := 0) (o := 10) (by kernel_rfl) rfl) ?_
  refine Do_load Tryz.underlying4 rfl (v := .bool true) ?_ ?_
  · rw [hb.cell, List.getElem?_append_right (by simp; omega)]
    simp [hl]
  · exact Ret.of ⟨rfl, rfl⟩

theorem hcell8 {w : World} {h : Nat} {ws : List UInt64} {lv x y : Value} (hb : Blk w h (ws.map u64 ++ [lv, x, y]) 217) (hl : ws.length = 8) : w.cell? ⟨h, 0 + 8, none⟩ = some lv := by
  rw [hb.cell, List.getElem?_append_right (by simp; omega)]; simp [hl]
theorem hcell9 {w : World} {h : Nat} {ws : List UInt64} {lv x y : Value} (hb : Blk w h (ws.map u64 ++ [lv, x, y]) 217) (hl : ws.length = 8) : w.cell? ⟨h, 0 + 9, none⟩ = some x := by
  rw [hb.cell, List.getElem?_append_right (by simp; omega)]; simp [hl]
theorem hset8 {ws : List UInt64} {lv x y z : Value} (hl : ws.length = 8) : (ws.map u64 ++ [lv, x, y]).set (0 + 8) z = ws.map u64 ++ [z, x, y] := by
  rw [List.set_append_right _ _ (by simp; omega)]; simp [hl]
theorem hset9 {ws : List UInt64} {lv x y z : Value} (hl : ws.length = 8) : (ws.map u64 ++ [lv, x, y]).set (0 + 9) z = ws.map u64 ++ [lv, z, y] := by
  rw [List.set_append_right _ _ (by simp; omega)]; simp [hl]

/-- The blocks that writing may change: the writer's, and its rest's. -/
def HS (h : Nat) (lv : Value) (k : Nat) : Prop := k = h ∨ lv.ownBlock = some k
def OwnC (w : World) (lv lv1 : Value) : Prop := lv1.ownBlock = lv.ownBlock ∨ lv1.ownBlock = none ∨ ∃ g, lv1.ownBlock = some g ∧ w.heap.size ≤ g
theorem OwnC.hs {w : World} {h : Nat} {lv lv1 : Value} (ho : OwnC w lv lv1) : ∀ g, lv1.ownBlock = some g → g < w.heap.size → HS h lv g := by
  intro g hg hlt
  rcases ho with e | e | ⟨g', e, hge⟩
  · exact .inr (by rw [← e]; exact hg)
  · rw [e] at hg; cases hg
  · rw [e] at hg; cases hg; omega
/-- A slice of bytes that writing leaves alone. -/
structure Apart (w : World) (h : Nat) (lv v : Value) (b : List UInt8) : Prop where
  sees : Sees w v b.length (b.map u8)
  far : b ≠ [] → ∀ g, v.ownBlock = some g → ¬ HS h lv g
theorem Apart.at {w w' : World} {h : Nat} {lv v : Value} {b : List UInt8} (hv : Apart w h lv v b) (hc : Chg w w' (HS h lv)) : Sees w' v b.length (b.map u8) :=
  hv.sees.chg hc (fun hne => hv.far (fun e => hne (by rw [e]; rfl)))
theorem Apart.part {w : World} {h lo hi : Nat} {lv v : Value} {b : List UInt8} (hv : Apart w h lv v b) (ol oh : Option Value)
    (hol : ol = some (i64 lo) ∨ ol = none ∧ lo = 0) (hoh : oh = some (i64 hi) ∨ oh = none ∧ hi = b.length) (h1 : lo ≤ hi) (h2 : hi ≤ b.length) :
    ∃ v', Pu Tryz.prog (Instr.sliceAt 22 v ol oh none) v' ∧ Apart w h lv v' ((b.drop lo).take (hi - lo)) := by
  obtain ⟨v', p, s, o⟩ := Sees.sliceAt (P := Tryz.prog) (s := 1) hv.sees (by simp) Tryz.underlying22 (by kernel_rfl) ol oh hol hoh h1 h2
  refine ⟨v', p, ⟨?_, fun hne => ?_⟩⟩
  · have e : ((b.drop lo).take (hi - lo)).length = hi - lo := by simp; omega
    rw [e]; simpa using s
  · rw [o]; exact hv.far (fun e => hne (by rw [e]; simp))

theorem chunksS_full (ks v : List UInt64) (a b : List UInt8) (h : a.length = 128) : chunksS ks v (a ++ b) = chunksS ks (blockS ks v a) b := by
  rw [chunksS_ge ks v (a ++ b) (by simp; omega)]
  have e1 : (a ++ b).take 128 = a := by rw [← h]; simp
  have e2 : (a ++ b).drop 128 = b := by rw [← h]; simp
  rw [e1, e2]

set_option maxRecDepth 20000 in
theorem hashWrite_c {w : World} {h : Nat} {ws : List UInt64} {lv pv : Value} {left : List UInt8} {many : UInt64} {parts : List (List UInt8)} {vs : List Value} (H : HashAt w h ws lv left many) (hleft : left.length < 128) (hk : Laid w)
    (hpv : Sees w pv parts.length vs) (hpf : vs ≠ [] → ∀ g, pv.ownBlock = some g → ¬ HS h lv g) (hvl : vs.length = parts.length) (hps : ∀ (i : Nat) v p, vs[i]? = some v → parts[i]? = some p → Apart w h lv v p)
    (hlen : left.length + parts.flatten.length ≤ 35184372088832) (hg0 : ¬ HS h lv 2) (hg1 : ¬ HS h lv 0) :
    Calls Tryz.prog 99 #[.pointer (some ⟨h, 0, none⟩), pv] w (Ret fun v w' => v = i64 0 ∧ Chg w w' (HS h lv) ∧
      ∃ lv', HashAt w' h (chunksS kS ws (left ++ parts.flatten)).1 lv' (chunksS kS ws (left ++ parts.flatten)).2 (many + UInt64.ofNat parts.flatten.length) ∧ OwnC w lv lv') := by
  have hhlt := H.blk.lt
  have hkk : ∀ {w'}, Chg w w' (HS h lv) → Laid w' := fun hc => ⟨fun j hj => hc.cell (hk.k j hj) hg0, fun j hj => hc.cell (hk.v0 j hj) hg1⟩
  refine vc_sha_Hash_Write ?_
  unfold V_sha_Hash_Write
  refine CallS_v (hashThere_c H.blk H.len) ?_
  refine Do_pu pu_not (CondF ?_)
  refine DoN_pu (pu_len Tryz.underlying55 hpv) ?_
  refine ⟨fun m xs w' => ∃ t : Nat, xs = [i64 t] ∧ m + t = parts.length ∧ Chg w w' (HS h lv) ∧ ∃ lv1, OwnC w lv lv1 ∧
    HashAt w' h (chunksS kS ws (left ++ (parts.take t).flatten)).1 lv1 (chunksS kS ws (left ++ (parts.take t).flatten)).2 (many + UInt64.ofNat (parts.take t).flatten.length), ⟨parts.length, 0, rfl, rfl, Chg.refl _ _, lv, .inl rfl, ?_⟩, ?_⟩
  · simpa [chunksS_lt kS ws left hleft] using H
  rintro m1 x13 j1 w1 ⟨t, hx, hm, hc, lv1, ho1, H1⟩
  obtain rfl : x13 = i64 t := by simpa using hx
  have hpl := hpv.len
  refine Do_pu pu_lss (CondV_if (fun ht => ?_) fun ht => ?_)
  · have htn : t < parts.length := by omega
    have hvp := hps t (vs[t]'(by omega)) parts[t] (List.getElem?_eq_getElem (by omega)) (List.getElem?_eq_getElem htn)
    have hC8 := chunksS_prop kS _ ws (left ++ (parts.take t).flatten) (Nat.le_refl _) H.len
    have hfl : (parts.take (t + 1)).flatten = (parts.take t).flatten ++ parts[t] := by
      rw [List.take_add_one, List.getElem?_eq_getElem htn]
      simp only [Option.toList, List.flatten_append, List.flatten_cons, List.flatten_nil, List.append_nil]
    have hstep : chunksS kS ws (left ++ (parts.take (t + 1)).flatten) = chunksS kS (chunksS kS ws (left ++ (parts.take t).flatten)).1 ((chunksS kS ws (left ++ (parts.take t).flatten)).2 ++ parts[t]) := by
      rw [hfl, ← List.append_assoc]; exact chunksS_append kS _ _ _ _ (Nat.le_refl _)
    have hmany : many + UInt64.ofNat (parts.take (t + 1)).flatten.length = many + UInt64.ofNat (parts.take t).flatten.length + UInt64.ofNat parts[t].length := by
      rw [hfl, List.length_append, UInt64.ofNat_add, UInt64.add_assoc]
    have hplen : parts[t].length ≤ 35184372088832 := by
      have h1 : (parts.take (t + 1)).flatten.length ≤ parts.flatten.length := by
        conv => rhs; rw [← List.take_append_drop (t + 1) parts, List.flatten_append, List.length_append]
        omega
      rw [hfl, List.length_append] at h1
      omega
    generalize chunksS kS ws (left ++ (parts.take t).flatten) = C at H1 hC8 hstep
    obtain ⟨ws1, left1⟩ := C
    generalize many + UInt64.ofNat (parts.take t).flatten.length = many1 at H1 hmany
    generalize hP : parts[t] = p at hvp hstep hmany hplen
    generalize hV : vs[t]'(by omega) = v at hvp
    obtain ⟨hw8, hl128, _⟩ := hC8
    simp only at H1 hw8 hl128 hstep
    obtain ⟨a, pa, ca⟩ := (hpv.chg hc hpf).indexAt (P := Tryz.prog) (s := 1) (k := .i64) Tryz.underlying55 (by kernel_rfl) htn
    have ca0 := ca 0 v (by simp [← hV, hvl, htn])
    refine Do_pu pa ?_
    refine Do_load Tryz.underlying22 rfl (by simpa [add_zero_] using ca0) ?_
    refine DoN_pu pu_nilptr ?_
    refine Do_pu (pu_field Tryz.underlying217 rfl (n := 0) (o := 9) (by kernel_rfl) rfl) ?_
    refine Do_load Tryz.underlying191 rfl (hcell9 H1.blk hw8) ?_
    refine DoN_pu (pu_len Tryz.underlying22 (hvp.at hc)) ?_
    refine Do_pu (pu_i64u64 Tryz.underlying3 Tryz.underlying191) ?_
    refine Do_pu pu_uadd ?_
    refine DoN_pu pu_nilptr ?_
    refine Do_pu (pu_field Tryz.underlying217 rfl (n := 0) (o := 9) (by kernel_rfl) rfl) ?_
    refine DoU_store (by kernel_rfl) H1.blk (by simp [hw8]) rfl fun w16 hb16 hg16 => ?_
    rw [hset9 hw8, ← hmany] at hb16
    have hc16 : Chg w w16 (HS h lv) := hc.grown hg16 (fun g e _ => .inl (by cases e; rfl))
    have hown16 : Own w16 5 1 lv1 left1.length (left1.map u8) := H1.left.kept hg16 (fun g e => by cases e; exact H1.ne)
    generalize hm2 : many + UInt64.ofNat (parts.take (t + 1)).flatten.length = many2 at hb16 hmany
    have hne1 := H1.ne
    clear H1
    refine ⟨fun xs w' => ∃ ws2 lv2 qv q, xs = [qv] ∧ HashAt w' h ws2 lv2 [] many2 ∧ Apart w h lv qv q ∧ chunksS kS ws2 q = chunksS kS ws1 (left1 ++ p) ∧ Chg w w' (HS h lv) ∧ OwnC w lv lv2 ∧ q.length ≤ 35184372088832, ?_, ?_⟩
    · refine DoN_pu pu_nilptr ?_
      refine Do_pu (pu_field Tryz.underlying217 rfl (n := 0) (o := 8) (by kernel_rfl) rfl) ?_
      refine Do_load Tryz.underlying22 rfl (hcell8 hb16 hw8) ?_
      refine DoN_pu (pu_len Tryz.underlying22 hown16.sees) ?_
      refine Do_pu (pu_isub (by omega) (by omega)) ?_
      refine DoN_pu (pu_len Tryz.underlying22 (hvp.at hc16)) ?_
      refine DoN_pu pu_min ?_
      have hmin : (if (p.length : Int) < 128 - (left1.length : Int) then (p.length : Int) else 128 - (left1.length : Int)) = ((min (128 - left1.length) p.length : Nat) : Int) := by split <;> omega
      rw [hmin]
      refine DoN_pu pu_nilptr ?_
      refine Do_pu (pu_field Tryz.underlying217 rfl (n := 0) (o := 8) (by kernel_rfl) rfl) ?_
      refine Do_load Tryz.underlying22 rfl (hcell8 hb16 hw8) ?_
      refine DoN_pu (pu_len Tryz.underlying22 hown16.sees) ?_
      refine Do_pu pu_gtr (CondV_if (fun hpos => ?_) fun hpos => ?_)
      · have hnn : min (128 - left1.length) p.length ≤ p.length := Nat.min_le_right _ _
        have hnn' : min (128 - left1.length) p.length ≤ 128 - left1.length := Nat.min_le_left _ _
        have hnne : min (128 - left1.length) p.length = p.length ∨ min (128 - left1.length) p.length = 128 - left1.length := by omega
        generalize min (128 - left1.length) p.length = nn at hnn hnn' hnne ⊢
        obtain ⟨va, pva, hva⟩ := hvp.part (lo := 0) (hi := nn) none (some (i64 nn)) (.inr ⟨rfl, rfl⟩) (.inl rfl) (Nat.zero_le _) hnn
        obtain ⟨vb, pvb, hvb⟩ := hvp.part (lo := nn) (hi := p.length) (some (i64 nn)) none (.inl rfl) (.inr ⟨rfl, rfl⟩) hnn (Nat.le_refl _)
        rw [List.drop_zero, Nat.sub_zero] at hva
        have hvb' : Apart w h lv vb (p.drop nn) := by rw [List.take_of_length_le (by simp)] at hvb; exact hvb
        have hlta : (p.take nn).length = nn := by simp; omega
        refine PureN_pu pu_nilptr ?_
        refine PureQ_pu (pu_field Tryz.underlying217 rfl (n := 0) (o := 8) (by kernel_rfl) rfl) ?_
        refine PureQ_pu pva ?_
        refine PureQ_pu pvb ?_
        refine ⟨Ext, fun _ _ _ => True, Pre.ext, fun _ _ _ _ _ _ => trivial, fun w29 hx29 _ => ?_⟩
        have hx : Ext w16 w29 := (Ext.drew _).trans hx29
        have hb29 := hb16.ext hx
        refine Do_load Tryz.underlying22 rfl (hcell8 hb29 hw8) ?_
        refine DoN_append Tryz.underlying22 row8 rfl (by omega) (hown16.ext hx) (hva.at (hc16.ext hx)) (by simp) (one_u8 _) (by rw [hlta]; omega) (by rw [hlta]; omega) fun v' w30 ho30 hg30 hbl30 _ => ?_
        rw [hlta, ← List.map_append] at ho30
        have hb30 := hb29.kept hg30 (fun e => hne1 e.symm)
        have hc30 : Chg w w30 (HS h lv) := (hc16.ext hx).grown hg30 ho1.hs
        have hne30 : v'.ownBlock ≠ some h := by
          rcases hbl30 with e | e
          · rw [e]; exact hne1
          · rw [e]; intro e'; cases e'; exact Nat.lt_irrefl _ hb29.lt
        have ho30' : OwnC w lv v' := by
          rcases hbl30 with e | e
          · rcases ho1 with e1 | e1 | ⟨g, e1, hge⟩
            · exact .inl (e.trans e1)
            · exact .inr (.inl (e.trans e1))
            · exact .inr (.inr ⟨g, e.trans e1, hge⟩)
          · exact .inr (.inr ⟨_, e, (hc16.ext hx).size⟩)
        refine DoN_pu pu_nilptr ?_
        refine Do_pu (pu_field Tryz.underlying217 rfl (n := 0) (o := 8) (by kernel_rfl) rfl) ?_
        refine DoU_store (by kernel_rfl) hb30 (by simp [hw8]) (by rcases ho30.2 with ⟨rfl, _⟩ | ⟨_, _, _, rfl, _⟩ <;> rfl) fun w33 hb33 hg33 => ?_
        rw [hset8 hw8] at hb33
        have ho33 : Own w33 5 1 v' (left1.length + nn) ((left1 ++ p.take nn).map u8) := ho30.kept hg33 (fun g e => by cases e; exact hne30)
        have hc33 : Chg w w33 (HS h lv) := hc30.grown hg33 (fun g e _ => .inl (by cases e; rfl))
        generalize hsm : left1.length + nn = sm at ho33
        refine DoN_pu pu_nilptr ?_
        refine Do_pu (pu_field Tryz.underlying217 rfl (n := 0) (o := 8) (by kernel_rfl) rfl) ?_
        refine Do_load Tryz.underlying22 rfl (hcell8 hb33 hw8) ?_
        refine DoN_pu (pu_len Tryz.underlying22 ho33.sees) ?_
        refine Do_pu pu_lss (CondV_if (fun hlt => ?_) fun hlt => ?_)
        · have hnp : nn = p.length := by omega
          rw [hnp, List.take_length] at ho33
          rw [← hsm, hnp] at ho33
          refine Do_pu (pu_iadd (by omega) (by omega)) ?_
          refine ⟨m1 - 1, by omega, t + 1, by simp, by omega, hc33, v', ho30', ?_⟩
          rw [hstep, chunksS_lt kS ws1 _ (by simp; omega), hm2]
          exact ⟨hb33, hw8, by simpa using ho33, hne30⟩
        · have hnp : left1.length + nn = 128 := by omega
          obtain rfl : sm = 128 := by omega
          refine ⟨Ext, fun _ _ _ => True, Pre.ext, fun _ _ _ _ _ _ => trivial, ?_⟩
          refine PureN_pu pu_nilptr ?_
          refine PureQ_pu (pu_field Tryz.underlying217 rfl (n := 7) (o := 0) (by kernel_rfl) rfl) ?_
          refine PureN_pu pu_nilptr ?_
          refine PureQ_pu (pu_field Tryz.underlying217 rfl (n := 0) (o := 8) (by kernel_rfl) rfl) ?_
          refine PureQ_load Tryz.underlying22 rfl (fun z hz => hcell8 (hb33.ext ((Ext.drew _).trans hz.1)) hw8) fun w41 hx41 _ => ?_
          have hx' : Ext w33 w41 := (Ext.drew _).trans hx41
          have hbl' : (left1 ++ p.take nn).length = 128 := by rw [List.length_append, hlta, hnp]
          have hbc := block_c (hb33.ext hx') hw8 (Own.sees (ho33.ext hx')) hbl' (hkk (hc33.ext hx'))
          refine CallS_r hbc fun _ w42 hh => ?_
          obtain ⟨hb42, hg42⟩ := hh
          have hw8' := blockS_length kS ws1 (left1 ++ p.take nn) hw8
          have ho42 := (ho33.ext hx').kept hg42 (fun g e => by cases e; exact hne30)
          refine DoN_pu pu_nilptr ?_
          refine Do_pu (pu_field Tryz.underlying217 rfl (n := 0) (o := 8) (by kernel_rfl) rfl) ?_
          refine Do_load Tryz.underlying22 rfl (hcell8 hb42 hw8') ?_
          obtain ⟨v0, pv0, ho0, hbl0⟩ := ho42.sliceTo (P := Tryz.prog) (k := 0) Tryz.underlying22 (by kernel_rfl) (Nat.zero_le _)
          refine Do_pu pv0 ?_
          refine DoN_pu pu_nilptr ?_
          refine Do_pu (pu_field Tryz.underlying217 rfl (n := 0) (o := 8) (by kernel_rfl) rfl) ?_
          refine DoU_store (by kernel_rfl) hb42 (by simp [hw8']) (by rcases ho0.2 with ⟨rfl, _⟩ | ⟨_, _, _, rfl, _⟩ <;> rfl) fun w49 hb49 hg49 => ?_
          rw [hset8 hw8'] at hb49
          have hne0 : v0.ownBlock ≠ some h := by rw [hbl0]; exact hne30
          refine ⟨_, v0, vb, p.drop nn, rfl, ⟨hb49, hw8', by simpa using ho0.kept hg49 (fun g e => by cases e; exact hne0), hne0⟩, hvb', ?_, ((hc33.ext hx').grown hg42 (fun g e _ => .inl (by cases e; rfl))).grown hg49 (fun g e _ => .inl (by cases e; rfl)), ?_, by simp; omega⟩
          · have e1 : left1 ++ p = (left1 ++ p.take nn) ++ p.drop nn := by rw [List.append_assoc, List.take_append_drop]
            have e2 : (left1 ++ p.take nn).length = 128 := by simp [hlta]; omega
            rw [e1, chunksS_full kS ws1 _ _ e2]
          · unfold OwnC; rw [hbl0]; exact ho30'
      · obtain rfl : left1 = [] := List.eq_nil_of_length_eq_zero (by omega)
        exact ⟨ws1, lv1, v, p, rfl, ⟨hb16, hw8, hown16, hne1⟩, hvp, by simp, hc16, ho1, hplen⟩
    · rintro x6 j2 w50 ⟨ws2, lv2, qv, q, hx6, H2, hq, hqc, hc50, ho2, hql⟩
      obtain rfl : x6 = qv := by simpa using hx6
      refine ⟨fun m xs w' => ∃ ws2 lv2 qv q, xs = [qv] ∧ m = q.length ∧ HashAt w' h ws2 lv2 [] many2 ∧ Apart w h lv qv q ∧ chunksS kS ws2 q = chunksS kS ws1 (left1 ++ p) ∧ Chg w w' (HS h lv) ∧ OwnC w lv lv2 ∧ q.length ≤ 35184372088832,
        ⟨q.length, ws2, lv2, x6, q, rfl, rfl, H2, hq, hqc, hc50, ho2, hql⟩, ?_⟩
      clear H2 hq hqc hc50 ho2 hql hx6
      rintro m5 x6_1 j5 w51 ⟨ws2, lv2, qv, q, hx6, hm5, H2, hq, hqc, hc51, ho2, hql⟩
      obtain rfl : x6_1 = qv := by simpa using hx6
      refine DoN_pu (pu_len Tryz.underlying22 (hq.at hc51)) ?_
      refine Do_pu pu_geq (CondV_if (fun hge => ?_) fun hge => ?_)
      · obtain ⟨va, pva, hva⟩ := hq.part (lo := 0) (hi := 128) none (some (i64 128)) (.inr ⟨rfl, rfl⟩) (.inl rfl) (Nat.zero_le _) (by omega)
        obtain ⟨vb, pvb, hvb⟩ := hq.part (lo := 128) (hi := q.length) (some (i64 128)) none (.inl rfl) (.inr ⟨rfl, rfl⟩) (by omega) (Nat.le_refl _)
        rw [List.drop_zero, Nat.sub_zero] at hva
        rw [List.take_of_length_le (by simp)] at hvb
        refine ⟨Ext, fun _ _ _ => True, Pre.ext, fun _ _ _ _ _ _ => trivial, ?_⟩
        refine PureN_pu pu_nilptr ?_
        refine PureQ_pu (pu_field Tryz.underlying217 rfl (n := 7) (o := 0) (by kernel_rfl) rfl) ?_
        refine PureQ_pu pva fun w54 hx54 _ => ?_
        have hx' : Ext w51 w54 := (Ext.drew _).trans hx54
        have hlq : (q.take 128).length = 128 := by simp; omega
        have hsq := hva.at (hc51.ext hx')
        rw [hlq] at hsq
        have hbc := block_c (H2.blk.ext hx') H2.len hsq hlq (hkk (hc51.ext hx'))
        refine CallS_r hbc fun _ w55 hh => ?_
        obtain ⟨hb55, hg55⟩ := hh
        refine Do_pu pvb ?_
        refine ⟨(q.drop 128).length, by rw [hm5]; simp; omega, _, lv2, vb, q.drop 128, rfl, rfl, ⟨hb55, blockS_length kS ws2 _ H2.len, (H2.left.ext hx').kept hg55 (fun g e => by cases e; exact H2.ne), H2.ne⟩, hvb, ?_, (hc51.ext hx').grown hg55 (fun g e _ => .inl (by cases e; rfl)), ho2, by simp; omega⟩
        rw [← hqc]
        exact (chunksS_ge kS ws2 q (by omega)).symm
      · have hq128 : q.length < 128 := by omega
        refine DoN_pu pu_nilptr ?_
        refine Do_pu (pu_field Tryz.underlying217 rfl (n := 0) (o := 8) (by kernel_rfl) rfl) ?_
        refine Do_load Tryz.underlying22 rfl (hcell8 H2.blk H2.len) ?_
        refine DoN_append Tryz.underlying22 row8 rfl (by omega) H2.left (hq.at hc51) (by simp) (one_u8 _) (by simp; omega) (by simp; omega) fun v' w60 ho60 hg60 hbl60 _ => ?_
        have hb60 := H2.blk.kept hg60 (fun e => H2.ne e.symm)
        have hne60 : v'.ownBlock ≠ some h := by
          rcases hbl60 with e | e
          · rw [e]; exact H2.ne
          · rw [e]; intro e'; cases e'; exact Nat.lt_irrefl _ H2.blk.lt
        have ho60' : OwnC w lv v' := by
          rcases hbl60 with e | e
          · rcases ho2 with e1 | e1 | ⟨g, e1, hge⟩
            · exact .inl (e.trans e1)
            · exact .inr (.inl (e.trans e1))
            · exact .inr (.inr ⟨g, e.trans e1, hge⟩)
          · exact .inr (.inr ⟨_, e, hc51.size⟩)
        refine DoN_pu pu_nilptr ?_
        refine Do_pu (pu_field Tryz.underlying217 rfl (n := 0) (o := 8) (by kernel_rfl) rfl) ?_
        refine DoU_store (by kernel_rfl) hb60 (by simp [H2.len]) (by rcases ho60.2 with ⟨rfl, _⟩ | ⟨_, _, _, rfl, _⟩ <;> rfl) fun w63 hb63 hg63 => ?_
        rw [hset8 H2.len] at hb63
        refine Do_pu (pu_iadd (by omega) (by omega)) ?_
        refine ⟨m1 - 1, by omega, t + 1, by simp, by omega, (hc51.grown hg60 ho2.hs).grown hg63 (fun g e _ => .inl (by cases e; rfl)), v', ho60', ?_⟩
        rw [hstep, ← hqc, chunksS_lt kS ws2 q hq128, hm2]
        exact ⟨hb63, H2.len, by simpa using ho60.kept hg63 (fun g e => by cases e; exact hne60), hne60⟩
  · obtain rfl : t = parts.length := by omega
    refine Ret.of ⟨rfl, hc, lv1, ?_, ho1⟩
    simpa using H1

theorem pu_umul8 {P : Program} {t : TypeId} (x : UInt64) : Pu P (binOp .mul t (.int .u64 8) (u64 x)) (u64 (8 * x)) := fun w => by
  have := run_mul (P := P) (t := t) .u64 8 x.toNat w
  rw [show (8 : Int) * x.toNat = ((8 * x.toNat : Nat) : Int) by omega, u64_wrap] at this
  have e : UInt64.ofNat (8 * x.toNat) = 8 * x := by apply UInt64.toNat_inj.1; simp
  rw [e] at this; exact this

theorem hashCopy_c {w : World} {h : Nat} {ws : List UInt64} {lv : Value} {left : List UInt8} {many : UInt64} (H : HashAt w h ws lv left many) (hleft : left.length < 128) :
    Calls Tryz.prog 142 #[.pointer (some ⟨h, 0, none⟩)] w (Ret fun v w' => v = .pointer (some ⟨w.heap.size, 0, none⟩) ∧ Ext w w' ∧ ∃ lv', HashAt w' w.heap.size ws lv' left many ∧ ∀ g, lv'.ownBlock = some g → w.heap.size ≤ g) := by
  have hl := H.len
  refine vc_sha_Hash_Copy ?_
  unfold V_sha_Hash_Copy
  refine CallS_v (hashThere_c H.blk hl) ?_
  refine Do_pu pu_not (CondF ?_)
  refine DoN_pu pu_nilptr ?_
  refine Do_loadAgg (l := ws.map u64 ++ [lv, u64 many, .bool true]) Tryz.underlying217 rfl (by simp only [List.length_append, List.length_map, hl]; kernel_rfl) (fun j v hj => ?_) ?_
  · rw [add_off, H.blk.cell, Nat.zero_add]; exact hj
  have h1 : ∀ c ∈ ws.map u64 ++ [lv, u64 many, .bool true], c.oneCell' = true := by
    intro c hc
    rcases List.mem_append.1 hc with hc | hc
    · exact one_u64 ws c hc
    · simp only [List.mem_cons, List.mem_nil_iff, or_false] at hc
      rcases hc with rfl | rfl | rfl
      · rcases H.left.2 with ⟨rfl, _⟩ | ⟨_, _, _, rfl, _⟩ <;> rfl
      · rfl
      · rfl
  refine Do_alloc (l := List.replicate 8 (u64 0) ++ [.slice none 0 0, u64 0, .bool false]) (by kernel_rfl) fun w5 n5 => ?_
  refine DoU_storeAgg (by simp only [List.length_append, List.length_map, hl]; kernel_rfl) n5.blk (by simp [hl]) h1 fun w6 hb6 hg6 => ?_
  have hb6' : Blk w6 w.heap.size (ws.map u64 ++ [lv, u64 many, .bool true]) 217 := by simpa [hl] using hb6
  have hx6 : Ext w w6 := n5.ext.grown hg6 (fun k e => by cases e; exact Nat.le_refl _)
  refine DoN_pu pu_nilptr ?_
  refine Do_pu (pu_field Tryz.underlying217 rfl (n := 0) (o := 8) (by kernel_rfl) rfl) ?_
  refine Do_load Tryz.underlying22 rfl (hcell8 (H.blk.ext hx6) hl) ?_
  refine CallS_r (cloneB_c (H.left.ext hx6).sees (by omega)) fun lv' w10 hh => ?_
  obtain ⟨ho, hx10, hfr, _⟩ := hh
  refine Do_pu (pu_field Tryz.underlying217 rfl (n := 0) (o := 8) (by kernel_rfl) rfl) ?_
  have hlt6 : w.heap.size < w6.heap.size := hb6'.lt
  have hne : lv'.ownBlock ≠ some w.heap.size := fun e => by have := hfr _ e; omega
  refine DoU_store (by kernel_rfl) (hb6'.ext hx10) (by simp [hl]) (by rcases ho.2 with ⟨rfl, _⟩ | ⟨_, _, _, rfl, _⟩ <;> rfl) fun w12 hb12 hg12 => ?_
  rw [hset8 hl] at hb12
  exact Ret.of ⟨rfl, (hx6.trans hx10).grown hg12 (fun k e => by cases e; exact Nat.le_refl _), lv', ⟨hb12, hl, ho.kept hg12 (fun g e => by cases e; exact hne), hne⟩, fun g hg => by have := hfr g hg; omega⟩

theorem Own.one {w : World} {e : TypeId} {s : Nat} {v : Value} {n : Nat} {l : List Value} (h : Own w e s v n l) : v.oneCell' = true := by rcases h.2 with ⟨rfl, _⟩ | ⟨_, _, _, rfl, _⟩ <;> rfl
theorem zerosS_lt (n : Nat) : zerosS n < 128 := Nat.mod_lt _ (by omega)
def beTake (x : UInt64) (j : Nat) : List UInt8 := (be8 x).take j
theorem beTake_succ (x : UInt64) (j : Nat) (h : j < 8) : beTake x (j + 1) = beTake x j ++ [byteS x (56 - 8 * j)] := by
  match j, h with
  | 0, _ => rfl
  | 1, _ => rfl
  | 2, _ => rfl
  | 3, _ => rfl
  | 4, _ => rfl
  | 5, _ => rfl
  | 6, _ => rfl
  | 7, _ => rfl
/-- A block that was made behind a world stays away from what was there. -/
def Late (w : World) (v : Value) : Prop := ∀ g, v.ownBlock = some g → w.heap.size ≤ g
theorem Late.append {w w1 : World} {v v' : Value} (h : Late w v) (hs : w.heap.size ≤ w1.heap.size) (hbl : v'.ownBlock = v.ownBlock ∨ v'.ownBlock = some w1.heap.size) : Late w v' := by
  intro g hg
  rcases hbl with e | e
  · exact h g (by rw [← e]; exact hg)
  · rw [e] at hg; cases hg; exact hs

set_option maxRecDepth 20000 in
theorem hashSum_c {w : World} {h : Nat} {ws : List UInt64} {lv : Value} {left : List UInt8} {many : UInt64} (H : HashAt w h ws lv left many) (hleft : left.length < 128) (hk : Laid w) :
    Calls Tryz.prog 100 #[.pointer (some ⟨h, 0, none⟩)] w (Ret fun v w' => Own w' 5 1 v 64 ((((chunksS kS ws (left ++ padS left.length (8 * many))).1.map be8).flatten).map u8) ∧ Ext w w' ∧ Late w v) := by
  have hl := H.len
  refine vc_sha_Hash_Sum ?_
  unfold V_sha_Hash_Sum
  refine CallS_r (hashCopy_c H hleft) fun x12 w1 hh => ?_
  obtain ⟨rfl, hx1, lv1, H1, hl1⟩ := hh
  refine Do_pu (pu_ptreq Tryz.underlying162) (CondF ?_)
  refine DoN_pu pu_nilptr ?_
  refine Do_pu (pu_field Tryz.underlying217 rfl (n := 0) (o := 9) (by kernel_rfl) rfl) ?_
  refine Do_load Tryz.underlying191 rfl (hcell9 H1.blk hl) ?_
  refine Do_pu (pu_umul8 many) ?_
  refine Do_makeSlice (l := 0) (c := 256) Tryz.underlying22 row8 (by omega) (by omega) (by omega) fun w7 n7 => ?_
  refine Do_build1 (u := u8 128) Tryz.underlying22 row8 rfl fun w8 n8 => ?_
  refine DoN_append (news := [u8 128]) Tryz.underlying22 row8 rfl (by omega) (Own.ext (Own.room n7 (by simp [madeCells]) (by simp only [maxLen]; omega)) n8.ext) (Own.sees (Own.new (s := 1) (n := 1) n8 rfl (by simp only [maxLen]; omega))) rfl (by intro u hu; cases List.mem_singleton.1 hu; rfl) (by omega) (by omega) fun v9 w9 ho9 hg9 hbl9 _ => ?_
  have hx9 : Ext w1 w9 := (n7.ext.trans n8.ext).grown hg9 (fun k e => by cases e; exact Nat.le_refl _)
  have hl9 : Late w1 v9 := Late.append (v := .slice (some ⟨w1.heap.size, 0, none⟩) 0 256) (fun g e => by cases e; exact Nat.le_refl _) (n7.ext.trans n8.ext).size hbl9
  have hz := zerosS_lt left.length
  have hzm : (left.length + 1 + zerosS left.length) % 128 = 112 := by unfold zerosS; omega
  refine ⟨fun m xs w' => ∃ (k : Nat) (v : Value), xs = [v] ∧ m + k = zerosS left.length ∧ Ext w1 w' ∧ Late w1 v ∧ Own w' 5 1 v (1 + k) ((128 :: List.replicate k 0).map u8), ⟨zerosS left.length, 0, v9, rfl, rfl, hx9, hl9, ho9⟩, ?_⟩
  rintro m1 x5 j1 w10 ⟨k, v, hx5, hm1, hx10, hlv, ho10⟩
  obtain rfl : x5 = v := by simpa using hx5
  refine DoN_pu pu_nilptr ?_
  refine Do_pu (pu_field Tryz.underlying217 rfl (n := 0) (o := 8) (by kernel_rfl) rfl) ?_
  refine Do_load Tryz.underlying22 rfl (hcell8 (H1.blk.ext hx10) hl) ?_
  refine DoN_pu (pu_len Tryz.underlying22 H1.left.sees) ?_
  refine DoN_pu (pu_len Tryz.underlying22 ho10.sees) ?_
  refine Do_pu (pu_iadd (by omega) (by omega)) ?_
  refine Do_pu (pu_irem (by omega) (by omega)) ?_
  refine Do_pu pu_neq (CondV_b (fun hc => ?_) fun hc => ?_)
  · have hc' : ¬ (((left.length : Int) + ((1 + k : Nat) : Int)) % 128 = 112) := by simpa using hc
    have hkz : k < zerosS left.length := by
      rcases Nat.lt_or_ge k (zerosS left.length) with h | h
      · exact h
      · exfalso; apply hc'; have : k = zerosS left.length := by omega
        subst this; omega
    refine Do_build1 (u := u8 0) Tryz.underlying22 row8 rfl fun w19 n19 => ?_
    refine DoN_append (news := [u8 0]) Tryz.underlying22 row8 rfl (by omega) (ho10.ext n19.ext) (Own.sees (Own.new (s := 1) (n := 1) n19 rfl (by simp only [maxLen]; omega))) rfl (by intro u hu; cases List.mem_singleton.1 hu; rfl) (by omega) (by omega) fun v20 w20 ho20 hg20 hbl20 _ => ?_
    refine ⟨m1 - 1, by omega, k + 1, v20, rfl, by omega, (hx10.trans n19.ext).grown hg20 (fun g e => hlv g e), hlv.append (hx10.trans n19.ext).size hbl20, ?_⟩
    have e : (128 :: List.replicate (k + 1) (0 : UInt8)).map u8 = (128 :: List.replicate k (0 : UInt8)).map u8 ++ [u8 0] := by simp [List.replicate_succ']
    rw [e, show 1 + (k + 1) = 1 + k + 1 by omega]
    exact ho20
  · have hc' : ((left.length : Int) + ((1 + k : Nat) : Int)) % 128 = 112 := by simpa using hc
    obtain rfl : k = zerosS left.length := by omega
    have hwz : 2 < w.heap.size ∧ 2 < w.heap.size ∧ 0 < w.heap.size := by
      have h1 := World.block_lt_of_cell? w _ (hk.k 0 (by omega))
      have h2 := World.block_lt_of_cell? w _ (hk.v0 0 (by omega))
      simp only at h1 h2
      omega
    refine DoN_appendZ (m := 8) Tryz.underlying22 Tryz.underlying3 row8 rfl ho10 (by omega) (by omega) (by omega) fun v21 w21 ho21 hg21 hbl21 => ?_
    have hx21 := hx10.grown hg21 (fun g e => hlv g e)
    have hl21 : Late w1 v21 := hlv.append hx10.size hbl21
    refine ⟨fun m xs w' => ∃ (j : Nat) (v : Value), xs = [v, i64 (56 - 8 * (j : Int))] ∧ m + j = 8 ∧ Ext w1 w' ∧ Late w1 v ∧ Own w' 5 1 v (1 + zerosS left.length + 8 + j) ((128 :: (List.replicate (zerosS left.length + 8) 0 ++ beTake (8 * many) j)).map u8), ⟨8, 0, v21, rfl, rfl, hx21, hl21, ?_⟩, ?_⟩
    · have e : (128 :: (List.replicate (zerosS left.length + 8) (0 : UInt8) ++ beTake (8 * many) 0)).map u8 = (128 :: List.replicate (zerosS left.length) (0 : UInt8)).map u8 ++ List.replicate 8 (u8 0) := by
        simp only [beTake, List.take_zero, List.append_nil, List.map_cons, List.map_replicate, List.cons_append, List.replicate_append_replicate]
      rw [e]; exact ho21
    rintro m2 x5_1 x6 j2 w22 ⟨j, v, hx6, hm2, hx22, hlv22, ho22⟩
    obtain ⟨rfl, rfl⟩ : x5_1 = v ∧ x6 = i64 (56 - 8 * (j : Int)) := by simpa using hx6
    refine Do_pu pu_geq (CondV_if (fun hj => ?_) fun hj => ?_)
    · refine Do_pu (pu_ushr (by omega) (by omega)) ?_
      refine Do_pu (pu_u64u8 Tryz.underlying191 Tryz.underlying5) ?_
      refine Do_build1 Tryz.underlying22 row8 rfl fun w26 n26 => ?_
      refine DoN_append Tryz.underlying22 row8 rfl (by omega) (ho22.ext n26.ext) (Own.sees (Own.new (s := 1) (n := 1) n26 rfl (by simp only [maxLen]; omega))) rfl (by intro u hu; cases List.mem_singleton.1 hu; rfl) (by omega) (by omega) fun v27 w27 ho27 hg27 hbl27 _ => ?_
      refine Do_pu (pu_isub (by omega) (by omega)) ?_
      refine ⟨m2 - 1, by omega, j + 1, v27, by simp; omega, by omega, (hx22.trans n26.ext).grown hg27 (fun g e => hlv22 g e), hlv22.append (hx22.trans n26.ext).size hbl27, ?_⟩
      rw [beTake_succ _ _ (by omega), ← List.append_assoc, ← List.cons_append, List.map_append, show 1 + zerosS left.length + 8 + (j + 1) = 1 + zerosS left.length + 8 + j + 1 by omega]
      have e : (56 - 8 * (j : Int)).toNat = 56 - 8 * j := by omega
      rw [e] at ho27
      exact ho27
    · obtain rfl : j = 8 := by omega
      have epad : (128 :: (List.replicate (zerosS left.length + 8) (0 : UInt8) ++ beTake (8 * many) 8)) = padS left.length (8 * many) := rfl
      rw [epad] at ho22
      have hplen : (padS left.length (8 * many)).length = 1 + zerosS left.length + 8 + 8 := by simp [padS, be8]; omega
      rw [← hplen] at ho22
      have hpm := padS_length left.length (8 * many)
      generalize padS left.length (8 * many) = pad at ho22 hplen hpm
      refine Do_build1 Tryz.underlying55 rowBytes (Own.one ho22) fun w29 n29 => ?_
      have hx29 : Ext w1 w29 := hx22.trans n29.ext
      have hge : ∀ g, HS w.heap.size lv1 g → w.heap.size ≤ g := fun g hg => by
        rcases hg with rfl | e
        · exact Nat.le_refl _
        · exact hl1 g e
      have hlt : ∀ g, HS w.heap.size lv1 g → g < w1.heap.size := fun g hg => by
        rcases hg with rfl | e
        · exact H1.blk.lt
        · exact Own.lt H1.left e
      have hH29 : HashAt w29 w.heap.size ws lv1 left many := ⟨H1.blk.ext hx29, hl, H1.left.ext hx29, H1.ne⟩
      have hW := hashWrite_c (parts := [pad]) (vs := [x5_1]) hH29 hleft (hk.ext (hx1.trans hx29)) (Own.sees (Own.new (s := 1) (n := 1) n29 rfl (by simp only [maxLen]; omega)))
        (fun _ g e he => by
          have h1 := hlt _ he
          have h2 := hx22.size
          have h3 : g = w22.heap.size := by cases e; rfl
          omega) rfl
        (fun i v p hv hp => by
          rcases i with _ | i
          · cases hv; cases hp
            exact ⟨Own.sees (Own.ext ho22 n29.ext), fun _ g e he => by have := hlv22 g e; have := hlt _ he; omega⟩
          · simp at hv)
        (by simp; omega) (fun he => by have := hge _ he; omega) (fun he => by have := hge _ he; omega)
      refine CallS_r hW fun _ w30 hh => ?_
      obtain ⟨_, hc30, lv2, H2, _⟩ := hh
      simp only [List.flatten_cons, List.flatten_nil, List.append_nil] at H2
      have hx30 : Ext w w30 := (hx1.trans hx29).chg hc30 hge
      have hC8 := chunksS_prop kS _ ws (left ++ pad) (Nat.le_refl _) hl
      generalize (chunksS kS ws (left ++ pad)).1 = ws2 at H2 hC8 ⊢
      have hl2 := hC8.1
      clear hC8
      refine DoN_pu pu_nilptr ?_
      refine Do_pu (pu_field Tryz.underlying217 rfl (n := 7) (o := 0) (by kernel_rfl) rfl) ?_
      refine Do_loadAgg (l := ws2.map u64) Tryz.underlying215 rfl (by rw [List.length_map, hl2]; kernel_rfl) (fun j v hj => ?_) ?_
      · have hj8 : j < 8 := by simpa [hl2] using (List.getElem?_eq_some_iff.1 hj).1
        rw [add_off, H2.blk.cell, List.getElem?_append_left (by simp; omega)]; simpa using hj
      refine ⟨fun m xs w' => ∃ (i : Nat) (v : Value), xs = [v, i64 i] ∧ m + i = 8 ∧ Ext w30 w' ∧ Late w30 v ∧ Own w' 5 1 v (8 * i) ((((ws2.take i).map be8).flatten).map u8), ⟨8, 0, .slice none 0 0, rfl, rfl, Ext.refl _, (fun g e => by cases e), by simpa using Own.nil w30 5 1⟩, ?_⟩
      rintro m3 x7 x57 j3 w34 ⟨i, v, hx7, hm3, hx34, hlv34, ho34⟩
      obtain ⟨rfl, rfl⟩ : x7 = v ∧ x57 = i64 i := by simpa using hx7
      refine Do_pu pu_lss (CondV_if (fun hi => ?_) fun hi => ?_)
      · have hi8 : i < 8 := by omega
        refine Do_of (run_index1 (l := ws2.map u64) (v := u64 (ws2.getD i 0)) Tryz.underlying215 (by kernel_rfl) Tryz.underlying191 rfl (by omega) (by omega) (by rw [Int.toNat_natCast]; exact map_getD ws2 i (by omega)) _) ?_
        refine ⟨fun m xs w' => ∃ (j : Nat) (v : Value), xs = [v, i64 (56 - 8 * (j : Int))] ∧ m + j = 8 ∧ Ext w30 w' ∧ Late w30 v ∧ Own w' 5 1 v (8 * i + j) ((((ws2.take i).map be8).flatten ++ beTake (ws2.getD i 0) j).map u8), ⟨8, 0, x7, rfl, rfl, hx34, hlv34, by simpa [beTake] using ho34⟩, ?_⟩
        rintro m4 x7_1 x10 j4 w37 ⟨j, v, hx10, hm4, hx37, hlv37, ho37⟩
        obtain ⟨rfl, rfl⟩ : x7_1 = v ∧ x10 = i64 (56 - 8 * (j : Int)) := by simpa using hx10
        refine Do_pu pu_geq (CondV_if (fun hj => ?_) fun hj => ?_)
        · refine Do_pu (pu_ushr (by omega) (by omega)) ?_
          refine Do_pu (pu_u64u8 Tryz.underlying191 Tryz.underlying5) ?_
          refine Do_build1 Tryz.underlying22 row8 rfl fun w41 n41 => ?_
          refine DoN_append Tryz.underlying22 row8 rfl (by omega) (ho37.ext n41.ext) (Own.sees (Own.new (s := 1) (n := 1) n41 rfl (by simp only [maxLen]; omega))) rfl (by intro u hu; cases List.mem_singleton.1 hu; rfl) (by omega) (by omega) fun v42 w42 ho42 hg42 hbl42 _ => ?_
          refine Do_pu (pu_isub (by omega) (by omega)) ?_
          refine ⟨m4 - 1, by omega, j + 1, v42, by simp; omega, by omega, (hx37.trans n41.ext).grown hg42 (fun g e => hlv37 g e), hlv37.append (hx37.trans n41.ext).size hbl42, ?_⟩
          rw [beTake_succ _ _ (by omega), ← List.append_assoc, List.map_append, show 8 * i + (j + 1) = 8 * i + j + 1 by omega]
          have e : (56 - 8 * (j : Int)).toNat = 56 - 8 * j := by omega
          rw [e] at ho42
          exact ho42
        · obtain rfl : j = 8 := by omega
          refine Do_pu (pu_iadd (by omega) (by omega)) ?_
          refine ⟨m3 - 1, by omega, i + 1, x7_1, by simp, by omega, hx37, hlv37, ?_⟩
          have e1 : ws2.take (i + 1) = ws2.take i ++ [ws2.getD i 0] := by rw [List.take_add_one]; simp [hl2, hi8]
          have e2 : beTake (ws2.getD i 0) 8 = be8 (ws2.getD i 0) := rfl
          rw [e2] at ho37
          rw [e1, show 8 * (i + 1) = 8 * i + 8 by omega]
          simpa using ho37
      · obtain rfl : i = 8 := by omega
        rw [List.take_of_length_le (by omega)] at ho34
        exact Ret.of ⟨ho34, hx30.trans hx34, fun g hg => by have := hlv34 g hg; have := hx30.size; omega⟩

theorem digest_of (b : List UInt8) : ((chunksS kS (chunksS kS v0S b).1 ((chunksS kS v0S b).2 ++ padS (chunksS kS v0S b).2.length (8 * (0 + UInt64.ofNat b.length)))).1.map be8).flatten = shaS b := by
  have h2 := (chunksS_prop kS _ v0S b (Nat.le_refl _) rfl).2.2
  have e : padS (chunksS kS v0S b).2.length (8 * (0 + UInt64.ofNat b.length)) = padS b.length (8 * UInt64.ofNat b.length) := by
    unfold padS zerosS; rw [h2]; simp
  rw [e, ← chunksS_append kS _ _ v0S b (Nat.le_refl _)]
  rfl

/-- sha.Sum: the digest of the parts, one behind the other. -/
theorem shaSum_c {w : World} {pv : Value} {parts : List (List UInt8)} {vs : List Value} (hk : Laid w) (hpv : Sees w pv parts.length vs) (hvl : vs.length = parts.length)
    (hps : ∀ (i : Nat) v p, vs[i]? = some v → parts[i]? = some p → Sees w v p.length (p.map u8)) (hlen : parts.flatten.length ≤ 35184372088832) :
    Calls Tryz.prog 63 #[pv] w (Ret fun v w' => Own w' 5 1 v 64 ((shaS parts.flatten).map u8) ∧ Ext w w' ∧ Late w v) := by
  refine vc_sha_Sum ?_
  unfold V_sha_Sum
  refine CallS_r (hashNew_c hk) fun x4 w1 hh => ?_
  obtain ⟨rfl, H1, hx1, hlt1⟩ := hh
  have hfar : ∀ g, HS w.heap.size (.slice none 0 0) g → w.heap.size ≤ g := fun g he => by
    rcases he with rfl | e
    · exact Nat.le_refl _
    · cases e
  have hwz : 2 < w.heap.size ∧ 0 < w.heap.size := by
    have h1 := World.block_lt_of_cell? w _ (hk.k 0 (by omega))
    have h2 := World.block_lt_of_cell? w _ (hk.v0 0 (by omega))
    exact ⟨h1, h2⟩
  have hap : ∀ (i : Nat) v p, vs[i]? = some v → parts[i]? = some p → Apart w1 w.heap.size (.slice none 0 0) v p := fun i v p hv hp => by
    have hs := hps i v p hv hp
    refine ⟨hs.ext hx1, fun hne g hg he => ?_⟩
    have h1 := hs.lt (fun e => hne (by simpa using e)) hg
    have h2 := hfar g he
    omega
  refine CallS_r (hashWrite_c H1 (by simp) (hk.ext hx1) (hpv.ext hx1) (fun hne g hg he => by have h1 := hpv.lt hne hg; have h2 := hfar g he; omega) hvl hap (by simpa using hlen)
    (fun he => by have := hfar _ he; omega) (fun he => by have := hfar _ he; omega)) fun _ w2 hh => ?_
  obtain ⟨_, hc2, lv2, H2, _⟩ := hh
  rw [List.nil_append] at H2
  have hx2 : Ext w w2 := hx1.chg hc2 hfar
  have hp := chunksS_prop kS _ v0S parts.flatten (Nat.le_refl _) rfl
  refine CallS_r (hashSum_c H2 hp.2.1 (hk.ext hx2)) fun v w3 hh => ?_
  obtain ⟨ho, hx3, hl3⟩ := hh
  rw [digest_of] at ho
  exact Ret.of ⟨ho, hx2.trans hx3, fun g hg => by have := hl3 g hg; have := hx2.size; omega⟩
end Go.Proofs.YtpdceilhgaladaaGreatDoor
