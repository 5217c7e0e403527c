/- What the reference's digest (package buttressref01) computes. -/
import Derived.Test.YtpdceilhgaladaaGreatDoorVRef01
import Derived.Test.YtpdceilhgaladaaGreatDoorHash
namespace Go.Proofs.YtpdceilhgaladaaGreatDoor
open Go.Vc Go.Vc.Sha Go.RowKit

theorem push8_add (x : UInt64) (c : UInt8) : shl x 8 + UInt64.ofNat c.toNat = push8 x c := by
  unfold push8 shl
  apply UInt64.toNat_inj.1
  have hc := u8_lt c
  have hx := u64_lt x
  have e : x.toNat * 2 ^ 8 % 2 ^ 64 = (x.toNat % 2 ^ 56) <<< 8 := by rw [Nat.shiftLeft_eq]; omega
  have hlt : (x.toNat % 2 ^ 56) <<< 8 ≤ 18446744073709551360 := by rw [Nat.shiftLeft_eq]; omega
  simp only [UInt64.toNat_add, UInt64.toNat_or, UInt64.toNat_ofNat']
  rw [e, Nat.mod_eq_of_lt (by omega : c.toNat < 2 ^ 64), ← Nat.shiftLeft_add_eq_or_of_lt (by omega : c.toNat < 2 ^ 8), Nat.mod_eq_of_lt (by omega)]

theorem rot_c (x : UInt64) {n : Nat} (hn : n ≤ 64) (w : World) : Calls Tryz.prog 151 #[u64 x, .int .u64 n] w (Ret fun v' w' => v' = u64 (rl x n) ∧ w' = w) := by
  refine vc_buttressref01_rot ?_
  unfold V_buttressref01_rot
  refine Do_pu (pu_ushr (by omega) (by omega)) ?_
  refine Do_of (run_sub _ _ _ _) ?_
  rw [show IntKind.u64.wrap (64 - (n : Int)) = ((64 - n : Nat) : Int) by rw [wrap_u64]; omega]
  refine Do_pu (pu_ushl (by omega) (by omega)) ?_
  refine Do_pu pu_uor ?_
  exact Ret.of ⟨by simp [rl, UInt64.or_comm], rfl⟩

/-- A word of a row of words. -/
theorem rd64 {w : World} {v : Value} {m : Nat} {l : List UInt64} (hv : Sees w v m (l.map u64)) (hl : l.length = m) {i : Nat} (hi : i < m) :
    ∃ a : Addr, Pu Tryz.prog (Instr.indexAt 145 v (i64 i)) (.pointer (some a)) ∧ ∀ z, Ext w z → z.cell? a = some (u64 (l.getD i 0)) := by
  obtain ⟨a, pa, ca⟩ := hv.indexAt (P := Tryz.prog) (s := 1) (k := .i64) Tryz.underlying145 (by kernel_rfl) hi
  refine ⟨a, pa, fun z hz => cell_ext hz ?_⟩
  have := ca 0 (u64 (l.getD i 0)) (by rw [Nat.mul_one, Nat.add_zero]; exact map_getD l i (by omega))
  simpa [add_zero_] using this
theorem rd8 {w : World} {v : Value} {m : Nat} {l : List UInt8} (hv : Sees w v m (l.map u8)) (hl : l.length = m) {i : Nat} (hi : i < m) :
    ∃ a : Addr, Pu Tryz.prog (Instr.indexAt 22 v (i64 i)) (.pointer (some a)) ∧ ∀ z, Ext w z → z.cell? a = some (u8 (l.getD i 0)) := by
  obtain ⟨a, pa, ca⟩ := hv.indexAt (P := Tryz.prog) (s := 1) (k := .i64) Tryz.underlying22 (by kernel_rfl) hi
  refine ⟨a, pa, fun z hz => cell_ext hz ?_⟩
  have := ca 0 (u8 (l.getD i 0)) (by rw [Nat.mul_one, Nat.add_zero]; simp [hl, hi])
  simpa [add_zero_] using this

theorem build8 {w : World} {K : Value → World → Prop} {Kp : List PanicEntry → World → Prop} {a b c d e f g h : UInt64}
    (hk : ∀ w', New w w' [u64 a, u64 b, u64 c, u64 d, u64 e, u64 f, u64 g, u64 h] 191 → K (.slice (some ⟨w.heap.size, 0, none⟩) 8 8) w') :
    Do Tryz.prog (Instr.buildSlice 145 8 #[(0, u64 a), (1, u64 b), (2, u64 c), (3, u64 d), (4, u64 e), (5, u64 f), (6, u64 g), (7, u64 h)]) w K Kp :=
  Do_buildSlice (cells := [u64 a, u64 b, u64 c, u64 d, u64 e, u64 f, u64 g, u64 h]) Tryz.underlying145 row64 (by decide) (by decide) (by kernel_rfl) hk

set_option maxRecDepth 20000 in
theorem turn_c {w : World} {v0 v1 v2 : Value} {h ks : List UInt64} {b : List UInt8} (h0 : Sees w v0 8 (h.map u64)) (hh : h.length = 8) (h1 : Sees w v1 80 (ks.map u64)) (hks : ks.length = 80) (h2 : Sees w v2 128 (b.map u8)) (hb : b.length = 128) :
    Calls Tryz.prog 119 #[v0, v1, v2] w (Ret fun v w' => Own w' 191 1 v 8 ((blockS ks h b).map u64) ∧ Ext w w' ∧ Late w v) := by
  refine vc_buttressref01_turn ?_
  unfold V_buttressref01_turn
  refine ⟨fun m xs w' => ∃ (t : Nat) (v : Value), xs = [v, i64 t] ∧ m + t = 80 ∧ Ext w w' ∧ Late w v ∧ Own w' 191 1 v t ((schedS b t).map u64), ⟨80, 0, .slice none 0 0, rfl, rfl, Ext.refl _, (fun g e => by cases e), Own.nil _ _ _⟩, ?_⟩
  rintro m1 x7 x8 j1 w1 ⟨t, v, hx, hm, hxt, hlv, ho⟩
  obtain ⟨rfl, rfl⟩ : x7 = v ∧ x8 = i64 t := by simpa using hx
  have push : ∀ (w2 : World) (y : UInt64) (K : Value → World → Prop) (Kp : List PanicEntry → World → Prop), t < 80 → Ext w1 w2 → y = nextS b (schedS b t) t →
      (∀ v' w3, Ext w w3 → Late w v' → Own w3 191 1 v' (t + 1) ((schedS b (t + 1)).map u64) → K v' w3) →
      Do Tryz.prog (Instr.buildSlice 145 1 #[(0, u64 y)]) w2 (fun x w3 => DoN Tryz.prog (builtin .append #[145, 145] 145 #[false, false] #[x7, x]) w3 K Kp) Kp := by
    intro w2 y K Kp ht hx2 hy hK
    refine Do_build1 Tryz.underlying145 row64 rfl fun w3 n3 => ?_
    refine DoN_append Tryz.underlying145 row64 rfl (by omega) ((ho.ext hx2).ext n3.ext) (Own.sees (Own.new (s := 1) (n := 1) n3 rfl (by simp only [maxLen]; omega))) rfl (by intro u hu; cases List.mem_singleton.1 hu; rfl) (by omega) (by omega) fun v' w4 ho4 hg4 hbl4 _ => ?_
    refine hK v' w4 (((hxt.trans hx2).trans n3.ext).grown hg4 (fun g e => hlv g e)) (hlv.append ((hxt.trans hx2).trans n3.ext).size hbl4) ?_
    rw [schedS, List.map_append, ← hy]
    exact ho4
  refine Do_pu pu_lss (CondV_if (fun ht => ?_) fun ht => ?_)
  · refine Do_pu pu_lss (CondV_if (fun ht16 => ?_) fun ht16 => ?_)
    · refine ⟨fun m xs w' => ∃ i : Nat, xs = [u64 (((((b.drop (8 * t)).take 8).take i)).foldl push8 0), i64 i] ∧ m + i = 8 ∧ w' = w1, ⟨8, 0, rfl, rfl, rfl⟩, ?_⟩
      rintro m2 x9 x10 j2 w4 ⟨i, hx2, hm2, rfl⟩
      obtain ⟨rfl, rfl⟩ : x9 = u64 (((((b.drop (8 * t)).take 8).take i)).foldl push8 0) ∧ x10 = i64 i := by simpa using hx2
      refine Do_pu pu_lss (CondV_if (fun hi => ?_) fun hi => ?_)
      · refine Do_pu (pu_ushl (by omega) (by omega)) ?_
        refine Do_pu (pu_imul (by omega) (by omega)) ?_
        refine Do_pu (pu_iadd (by omega) (by omega)) ?_
        rw [show (8 * (t : Int) + (i : Int)) = ((8 * t + i : Nat) : Int) by omega]
        obtain ⟨a, pa, ca⟩ := rd8 h2 hb (i := 8 * t + i) (by omega)
        refine Do_pu pa ?_
        refine Do_load Tryz.underlying5 rfl (ca _ hxt) ?_
        refine Do_pu (pu_u8u64 Tryz.underlying5 Tryz.underlying191) ?_
        refine Do_pu pu_uadd ?_
        refine Do_pu (pu_iadd (by omega) (by omega)) ?_
        refine ⟨m2 - 1, by omega, i + 1, ?_, by omega, rfl⟩
        have e1 : ((b.drop (8 * t)).take 8).take (i + 1) = ((b.drop (8 * t)).take 8).take i ++ [b.getD (8 * t + i) 0] := by
          rw [List.take_add_one, List.getElem?_take, if_pos (by omega), List.getElem?_drop, List.getElem?_eq_getElem (by omega)]
          simp [hb, show 8 * t + i < 128 by omega]
        rw [e1, List.foldl_append]
        simp only [List.foldl_cons, List.foldl_nil, ← push8_add]
        rfl
      · obtain rfl : i = 8 := by omega
        refine push _ _ _ _ (by omega) (Ext.refl _) ?_ fun v' w3 hx3 hl3 ho3 => ?_
        · rw [nextS, if_pos (by omega), List.take_of_length_le (by simp; omega)]; rfl
        · refine Do_pu (pu_iadd (by omega) (by omega)) ?_
          exact ⟨m1 - 1, by omega, t + 1, v', by simp, by omega, hx3, hl3, ho3⟩
    · have e2 : (i64 ((t : Int) - 2)) = i64 ((t - 2 : Nat) : Int) := by congr 1; omega
      have e7 : (i64 ((t : Int) - 7)) = i64 ((t - 7 : Nat) : Int) := by congr 1; omega
      have e15 : (i64 ((t : Int) - 15)) = i64 ((t - 15 : Nat) : Int) := by congr 1; omega
      have e16 : (i64 ((t : Int) - 16)) = i64 ((t - 16 : Nat) : Int) := by congr 1; omega
      have hy : nextS b (schedS b t) t = smallS ((schedS b t).getD (t - 2) 0) 19 61 6 + (schedS b t).getD (t - 7) 0 + smallS ((schedS b t).getD (t - 15) 0) 1 8 7 + (schedS b t).getD (t - 16) 0 := by rw [nextS, if_neg (by omega)]
      obtain ⟨a2, p2, c2⟩ := rd64 ho.sees (schedS_length b t) (i := t - 2) (by omega)
      obtain ⟨a7, p7, c7⟩ := rd64 ho.sees (schedS_length b t) (i := t - 7) (by omega)
      obtain ⟨a15, p15, c15⟩ := rd64 ho.sees (schedS_length b t) (i := t - 15) (by omega)
      obtain ⟨a16, p16, c16⟩ := rd64 ho.sees (schedS_length b t) (i := t - 16) (by omega)
      generalize (schedS b t).getD (t - 2) 0 = y2 at c2 hy
      generalize (schedS b t).getD (t - 7) 0 = y7 at c7 hy
      generalize (schedS b t).getD (t - 15) 0 = y15 at c15 hy
      generalize (schedS b t).getD (t - 16) 0 = y16 at c16 hy
      refine ⟨Ext, fun _ _ _ => True, Pre.ext, fun _ _ _ _ _ _ => trivial, ?_⟩
      refine PureQ_pu (pu_isub (by omega) (by omega)) ?_
      rw [e2]
      refine PureQ_pu p2 ?_
      refine PureQ_load Tryz.underlying191 rfl (fun z hz => c2 z ((Ext.drew _).trans hz.1)) ?_
      refine PureQ_pu (pu_isub (by omega) (by omega)) ?_
      rw [e15]
      refine PureQ_pu p15 ?_
      refine PureQ_load Tryz.underlying191 rfl (fun z hz => c15 z ((Ext.drew _).trans hz.1)) fun w17 hx17 _ => ?_
      have hx17' : Ext w1 w17.drew := ((Ext.drew _).trans hx17).trans (Ext.drew _)
      refine ⟨Ext, fun i v _ => (i = 1 → v = u64 (rl y2 19)) ∧ (i = 3 → v = u64 (rl y2 61)) ∧ (i = 15 → v = u64 (rl y15 1)) ∧ (i = 17 → v = u64 (rl y15 8)), Pre.ext, fun _ _ _ _ _ h => h, ?_⟩
      refine ⟨fun w18 hx18 _ => CallS_v (rot_c y2 (n := 19) (by omega) w18) ⟨Ext.refl _, fun _ => rfl, by omega, by omega, by omega⟩, fun x52 => ?_⟩
      refine ⟨fun w18 hx18 _ => CallS_v (rot_c y2 (n := 61) (by omega) w18) ⟨Ext.refl _, by omega, fun _ => rfl, by omega, by omega⟩, fun x54 => ?_⟩
      refine PureQ_at (v := u64 (rl y2 19 ^^^ rl y2 61)) (fun z hz => by rw [hz.2.1.2.1 rfl, hz.2.2.1.1 rfl]; exact pu_uxor z) ?_
      refine PureQ_pu (pu_ushr (by omega) (by omega)) ?_
      refine PureQ_pu pu_uxor ?_
      refine PureQ_pu (pu_isub (by omega) (by omega)) ?_
      rw [e7]
      refine PureQ_pu p7 ?_
      refine PureQ_load Tryz.underlying191 rfl (fun z hz => c7 z (hx17'.trans hz.1)) ?_
      refine PureQ_pu pu_uadd ?_
      refine ⟨fun w18 hx18 _ => CallS_v (rot_c y15 (n := 1) (by omega) w18) ⟨Ext.refl _, by omega, by omega, fun _ => rfl, by omega⟩, fun x66 => ?_⟩
      refine ⟨fun w18 hx18 _ => CallS_v (rot_c y15 (n := 8) (by omega) w18) ⟨Ext.refl _, by omega, by omega, by omega, fun _ => rfl⟩, fun x68 => ?_⟩
      refine PureQ_at (v := u64 (rl y15 1 ^^^ rl y15 8)) (fun z hz => by rw [hz.2.1.2.2.2 rfl, hz.2.2.1.2.2.1 rfl]; exact pu_uxor z) ?_
      refine PureQ_pu (pu_ushr (by omega) (by omega)) ?_
      refine PureQ_pu pu_uxor ?_
      refine PureQ_pu pu_uadd ?_
      refine PureQ_pu (pu_isub (by omega) (by omega)) ?_
      rw [e16]
      refine PureQ_pu p16 ?_
      refine PureQ_load Tryz.underlying191 rfl (fun z hz => c16 z (hx17'.trans hz.1)) fun w26 hx26 _ => ?_
      refine Do_pu pu_uadd ?_
      refine push _ _ _ _ (by omega) (hx17'.trans hx26) ?_ fun v' w3 hx3 hl3 ho3 => ?_
      · rw [hy]; rfl
      · refine Do_pu (pu_iadd (by omega) (by omega)) ?_
        exact ⟨m1 - 1, by omega, t + 1, v', by simp, by omega, hx3, hl3, ho3⟩
  · obtain rfl : t = 80 := by omega
    clear push
    refine Do_build0 Tryz.underlying145 row64 fun w31 n31 => ?_
    refine DoN_append Tryz.underlying145 row64 rfl (by omega) (Own.new n31 (n := 0) rfl (by simp only [maxLen]; omega)) ((h0.ext hxt).ext n31.ext) (by simp [hh]) (one_u64 h) (by omega) (by omega) fun v' w32 ho32 hg32 hbl32 _ => ?_
    have hx32 : Ext w1 w32 := n31.ext.grown hg32 (fun g e => by cases e; exact Nat.le_refl _)
    have hl32 : Late w1 v' := Late.append (v := .slice (some ⟨w1.heap.size, 0, none⟩) 0 0) (fun g e => by cases e; exact Nat.le_refl _) n31.ext.size hbl32
    refine ⟨fun m xs w' => ∃ (t : Nat) (v : Value), xs = [v, i64 t] ∧ m + t = 80 ∧ Ext w1 w' ∧ Late w1 v ∧ Own w' 191 1 v 8 ((roundsS ks b h t).map u64), ⟨80, 0, v', rfl, rfl, hx32, hl32, by simpa [roundsS] using ho32⟩, ?_⟩
    rintro m5 x13 x14 j5 w33 ⟨t, v, hx5, hm5, hx33, hl33, ho33⟩
    obtain ⟨rfl, rfl⟩ : x13 = v ∧ x14 = i64 t := by simpa using hx5
    have hr8 := roundsS_length ks b h hh t
    refine Do_pu pu_lss (CondV_if (fun ht => ?_) fun ht => ?_)
    · have htn : t < 80 := by omega
      have hstep : roundsS ks b h (t + 1) = stepS (ks.getD t 0) ((schedS b 80).getD t 0) (roundsS ks b h t) := rfl
      obtain ⟨pk, qk, ck⟩ := rd64 h1 hks (i := t) htn
      obtain ⟨pm, qm, cm⟩ := rd64 ho.sees (schedS_length b 80) (i := t) htn
      generalize roundsS ks b h t = v at ho33 hr8 hstep
      generalize ks.getD t 0 = kk at ck hstep
      generalize (schedS b 80).getD t 0 = mm at cm hstep
      have hxx : Ext w w33 := hxt.trans hx33
      obtain ⟨p0, q0, c0⟩ := rd64 ho33.sees hr8 (i := 0) (by omega)
      obtain ⟨p1, q1, c1⟩ := rd64 ho33.sees hr8 (i := 1) (by omega)
      obtain ⟨p2, q2, c2⟩ := rd64 ho33.sees hr8 (i := 2) (by omega)
      obtain ⟨p3, q3, c3⟩ := rd64 ho33.sees hr8 (i := 3) (by omega)
      obtain ⟨p4, q4, c4⟩ := rd64 ho33.sees hr8 (i := 4) (by omega)
      obtain ⟨p5, q5, c5⟩ := rd64 ho33.sees hr8 (i := 5) (by omega)
      obtain ⟨p6, q6, c6⟩ := rd64 ho33.sees hr8 (i := 6) (by omega)
      obtain ⟨p7, q7, c7⟩ := rd64 ho33.sees hr8 (i := 7) (by omega)
      obtain ⟨a, b', c, d, e, f, g, i, rfl⟩ := list8 hr8
      have hstep' : roundsS ks b h (t + 1) = [i + mixS e 14 18 41 + (e &&& f ^^^ ~~~e &&& g) + kk + mm + (mixS a 28 34 39 + (a &&& b' ^^^ a &&& c ^^^ b' &&& c)), a, b', c, d + (i + mixS e 14 18 41 + (e &&& f ^^^ ~~~e &&& g) + kk + mm), e, f, g] := by
        rw [hstep]; simp [stepS, oneS, twoS]
      simp only [mixS] at hstep'
      clear hstep
      refine ⟨Ext, fun _ _ _ => True, Pre.ext, fun _ _ _ _ _ _ => trivial, ?_⟩
      refine PureQ_pu q0 ?_
      refine PureQ_load Tryz.underlying191 rfl (fun z hz => c0 z ((Ext.drew _).trans hz.1)) ?_
      refine PureQ_pu q4 ?_
      refine PureQ_load Tryz.underlying191 rfl (fun z hz => c4 z ((Ext.drew _).trans hz.1)) fun w35 hx35 _ => ?_
      have hx35' : Ext w33 w35.drew := ((Ext.drew _).trans hx35).trans (Ext.drew _)
      refine ⟨Ext, fun j v _ => (j = 4 → v = u64 (rl e 14)) ∧ (j = 6 → v = u64 (rl e 18)) ∧ (j = 9 → v = u64 (rl e 41)), Pre.ext, fun _ _ _ _ _ h => h, ?_⟩
      refine PureQ_pu q7 ?_
      refine PureQ_load Tryz.underlying191 rfl (fun z hz => c7 z (hx35'.trans hz.1)) ⟨fun w36 hx36 _ => CallS_v (rot_c e (n := 14) (by omega) w36) ⟨Ext.refl _, fun _ => rfl, by omega, by omega⟩, fun x101 => ⟨fun w36 hx36 _ => CallS_v (rot_c e (n := 18) (by omega) w36) ⟨Ext.refl _, by omega, fun _ => rfl, by omega⟩, fun x103 => ?_⟩⟩
      refine PureQ_at (v := u64 (rl e 14 ^^^ rl e 18)) (fun z hz => by rw [hz.2.1.2.1 rfl, hz.2.2.1.1 rfl]; exact pu_uxor z) ⟨fun w36 hx36 _ => CallS_v (rot_c e (n := 41) (by omega) w36) ⟨Ext.refl _, by omega, by omega, fun _ => rfl⟩, fun x106 => ?_⟩
      refine PureQ_at (v := u64 (rl e 14 ^^^ rl e 18 ^^^ rl e 41)) (fun z hz => by rw [hz.2.1.2.2 rfl]; exact pu_uxor z) ?_
      refine PureQ_pu pu_uadd ?_
      refine PureQ_pu q5 ?_
      refine PureQ_load Tryz.underlying191 rfl (fun z hz => c5 z (hx35'.trans hz.1)) ?_
      refine PureQ_pu pu_uand ?_
      refine PureQ_pu pu_unot ?_
      refine PureQ_pu q6 ?_
      refine PureQ_load Tryz.underlying191 rfl (fun z hz => c6 z (hx35'.trans hz.1)) ?_
      refine PureQ_pu pu_uand ?_
      refine PureQ_pu pu_uxor ?_
      refine PureQ_pu pu_uadd ?_
      refine PureQ_pu qk ?_
      refine PureQ_load Tryz.underlying191 rfl (fun z hz => ck z ((hxx.trans hx35').trans hz.1)) ?_
      refine PureQ_pu pu_uadd ?_
      refine PureQ_pu qm ?_
      refine PureQ_load Tryz.underlying191 rfl (fun z hz => cm z ((hx33.trans hx35').trans hz.1)) fun w42 hx42 _ => ?_
      refine Do_pu pu_uadd ?_
      have hx42' : Ext w33 w42.drew := (hx35'.trans hx42).trans (Ext.drew _)
      refine ⟨Ext, fun j v _ => (j = 1 → v = u64 (rl a 28)) ∧ (j = 3 → v = u64 (rl a 34)) ∧ (j = 6 → v = u64 (rl a 39)), Pre.ext, fun _ _ _ _ _ h => h, ?_⟩
      refine ⟨fun w36 hx36 _ => CallS_v (rot_c a (n := 28) (by omega) w36) ⟨Ext.refl _, fun _ => rfl, by omega, by omega⟩, fun x133 => ⟨fun w36 hx36 _ => CallS_v (rot_c a (n := 34) (by omega) w36) ⟨Ext.refl _, by omega, fun _ => rfl, by omega⟩, fun x135 => ?_⟩⟩
      refine PureQ_at (v := u64 (rl a 28 ^^^ rl a 34)) (fun z hz => by rw [hz.2.1.2.1 rfl, hz.2.2.1.1 rfl]; exact pu_uxor z) ⟨fun w36 hx36 _ => CallS_v (rot_c a (n := 39) (by omega) w36) ⟨Ext.refl _, by omega, by omega, fun _ => rfl⟩, fun x138 => ?_⟩
      refine PureQ_at (v := u64 (rl a 28 ^^^ rl a 34 ^^^ rl a 39)) (fun z hz => by rw [hz.2.1.2.2 rfl]; exact pu_uxor z) ?_
      refine PureQ_pu q1 ?_
      refine PureQ_load Tryz.underlying191 rfl (fun z hz => c1 z (hx42'.trans hz.1)) ?_
      refine PureQ_pu pu_uand ?_
      refine PureQ_pu q2 ?_
      refine PureQ_load Tryz.underlying191 rfl (fun z hz => c2 z (hx42'.trans hz.1)) ?_
      refine PureQ_pu pu_uand ?_
      refine PureQ_pu pu_uxor ?_
      refine PureQ_pu q1 ?_
      refine PureQ_load Tryz.underlying191 rfl (fun z hz => c1 z (hx42'.trans hz.1)) ?_
      refine PureQ_pu q2 ?_
      refine PureQ_load Tryz.underlying191 rfl (fun z hz => c2 z (hx42'.trans hz.1)) ?_
      refine PureQ_pu pu_uand ?_
      refine PureQ_pu pu_uxor fun w50 hx50 _ => ?_
      refine Do_pu pu_uadd ?_
      have hx50' : Ext w33 w50.drew := (hx42'.trans hx50).trans (Ext.drew _)
      refine ⟨Ext, fun _ _ _ => True, Pre.ext, fun _ _ _ _ _ _ => trivial, ?_⟩
      refine PureQ_pu pu_uadd ?_
      refine PureQ_pu q0 ?_
      refine PureQ_load Tryz.underlying191 rfl (fun z hz => c0 z (hx50'.trans hz.1)) ?_
      refine PureQ_pu q1 ?_
      refine PureQ_load Tryz.underlying191 rfl (fun z hz => c1 z (hx50'.trans hz.1)) ?_
      refine PureQ_pu q2 ?_
      refine PureQ_load Tryz.underlying191 rfl (fun z hz => c2 z (hx50'.trans hz.1)) ?_
      refine PureQ_pu q3 ?_
      refine PureQ_load Tryz.underlying191 rfl (fun z hz => c3 z (hx50'.trans hz.1)) ?_
      refine PureQ_pu pu_uadd ?_
      refine PureQ_pu q4 ?_
      refine PureQ_load Tryz.underlying191 rfl (fun z hz => c4 z (hx50'.trans hz.1)) ?_
      refine PureQ_pu q5 ?_
      refine PureQ_load Tryz.underlying191 rfl (fun z hz => c5 z (hx50'.trans hz.1)) ?_
      refine PureQ_pu q6 ?_
      refine PureQ_load Tryz.underlying191 rfl (fun z hz => c6 z (hx50'.trans hz.1)) fun w52 hx52 _ => ?_
      have hx52' : Ext w33 w52 := hx50'.trans hx52
      refine build8 fun w53 n53 => ?_
      refine Do_pu (pu_iadd (by omega) (by omega)) ?_
      refine ⟨m5 - 1, by omega, t + 1, .slice (some ⟨w52.heap.size, 0, none⟩) 8 8, by simp, by omega, (hx33.trans hx52').trans n53.ext, (fun g e => by cases e; exact (hx33.trans hx52').size), ?_⟩
      rw [hstep']
      exact Own.new n53 rfl (by simp only [maxLen]; omega)
    · obtain rfl : t = 80 := by omega
      have hB : blockS ks h b = h.zipWith (· + ·) (roundsS ks b h 80) := rfl
      generalize roundsS ks b h 80 = r at ho33 hr8 hB
      have hzl : (h.zipWith (· + ·) r).length = 8 := by simp [hh, hr8]
      refine ⟨fun m xs w' => ∃ t : Nat, xs = [i64 t] ∧ m + t = 8 ∧ Ext w1 w' ∧ Own w' 191 1 x13 8 (((h.zipWith (· + ·) r).take t).map u64 ++ (r.drop t).map u64), ⟨8, 0, rfl, rfl, hx33, by simpa using ho33⟩, ?_⟩
      rintro m10 x19 j10 w53 ⟨t, hx10, hm10, hx53, ho53⟩
      obtain rfl : x19 = i64 t := by simpa using hx10
      have e3 : (List.map u64 (List.take t (List.zipWith (· + ·) h r))).length = t := by simp [hh, hr8]; omega
      refine Do_pu pu_lss (CondV_if (fun ht => ?_) fun ht => ?_)
      · have htn : t < 8 := by omega
        obtain ⟨gx, cap, cur, hxe, _, hgg, hnc, hcm, hcs, htake⟩ : ∃ g cap cur, x13 = .slice (some ⟨g, 0, none⟩) 8 cap ∧ 0 ≤ g ∧ w53.heap[g]? = some (.cells cur 191 (0, 0)) ∧ 8 ≤ cap ∧ cap ≤ maxLen ∧ cur.size = cap * 1 ∧ cur.toList.take (8 * 1) = ((h.zipWith (· + ·) r).take t).map u64 ++ (r.drop t).map u64 := by
          rcases ho53.2 with ⟨_, hz⟩ | hh
          · omega
          · exact hh
        subst hxe
        have hblk : Blk w53 gx cur.toList 191 := hgg
        have hcell : ∀ z, Ext w53 z → z.cell? ⟨gx, t, none⟩ = some (u64 (r.getD t 0)) := fun z hz => by
          rw [(hblk.ext hz).cell]
          have : (cur.toList.take (8 * 1))[t]? = some (u64 (r.getD t 0)) := by
            rw [htake, List.getElem?_append_right (by rw [e3]; omega), e3, Nat.sub_self]
            simp [hr8, htn]
          rw [List.getElem?_take, if_pos (by omega)] at this
          exact this
        obtain ⟨ah, ph, ch⟩ := rd64 h0 hh (i := t) htn
        have px : Pu Tryz.prog (Instr.indexAt 145 (.slice (some ⟨gx, 0, none⟩) 8 cap) (i64 t)) (.pointer (some ⟨gx, t, none⟩)) := fun w => by
          have := run_indexSl (P := Tryz.prog) (k := .i64) (c := cap) (s := 1) Tryz.underlying145 (by kernel_rfl) ⟨gx, 0, none⟩ (by omega : (0 : Int) ≤ (t : Int)) (by omega : (t : Int) < (8 : Nat)) w
          rw [this]; simp [add_off]
        refine ⟨Ext, fun _ _ _ => True, Pre.ext, fun _ _ _ _ _ _ => trivial, ?_⟩
        refine PureQ_pu px ?_
        refine PureQ_load Tryz.underlying191 rfl (fun z hz => hcell z ((Ext.drew _).trans hz.1)) ?_
        refine PureQ_pu ph ?_
        refine PureQ_load Tryz.underlying191 rfl (fun z hz => ch z (((hxt.trans hx53).trans (Ext.drew _)).trans hz.1)) ?_
        refine PureQ_pu pu_uadd fun w57 hx57 _ => ?_
        have hx57' : Ext w53 w57 := (Ext.drew _).trans hx57
        refine Do_pu px ?_
        refine DoU_store (by kernel_rfl) (hblk.ext hx57') (by rw [Array.length_toList]; omega) rfl fun w59 hb59 hg59 => ?_
        refine Do_pu (pu_iadd (by omega) (by omega)) ?_
        refine ⟨m10 - 1, by omega, t + 1, by simp, by omega, (hx53.trans hx57').grown hg59 (fun k e => hl33 k (by cases e; rfl)), ?_⟩
        have e1 : (h.zipWith (· + ·) r).take (t + 1) = (h.zipWith (· + ·) r).take t ++ [r.getD t 0 + h.getD t 0] := by
          rw [List.take_add_one]; simp [hh, hr8, htn, UInt64.add_comm]
        have e2 : r.drop t = r.getD t 0 :: r.drop (t + 1) := by
          rw [List.drop_eq_getElem_cons (by omega)]; simp [hr8, htn]
        refine ⟨by simp [hh, hr8]; omega, .inr ⟨gx, cap, _, rfl, Nat.zero_le _, hb59, hnc, hcm, by simpa using hcs, ?_⟩⟩
        rw [List.take_set, htake, e2, e1, List.set_append_right _ _ (by rw [e3]; omega), e3, Nat.sub_self]
        simp
      · obtain rfl : t = 8 := by omega
        rw [List.take_of_length_le (by omega), List.drop_eq_nil_of_le (by omega)] at ho53
        refine Ret.of ⟨?_, hxt.trans hx53, fun g hg => by have := hl33 g hg; have := hxt.size; omega⟩
        rw [hB]; simpa using ho53

/-- One byte more on a row of bytes. -/
theorem push8_c {w0 w : World} {v : Value} {n : Nat} {l : List UInt8} {y : UInt8} {K : Value → World → Prop} {Kp : List PanicEntry → World → Prop} (ho : Own w 5 1 v n (l.map u8)) (hx : Ext w0 w) (hl : Late w0 v) (hn : n ≤ 70368744177664)
    (hK : ∀ v' w', Ext w0 w' → Late w0 v' → Own w' 5 1 v' (n + 1) ((l ++ [y]).map u8) → K v' w') :
    Do Tryz.prog (Instr.buildSlice 22 1 #[(0, u8 y)]) w (fun x w3 => DoN Tryz.prog (builtin .append #[22, 22] 22 #[false, false] #[v, x]) w3 K Kp) Kp := by
  refine Do_build1 Tryz.underlying22 row8 rfl fun w3 n3 => ?_
  refine DoN_append Tryz.underlying22 row8 rfl (by omega) (ho.ext n3.ext) (Own.sees (Own.new (s := 1) (n := 1) n3 rfl (by simp only [maxLen]; omega))) rfl (by intro u hu; cases List.mem_singleton.1 hu; rfl) (by omega) (by omega) fun v' w4 ho4 hg4 hbl4 _ => ?_
  refine hK v' w4 ((hx.trans n3.ext).grown hg4 (fun g e => hl g e)) (hl.append (hx.trans n3.ext).size hbl4) ?_
  rw [List.map_append]
  exact ho4

set_option maxRecDepth 20000 in
theorem whole_c {w : World} {v0 : Value} {b : List UInt8} (h0 : Sees w v0 b.length (b.map u8)) (hb : b.length ≤ 35184372088832) :
    Calls Tryz.prog 118 #[v0] w (Ret fun v w' => Own w' 5 1 v (b ++ padS b.length (8 * UInt64.ofNat b.length)).length ((b ++ padS b.length (8 * UInt64.ofNat b.length)).map u8) ∧ Ext w w' ∧ Late w v) := by
  refine vc_buttressref01_Whole ?_
  unfold V_buttressref01_Whole
  refine Do_build0 Tryz.underlying22 row8 fun w1 n1 => ?_
  refine DoN_append Tryz.underlying22 row8 rfl (by omega) (Own.new n1 (n := 0) rfl (by simp only [maxLen]; omega)) (h0.ext n1.ext) (by simp) (one_u8 b) (by omega) (by omega) fun v2 w2 ho2 hg2 hbl2 _ => ?_
  have hx2 : Ext w w2 := n1.ext.grown hg2 (fun g e => by cases e; exact Nat.le_refl _)
  have hl2 : Late w v2 := Late.append (v := .slice (some ⟨w.heap.size, 0, none⟩) 0 0) (fun g e => by cases e; exact Nat.le_refl _) n1.ext.size hbl2
  have ho2' : Own w2 5 1 v2 b.length (b.map u8) := by simpa using ho2
  refine push8_c (y := 128) ho2' hx2 hl2 (by omega) fun v4 w4 hx4 hl4 ho4 => ?_
  have hz := zerosS_lt b.length
  have hzm : (b.length + 1 + zerosS b.length) % 128 = 112 := by unfold zerosS; omega
  refine ⟨fun m xs w' => ∃ (k : Nat) (v : Value), xs = [v] ∧ m + k = zerosS b.length ∧ Ext w w' ∧ Late w v ∧ Own w' 5 1 v (b.length + 1 + k) ((b ++ 128 :: List.replicate k 0).map u8), ⟨zerosS b.length, 0, v4, rfl, rfl, hx4, hl4, ho4⟩, ?_⟩
  rintro m1 x3 j1 w5 ⟨k, v, hx3, hm1, hx5, hl5, ho5⟩
  obtain rfl : x3 = v := by simpa using hx3
  refine DoN_pu (pu_len Tryz.underlying22 ho5.sees) ?_
  refine Do_pu (pu_irem (by omega) (by omega)) ?_
  refine Do_pu pu_neq (CondV_b (fun hc => ?_) fun hc => ?_)
  · have hc' : ¬ (((b.length + 1 + k : Nat) : Int) % 128 = 112) := by simpa using hc
    have hkz : k < zerosS b.length := by
      rcases Nat.lt_or_ge k (zerosS b.length) with h | h
      · exact h
      · exfalso; apply hc'; have : k = zerosS b.length := by omega
        subst this; omega
    refine push8_c (y := 0) ho5 hx5 hl5 (by omega) fun v6 w6 hx6 hl6 ho6 => ?_
    refine ⟨m1 - 1, by omega, k + 1, v6, rfl, by omega, hx6, hl6, ?_⟩
    have e : b ++ 128 :: List.replicate (k + 1) (0 : UInt8) = (b ++ 128 :: List.replicate k (0 : UInt8)) ++ [0] := by simp [List.replicate_succ']
    rw [e]; exact ho6
  · have hc' : ((b.length + 1 + k : Nat) : Int) % 128 = 112 := by simpa using hc
    obtain rfl : k = zerosS b.length := by omega
    refine DoN_pu (pu_len Tryz.underlying22 h0) ?_
    refine Do_pu (pu_i64u64 Tryz.underlying3 Tryz.underlying191) ?_
    refine Do_pu (pu_umul8 _) ?_
    generalize hN : 8 * UInt64.ofNat b.length = N
    refine ⟨fun m xs w' => ∃ (j : Nat) (v : Value), xs = [v, i64 (15 - (j : Int))] ∧ m + j = 16 ∧ Ext w w' ∧ Late w v ∧ Own w' 5 1 v (b.length + 1 + zerosS b.length + j) ((b ++ 128 :: (List.replicate (zerosS b.length + min j 8) 0 ++ beTake N (j - 8))).map u8), ⟨16, 0, x3, rfl, rfl, hx5, hl5, by simpa [beTake] using ho5⟩, ?_⟩
    rintro m2 x3_1 x5 j2 w14 ⟨j, v, hx, hm2, hx14, hl14, ho14⟩
    obtain ⟨rfl, rfl⟩ : x3_1 = v ∧ x5 = i64 (15 - (j : Int)) := by simpa using hx
    refine Do_pu pu_geq (CondV_if (fun hj => ?_) fun hj => ?_)
    · refine Do_pu pu_lss (CondV_if (fun hj8 => ?_) fun hj8 => ?_)
      · refine Do_pu (pu_imul (by omega) (by omega)) ?_
        refine Do_pu (pu_conv Tryz.underlying3 Tryz.underlying107) ?_
        rw [show IntKind.u64.wrap (8 * (15 - (j : Int))) = ((56 - 8 * (j - 8) : Nat) : Int) by rw [wrap_u64]; omega]
        refine Do_pu (pu_ushr (by omega) (by omega)) ?_
        refine Do_pu (pu_u64u8 Tryz.underlying191 Tryz.underlying5) ?_
        refine push8_c ho14 hx14 hl14 (by omega) fun v6 w6 hx6 hl6 ho6 => ?_
        refine Do_pu (pu_isub (by omega) (by omega)) ?_
        refine ⟨m2 - 1, by omega, j + 1, v6, by simp; omega, by omega, hx6, hl6, ?_⟩
        rw [show min (j + 1) 8 = min j 8 by omega, show j + 1 - 8 = (j - 8) + 1 by omega, beTake_succ _ _ (by omega)]
        show Own _ _ _ _ (b.length + 1 + zerosS b.length + j + 1) _
        simpa [byteS] using ho6
      · refine push8_c (y := 0) ho14 hx14 hl14 (by omega) fun v6 w6 hx6 hl6 ho6 => ?_
        refine Do_pu (pu_isub (by omega) (by omega)) ?_
        refine ⟨m2 - 1, by omega, j + 1, v6, by simp; omega, by omega, hx6, hl6, ?_⟩
        rw [show min j 8 = j by omega, show j - 8 = 0 by omega] at ho6
        have er : List.replicate (zerosS b.length + (j + 1)) (0 : UInt8) = List.replicate (zerosS b.length + j) 0 ++ [0] := by rw [← Nat.add_assoc, List.replicate_succ']
        rw [show min (j + 1) 8 = j + 1 by omega, show j + 1 - 8 = 0 by omega, er]
        show Own _ _ _ _ (b.length + 1 + zerosS b.length + j + 1) _
        simpa [beTake] using ho6
    · obtain rfl : j = 16 := by omega
      have e : b ++ 128 :: (List.replicate (zerosS b.length + min 16 8) 0 ++ beTake N (16 - 8)) = b ++ padS b.length N := rfl
      have hlen : (b ++ padS b.length N).length = b.length + 1 + zerosS b.length + 16 := by simp [padS, be8]; omega
      rw [e, ← hlen] at ho14
      exact Ret.of ⟨ho14, hx14, hl14⟩

/-- The eight words' bytes. -/
theorem chunksS_blocks (ks : List UInt64) (v : List UInt64) (b : List UInt8) (i : Nat) (h : (b.take (128 * i)).length = 128 * i) : (chunksS ks v (b.take (128 * i))).2 = [] := by
  have h1 : ∀ (n : Nat) (v : List UInt64) (c : List UInt8), c.length ≤ n → c.length % 128 = 0 → (chunksS ks v c).2 = [] := by
    intro n
    induction n with
    | zero => intro v c hc _; rw [chunksS_lt ks v c (by omega)]; exact List.eq_nil_of_length_eq_zero (Nat.le_zero.1 hc)
    | succ n ih =>
      intro v c hc hm
      by_cases hlt : c.length < 128
      · have h0 : c.length = 0 := by omega
        rw [chunksS_lt ks v c hlt]; exact List.eq_nil_of_length_eq_zero h0
      · rw [chunksS_ge ks v c (by omega)]; exact ih _ _ (by simp; omega) (by simp; omega)
  exact h1 _ v _ (Nat.le_refl _) (by rw [h]; omega)

set_option maxRecDepth 20000 in
theorem sumBy_c {w : World} {v0 v1 v2 : Value} {h ks : List UInt64} {b : List UInt8} (h0 : Sees w v0 8 (h.map u64)) (hh : h.length = 8) (h1 : Sees w v1 80 (ks.map u64)) (hks : ks.length = 80) (h2 : Sees w v2 b.length (b.map u8)) (hb : b.length ≤ 35184372088832) :
    Calls Tryz.prog 82 #[v0, v1, v2] w (Ret fun v w' => Own w' 5 1 v 64 ((digestS ks h b).map u8) ∧ Ext w w' ∧ Late w v) := by
  refine vc_buttressref01_SumBy ?_
  unfold V_buttressref01_SumBy
  refine Do_build0 Tryz.underlying145 row64 fun w1 n1 => ?_
  refine DoN_append Tryz.underlying145 row64 rfl (by omega) (Own.new n1 (n := 0) rfl (by simp only [maxLen]; omega)) (h0.ext n1.ext) (by simp [hh]) (one_u64 h) (by omega) (by omega) fun v' w2 ho2 hg2 hbl2 _ => ?_
  have hx2 : Ext w w2 := n1.ext.grown hg2 (fun g e => by cases e; exact Nat.le_refl _)
  have ho2' : Own w2 191 1 v' 8 (h.map u64) := by simpa using ho2
  refine CallS_r (whole_c (h2.ext hx2) hb) fun v3 w3 hq => ?_
  obtain ⟨ho3, hx3, _⟩ := hq
  have hpm := padS_length b.length (8 * UInt64.ofNat b.length)
  have hlW : (b ++ padS b.length (8 * UInt64.ofNat b.length)).length % 128 = 0 := by rw [List.length_append]; exact hpm
  have hlb : (b ++ padS b.length (8 * UInt64.ofNat b.length)).length ≤ 35184372088832 + 256 := by have := zerosS_lt b.length; simp [padS, be8]; omega
  have hD : digestS ks h b = ((chunksS ks h (b ++ padS b.length (8 * UInt64.ofNat b.length))).1.map be8).flatten := rfl
  rw [hD]
  clear hD hpm
  generalize b ++ padS b.length (8 * UInt64.ofNat b.length) = W at ho3 hlW hlb ⊢
  refine ⟨fun m xs w' => ∃ (i : Nat) (v : Value), xs = [v, i64 (128 * i : Nat)] ∧ m + i = W.length / 128 ∧ Ext w3 w' ∧ Own w' 191 1 v 8 ((chunksS ks h (W.take (128 * i))).1.map u64), ⟨W.length / 128, 0, v', rfl, rfl, Ext.refl _, ?_⟩, ?_⟩
  · rw [Nat.mul_zero, List.take_zero, chunksS_lt ks h [] (by simp)]; exact ho2'.ext hx3
  rintro m1 x7 x9 j1 w4 ⟨i, v, hx, hm1, hx4, ho4⟩
  obtain ⟨rfl, rfl⟩ : x7 = v ∧ x9 = i64 (128 * i : Nat) := by simpa using hx
  refine DoN_pu (pu_len Tryz.underlying22 ho3.sees) ?_
  refine Do_pu pu_lss (CondV_if (fun hi => ?_) fun hi => ?_)
  · have hi' : 128 * i + 128 ≤ W.length := by omega
    refine Do_pu (pu_iadd (by omega) (by omega)) ?_
    rw [show (((128 * i : Nat) : Int) + 128) = ((128 * i + 128 : Nat) : Int) by omega]
    obtain ⟨v8, p8, s8, _⟩ := Sees.sliceAt (P := Tryz.prog) (s := 1) (lo := 128 * i) (hi := 128 * i + 128) ho3.sees (by simp) Tryz.underlying22 (by kernel_rfl) (some (i64 (128 * i : Nat))) (some (i64 (128 * i + 128 : Nat))) (.inl rfl) (.inl rfl) (by omega) hi'
    refine Do_pu p8 ?_
    have s8' : Sees w3 v8 128 (((W.drop (128 * i)).take 128).map u8) := by
      rw [show 128 * i + 128 - 128 * i = 128 by omega] at s8; simpa using s8
    have h8 : ((W.drop (128 * i)).take 128).length = 128 := by simp; omega
    have hp8 := (chunksS_prop ks _ h (W.take (128 * i)) (Nat.le_refl _) hh).1
    refine CallS_r (turn_c ho4.sees (by simpa using hp8) (((h1.ext hx2).ext hx3).ext hx4) hks (s8'.ext hx4) h8) fun v9 w9 hq => ?_
    obtain ⟨ho9, hx9, _⟩ := hq
    refine Do_pu (pu_iadd (by omega) (by omega)) ?_
    refine ⟨m1 - 1, by omega, i + 1, v9, by simp; omega, by omega, hx4.trans hx9, ?_⟩
    have e1 : W.take (128 * (i + 1)) = W.take (128 * i) ++ (W.drop (128 * i)).take 128 := by rw [show 128 * (i + 1) = 128 * i + 128 by omega, List.take_add]
    have e2 := chunksS_blocks ks h W i (by simp; omega)
    rw [e1, chunksS_append ks _ _ h _ (Nat.le_refl _), e2, List.nil_append]
    have e3 := chunksS_full ks (chunksS ks h (W.take (128 * i))).1 _ [] h8
    rw [List.append_nil, chunksS_lt ks _ [] (by simp)] at e3
    rw [e3]
    exact ho9
  · have hiW : 128 * i = W.length := by omega
    have hW : W.take (128 * i) = W := by rw [hiW]; simp
    rw [hW] at ho4
    have hp8 := (chunksS_prop ks _ h W (Nat.le_refl _) hh).1
    generalize (chunksS ks h W).1 = ws2 at ho4 hp8 ⊢
    have hl2 : ws2.length = 8 := hp8
    have hxx : Ext w w4 := (hx2.trans hx3).trans hx4
    refine ⟨fun m xs w' => ∃ (i : Nat) (v : Value), xs = [v, i64 i] ∧ m + i = 8 ∧ Ext w4 w' ∧ Late w4 v ∧ Own w' 5 1 v (8 * i) ((((ws2.take i).map be8).flatten).map u8), ⟨8, 0, .slice none 0 0, rfl, rfl, Ext.refl _, (fun g e => by cases e), by simpa using Own.nil w4 5 1⟩, ?_⟩
    rintro m2 x10 x11 j2 w11 ⟨i, v, hx, hm2, hx11, hl11, ho11⟩
    obtain ⟨rfl, rfl⟩ : x10 = v ∧ x11 = i64 i := by simpa using hx
    refine Do_pu pu_lss (CondV_if (fun hi => ?_) fun hi => ?_)
    · have hi8 : i < 8 := by omega
      obtain ⟨a, pa, ca⟩ := rd64 ho4.sees hl2 hi8
      refine ⟨fun m xs w' => ∃ (j : Nat) (v : Value), xs = [v, i64 (56 - 8 * (j : Int))] ∧ m + j = 8 ∧ Ext w4 w' ∧ Late w4 v ∧ Own w' 5 1 v (8 * i + j) ((((ws2.take i).map be8).flatten ++ beTake (ws2.getD i 0) j).map u8), ⟨8, 0, x10, rfl, rfl, hx11, hl11, by simpa [beTake] using ho11⟩, ?_⟩
      rintro m3 x10_1 x12 j3 w13 ⟨j, v, hx, hm3, hx13, hl13, ho13⟩
      obtain ⟨rfl, rfl⟩ : x10_1 = v ∧ x12 = i64 (56 - 8 * (j : Int)) := by simpa using hx
      refine Do_pu pu_geq (CondV_if (fun hj => ?_) fun hj => ?_)
      · refine Do_pu pa ?_
        refine Do_load Tryz.underlying191 rfl (ca _ hx13) ?_
        refine Do_pu (pu_conv Tryz.underlying3 Tryz.underlying107) ?_
        rw [show IntKind.u64.wrap (56 - 8 * (j : Int)) = ((56 - 8 * j : Nat) : Int) by rw [wrap_u64]; omega]
        refine Do_pu (pu_ushr (by omega) (by omega)) ?_
        refine Do_pu (pu_u64u8 Tryz.underlying191 Tryz.underlying5) ?_
        refine push8_c ho13 hx13 hl13 (by omega) fun v6 w6 hx6 hl6 ho6 => ?_
        refine Do_pu (pu_isub (by omega) (by omega)) ?_
        refine ⟨m3 - 1, by omega, j + 1, v6, by simp; omega, by omega, hx6, hl6, ?_⟩
        rw [beTake_succ _ _ (by omega), ← List.append_assoc]
        show Own _ _ _ _ (8 * i + j + 1) _
        simpa [byteS] using ho6
      · obtain rfl : j = 8 := by omega
        refine Do_pu (pu_iadd (by omega) (by omega)) ?_
        refine ⟨m2 - 1, by omega, i + 1, x10_1, by simp, by omega, hx13, hl13, ?_⟩
        have e1 : ws2.take (i + 1) = ws2.take i ++ [ws2.getD i 0] := by rw [List.take_add_one]; simp [hl2, hi8]
        have e2 : beTake (ws2.getD i 0) 8 = be8 (ws2.getD i 0) := rfl
        rw [e2] at ho13
        rw [e1, show 8 * (i + 1) = 8 * i + 8 by omega]
        simpa using ho13
    · obtain rfl : i = 8 := by omega
      rw [List.take_of_length_le (by omega)] at ho11
      exact Ret.of ⟨ho11, hxx.trans hx11, fun g hg => by have := hl11 g hg; have := hxx.size; omega⟩

theorem table_c (w : World) :
    Calls Tryz.prog 81 #[] w (Ret fun v w' => ∃ v0 v1, v = .tuple #[v0, v1] ∧ Sees w' v0 8 (v0S.map u64) ∧ Sees w' v1 80 (kS.map u64) ∧ Ext w w') := by
  refine vc_buttressref01_Table ?_
  unfold V_buttressref01_Table
  refine Do_buildSlice (cells := v0S.map u64) Tryz.underlying145 row64 (by decide) (by decide) (by kernel_rfl) fun w1 n1 => ?_
  refine Do_buildSlice (cells := kS.map u64) Tryz.underlying145 row64 (by decide) (by decide) (by kernel_rfl) fun w2 n2 => ?_
  exact Ret.of ⟨_, _, rfl, Sees.ext (Own.sees (Own.new (s := 1) (n := 8) n1 rfl (by simp only [maxLen]; omega))) n2.ext, Own.sees (Own.new (s := 1) (n := 80) n2 rfl (by simp only [maxLen]; omega)), n1.ext.trans n2.ext⟩

/-- The reference's digest is the same. -/
theorem refSum_c {w : World} {v : Value} {b : List UInt8} (h : Sees w v b.length (b.map u8)) (hb : b.length ≤ 35184372088832) :
    Calls Tryz.prog 45 #[v] w (Ret fun v w' => Own w' 5 1 v 64 ((shaS b).map u8) ∧ Ext w w' ∧ Late w v) := by
  refine vc_buttressref01_Sum ?_
  unfold V_buttressref01_Sum
  refine CallS_r (table_c w) fun x6 w1 hh => ?_
  obtain ⟨v0, v1, rfl, h0, h1, hx1⟩ := hh
  refine Do_of (w' := w1) (v := v0) rfl ?_
  refine Do_of (w' := w1) (v := v1) rfl ?_
  refine CallS_r (sumBy_c h0 rfl h1 rfl (h.ext hx1) hb) fun x12 w4 hh => ?_
  obtain ⟨ho, hx4, hl⟩ := hh
  exact Ret.of ⟨ho, hx1.trans hx4, fun g hg => by have := hl g hg; have := hx1.size; omega⟩
end Go.Proofs.YtpdceilhgaladaaGreatDoor
