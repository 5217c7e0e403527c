/- append of zeros onto a row of one's own. -/
import Derived.Test.YtpdceilhgaladaaGreatDoorChg
namespace Go.Vc
open Go.RowKit
section
variable {P : Program} {w : World} {K : Value → World → Prop} {Kp : List PanicEntry → World → Prop} {t ti ty e : TypeId}
theorem zeroCells1 (z : Value) (m : Nat) : Builtin.zeroCells #[z] m = (List.replicate m z).toArray := by
  apply Array.ext
  · simp [Builtin.zeroCells]
  · intro i h1 h2
    simp [Builtin.zeroCells, Nat.mod_one]
/-- append(s, make([]E, m)..) onto a row of one's own. -/
theorem DoN_appendZ {bytes n m : Nat} {z : Value} {xs : List Value} {v : Value} {fl : Array Bool} {ki : IntKind} (hu : P.underlying t = some (.slice e)) (hui : P.underlying ti = some (.int ki)) (he : rowIs P e 1 bytes [z]) (hz1 : z.oneCell' = true)
    (hown : Own w e 1 v n xs) (hm0 : 0 < m) (hm : n + m ≤ 9223372036854775807) (hb : (n + m) * bytes ≤ 140737488355328)
    (hk : ∀ v' w', Own w' e 1 v' (n + m) (xs ++ List.replicate m z) → w.grownBy w' v.ownBlock → (v'.ownBlock = v.ownBlock ∨ v'.ownBlock = some w.heap.size) → K v' w') :
    DoN P (builtin .append #[t, ti] ty fl #[v, i64 m]) w K Kp := by
  obtain ⟨i, zv, hi, hz, hs, hby, hv⟩ := he
  subst hby
  have hw : IntKind.i64.wrap (m : Int) = m := wrap_i64_in (by omega) (by omega)
  have hmb : m * i.bytes ≤ (n + m) * i.bytes := Nat.mul_le_mul_right _ (by omega)
  have hbig : ¬ (281474976710656 < (m : Int) * (i.bytes : Int)) := by
    have : ((m * i.bytes : Nat) : Int) = (m : Int) * i.bytes := Int.natCast_mul _ _
    omega
  have hneg : ¬ ((m : Int) < 0) := by omega
  have hzc : Builtin.zeroCells zv.cells = fun m => (List.replicate m z).toArray := by rw [hv]; exact funext (zeroCells1 z)
  have hm63 : ¬ (9223372036854775807 < ((n : Int) + (m : Int))) := by omega
  refine DoN_value ?_
  have hlen : (xs ++ List.replicate m z).length = (n + m) * 1 := by simp [hown.1]
  rcases hown.2 with ⟨rfl, rfl⟩ | ⟨g, cap, cur, rfl, hbg, hg, hnc, hcm, hcs, htake⟩
  · have hx : xs = [] := List.eq_nil_of_length_eq_zero (by simpa using hown.1)
    subst hx
    have h48 : ¬ (281474976710656 < Builtin.nextslicecap m 0 * i.bytes) := by rw [nextslicecap_zero hm0]; omega
    refine Do_of (v := .slice (some ⟨w.heap.size, 0, none⟩) m (grownCap w m 0 e)) (w' := w.drew.alloc (.cells ((List.replicate m z).toArray ++ (List.replicate (grownCap w m 0 e - m) z).toArray) e)) ?_ ?_
    · simp [Builtin.append_, run_underlying' hu, run_underlying' hui, sizeOf, typeInfo, zeroValue, hi, hz, hs, asInt, asIntOf, hw, hneg, hbig, h48, Question.forced, hzc, newRow, grownCap, show m ≠ 0 by omega, Builtin.firstCells, show ¬ (9223372036854775807 < (m : Int)) by omega]
    · have hge := grownCap_ge w m 0 e
      have hcm : grownCap w m 0 e ≤ maxLen := grownCap_le_maxLen w m 0 e (by simp only [maxLen]; omega)
      refine hk _ _ ⟨by simp, .inr ⟨w.heap.size, _, _, by simp, Nat.zero_le _, heap_alloc_new w.drew _, by omega, hcm, by simp; omega, by simp⟩⟩ ⟨rfl, rfl, rfl, by simp, fun k hk _ => Below.heap_alloc w.drew _ k hk⟩ (.inr rfl)
  · by_cases hroom : n + m ≤ cap
    · have hst := run_storeCells_at P g n e (List.replicate m z) 0 cur w hg (by simp; omega) (by intro v hv; rw [List.eq_of_mem_replicate hv]; exact hz1)
      simp only [Nat.add_zero] at hst
      refine Do_of (v := .slice (some ⟨g, 0, none⟩) (n + m) cap) (w' := w.setRow g (cur.toList.take n ++ List.replicate m z ++ cur.toList.drop (n + (List.replicate m z).length)).toArray) ?_ ?_
      · simp [Builtin.append_, run_underlying' hu, run_underlying' hui, sizeOf, typeInfo, zeroValue, hi, hz, hs, asInt, asIntOf, hw, hneg, hbig, hroom, hzc, show m ≠ 0 by omega, Addr.add_lit, hst]
      · refine hk _ _ ⟨hlen, .inr ⟨g, cap, _, rfl, hbg, setRow_heap w g cur _ e _ hg, hroom, hcm, ?_, ?_⟩⟩ ⟨rfl, rfl, rfl, by simp, fun k _ hk => setRow_other w g k _ (fun e => hk (by simp [Value.ownBlock, e]))⟩ (.inl rfl)
        · simp only [List.size_toArray, List.length_append, List.length_take, List.length_drop, Array.length_toList, List.length_replicate]
          omega
        · have ht : cur.toList.take n = xs := by rw [← htake, Nat.mul_one]
          rw [ht, ← hlen]
          exact List.take_left
    · have holds : ∀ j u, xs[j]? = some u → w.drew.cell? ((⟨g, 0, none⟩ : Addr).add j) = some u := fun j u hj => World.ownsRow.cells hown (g := g) rfl j u hj
      have hfo := run_firstCells_some (P := P) w.drew 1 n ⟨g, 0, none⟩ n cap xs hown.1 holds
      have h48 : ¬ (281474976710656 < Builtin.nextslicecap (n + m) cap * i.bytes) := by have := growslice_fits (need := n + m) (old := cap) (bytes := i.bytes) (by omega) hb; omega
      refine Do_of (v := .slice (some ⟨w.heap.size, 0, none⟩) (n + m) (grownCap w (n + m) cap e)) (w' := w.drew.alloc (.cells (xs.toArray ++ (List.replicate m z).toArray ++ (List.replicate (grownCap w (n + m) cap e - (n + m)) z).toArray) e)) ?_ ?_
      · simp [Builtin.append_, run_underlying' hu, run_underlying' hui, sizeOf, typeInfo, zeroValue, hi, hz, hs, asInt, asIntOf, hw, hneg, hbig, hroom, h48, Question.forced, hzc, newRow, grownCap, show m ≠ 0 by omega, hfo, hm63]
      · have hge := grownCap_ge w (n + m) cap e
        have hcm' : grownCap w (n + m) cap e ≤ maxLen := grownCap_le_maxLen w (n + m) cap e (by simp only [maxLen]; omega)
        refine hk _ _ ⟨hlen, .inr ⟨w.heap.size, _, _, rfl, Nat.zero_le _, heap_alloc_new w.drew _, hge, hcm', ?_, ?_⟩⟩ ⟨rfl, rfl, rfl, by simp, fun k hk _ => Below.heap_alloc w.drew _ k hk⟩ (.inr rfl)
        · have := hown.1
          simp; omega
        · simp only [Array.toList_append, List.append_assoc]
          rw [← List.append_assoc, ← hlen]
          exact List.take_left
end
end Go.Vc
