/- Maps: made, written, looked up. -/
import Derived.Test.YtpdceilhgaladaaGreatDoorApp
import Derived.WideMake
namespace Go.Vc
open Go.RowKit
section
variable {P : Program} {w : World} {K : Value → World → Prop} {Kp : List PanicEntry → World → Prop} {t kt et : TypeId}
/-- Block r is a map with those entries. -/
def MapB (w : World) (r : Nat) (es : List MapEntry) (clock : Nat) : Prop := w.heap[r]? = some (.map es.toArray clock)
theorem MapB.lt {r clock : Nat} {es : List MapEntry} (h : MapB w r es clock) : r < w.heap.size := (Array.getElem?_eq_some_iff.1 h).1
theorem MapB.ext {w' : World} {r clock : Nat} {es : List MapEntry} (h : MapB w r es clock) (hx : Ext w w') : MapB w' r es clock := (hx.block r h.lt).trans h
theorem MapB.kept {w' : World} {row : Option Nat} {r clock : Nat} {es : List MapEntry} (h : MapB w r es clock) (hg : w.grownBy w' row) (hne : some r ≠ row) : MapB w' r es clock := (hg.block r h.lt hne).trans h
theorem Do_makeMap (hk : ∀ w', MapB w' w.heap.size [] 0 → Ext w w' → w'.heap.size = w.heap.size + 1 → K (.map (some w.heap.size)) w') : Do P (Instr.makeMap t none) w K Kp :=
  Do_of rfl (hk (w.alloc (.map #[] 0)) (heap_alloc_new w _) ((Below.refl _ w).alloc (Nat.le_refl _) _) (by simp))
theorem DoU_mapUpdate {K : World → Prop} {kd : TypeDesc} {r clock : Nat} {es : List MapEntry} {key val : Value} (hm : P.underlying t = some (.map kt et)) (hk : P.underlying kt = some kd) (hkey : MapKept.IsKey kd key) (hb : MapB w r es clock)
    (hf : Instr.findNow kd key es 0 = some none) (hK : ∀ w', MapB w' r (es ++ [{ key, val, born := clock }]) (clock + 1) → w.grownBy w' (some r) → K w') : DoU P (Instr.mapUpdate t (.map (some r)) key val) w K Kp := by
  have hb' : w.heap[r]? = some (.map es.toArray clock) := hb
  have hc : (Instr.checkKey false 10000 kt key).run P w = .ok () w := MapKept.run_checkKey hk hkey false 9999
  have hf' : Instr.findNow kd key es.toArray.toList 0 = some none := hf
  refine DoU_of (w' := { w with heap := w.heap.setIfInBounds r (.map (es.toArray.push { key, val, born := clock }) (clock + 1)) }) ?_ (hK _ ?_ ⟨rfl, rfl, rfl, by simp, fun k _ hne => ?_⟩)
  · simp [Instr.mapUpdate, run_underlying' hm, MapKept.run_getObj_map hb', hc, MapKept.run_findKey hk hf', MapKept.run_setObj_map _ hb', Result.andThen]
  · unfold MapB
    have := hb.lt
    simp [this]
  · have : r ≠ k := fun e => hne (by rw [e])
    simp [Array.getElem?_setIfInBounds_ne this]
theorem run_lookup {kd : TypeDesc} {r clock : Nat} {es : List MapEntry} {key : Value} {i : Nat} {v : Value} (hm : P.underlying t = some (.map kt et)) (hk : P.underlying kt = some kd) (hkey : MapKept.IsKey kd key) (hb : MapB w r es clock)
    (hf : Instr.findNow kd key es 0 = some (some (i, v))) (ok : Bool) : (Instr.lookup t (.map (some r)) key ok).run P w = .ok (if ok then .tuple #[v, .bool true] else v) w := by
  have hb' : w.heap[r]? = some (.map es.toArray clock) := hb
  have hc : (Instr.checkKey es.isEmpty 10000 kt key).run P w = .ok () w := MapKept.run_checkKey hk hkey _ 9999
  have hf' : Instr.findNow kd key es.toArray.toList 0 = some (some (i, v)) := hf
  cases ok <;> simp [Instr.lookup, run_underlying' hm, MapKept.run_getObj_map hb', hc, MapKept.run_findKey hk hf', Result.andThen]
theorem run_lookup_no {kd : TypeDesc} {r clock : Nat} {es : List MapEntry} {key z : Value} (hm : P.underlying t = some (.map kt et)) (hk : P.underlying kt = some kd) (hkey : MapKept.IsKey kd key) (hb : MapB w r es clock)
    (hf : Instr.findNow kd key es 0 = some none) (hz : (P.info? et).bind (·.zero) = some z) (ok : Bool) : (Instr.lookup t (.map (some r)) key ok).run P w = .ok (if ok then .tuple #[z, .bool false] else z) w := by
  have hb' : w.heap[r]? = some (.map es.toArray clock) := hb
  have hc : (Instr.checkKey es.isEmpty 10000 kt key).run P w = .ok () w := MapKept.run_checkKey hk hkey _ 9999
  have hf' : Instr.findNow kd key es.toArray.toList 0 = some none := hf
  have hzz : (zeroValue et).run P w = .ok z w := by
    cases hi : P.info? et with
    | none => simp [hi] at hz
    | some i => simp [hi] at hz; simp [zeroValue, typeInfo, hi, hz]
  cases ok <;> simp [Instr.lookup, run_underlying' hm, MapKept.run_getObj_map hb', hc, MapKept.run_findKey hk hf', Result.andThen, hzz]
end
end Go.Vc
