/- Maps keyed by whole numbers, as lists of entries: how they are made, asked, written. -/
import Derived.WalkKit
import Derived.MapKept
import Derived.WideMake
import Derived.RangeFuncRecord
namespace Go.Proofs.YtljfloopjgpaeabDoor
set_option linter.unusedVariables false
set_option linter.unusedSimpArgs false
open Go.RowKit
variable {P : Program}

/-- Looking for a whole number among entries keyed by whole numbers. -/
def findI (q : IntKind) (k : Int) : List (Int × Value × Nat) → Nat → Option (Nat × Value)
  | [], _ => none
  | (j, v, _) :: es, i => if k = j then some (i, v) else findI q k es (i + 1)
theorem findI_nil (q : IntKind) (k : Int) (i : Nat) : findI q k [] i = none := rfl
theorem findI_cons (q : IntKind) (k j : Int) (v : Value) (m : Nat) (es : List (Int × Value × Nat)) (i : Nat) : findI q k ((j, v, m) :: es) i = if k = j then some (i, v) else findI q k es (i + 1) := rfl
def entI (q : IntKind) (x : Int × Value × Nat) : MapEntry := ⟨.int q x.1, x.2.1, x.2.2⟩
def entsI (q : IntKind) (es : List (Int × Value × Nat)) : Array MapEntry := (es.map (entI q)).toArray
theorem entsI_nil (q : IntKind) : entsI q [] = #[] := rfl
theorem entsI_push (q : IntKind) (es : List (Int × Value × Nat)) (k : Int) (v : Value) (n : Nat) : (entsI q es).push ⟨.int q k, v, n⟩ = entsI q (es ++ [(k, v, n)]) := by simp [entsI, entI]
theorem findNow_entI (q : IntKind) (k : Int) : ∀ (es : List (Int × Value × Nat)) (i : Nat), Instr.findNow (.int q) (.int q k) (es.map (entI q)) i = some (findI q k es i)
  | [], _ => rfl
  | (j, v, m) :: es, i => by
    have ih := findNow_entI q k es (i + 1)
    by_cases h : k = j
    · simp [Instr.findNow, entI, Instr.sameNow, findI, h]
    · have hb : (k == j) = false := by simpa using h
      simp [Instr.findNow, entI, Instr.sameNow, findI, h, ih, hb]

theorem run_keyI {w : World} {kt : TypeId} {q : IntKind} (hk : P.underlying kt = some (.int q)) (b : Bool) (k : Int) : (Instr.checkKey b 10000 kt (.int q k)).run P w = .ok () w :=
  MapKept.run_checkKey (k := .int q k) hk (by simp [MapKept.IsKey]) b 9999

/-- A new key is put into a map. -/
theorem run_mapPut {w : World} {mt kt et : TypeId} {q : IntKind} (hm : P.underlying mt = some (.map kt et)) (hk : P.underlying kt = some (.int q)) {r n : Nat} {es : List (Int × Value × Nat)} (hb : w.heap[r]? = some (.map (entsI q es) n)) (k : Int) (v : Value) (hf : findI q k es 0 = none) :
    (Instr.mapUpdate mt (.map (some r)) (.int q k) v).run P w = .ok () (w.putObj r (.map (entsI q (es ++ [(k, v, n)])) (n + 1))) := by
  have hf' : Instr.findNow (.int q) (.int q k) (entsI q es).toList 0 = some none := by simp only [entsI]; rw [findNow_entI, hf]
  simp [Instr.mapUpdate, run_underlying hm, MapKept.run_getObj_map hb, run_keyI hk, MapKept.run_findKey hk hf', MapKept.run_setObj_map _ hb, Result.andThen, World.putObj, entsI_push]

/-- A map at the end of the heap. -/
theorem run_mapPut_new {w : World} {mt kt et : TypeId} {q : IntKind} (hm : P.underlying mt = some (.map kt et)) (hk : P.underlying kt = some (.int q)) {n : Nat} {es : List (Int × Value × Nat)} (k : Int) (v : Value) (hf : findI q k es 0 = none) :
    (Instr.mapUpdate mt (.map (some w.heap.size)) (.int q k) v).run P (w.alloc (.map (entsI q es) n)) = .ok () (w.alloc (.map (entsI q (es ++ [(k, v, n)])) (n + 1))) := by
  rw [run_mapPut hm hk (World.alloc_heap_new w _) k v hf]
  congr 1
  simp only [World.putObj, World.alloc]
  congr 1
  apply Array.ext_getElem?
  intro i
  by_cases h : i = w.heap.size
  · subst h; simp [Array.getElem?_setIfInBounds]
  · simp [Array.getElem?_push, Array.getElem?_setIfInBounds, Ne.symm h, h]

/-- A map is asked. -/
theorem run_mapAsk {w : World} {mt kt et : TypeId} {q : IntKind} (hm : P.underlying mt = some (.map kt et)) (hk : P.underlying kt = some (.int q)) {z : Value} (hz : ∀ w, (zeroValue et).run P w = .ok z w) {r n : Nat} {es : List (Int × Value × Nat)} (hb : w.heap[r]? = some (.map (entsI q es) n)) (k : Int) :
    (Instr.lookup mt (.map (some r)) (.int q k) true).run P w = .ok (.tuple #[((findI q k es 0).map (·.2)).getD z, .bool (findI q k es 0).isSome]) w := by
  have hf' : Instr.findNow (.int q) (.int q k) (entsI q es).toList 0 = some (findI q k es 0) := by simp only [entsI]; rw [findNow_entI]
  cases h : findI q k es 0 with
  | none => rw [h] at hf'; simp [Instr.lookup, run_underlying hm, MapKept.run_getObj_map hb, run_keyI hk, MapKept.run_findKey hk hf', Result.andThen, hz]
  | some x => rw [h] at hf'; simp [Instr.lookup, run_underlying hm, MapKept.run_getObj_map hb, run_keyI hk, MapKept.run_findKey hk hf', Result.andThen]
theorem run_mapAsk1 {w : World} {mt kt et : TypeId} {q : IntKind} (hm : P.underlying mt = some (.map kt et)) (hk : P.underlying kt = some (.int q)) {z : Value} (hz : ∀ w, (zeroValue et).run P w = .ok z w) {r n : Nat} {es : List (Int × Value × Nat)} (hb : w.heap[r]? = some (.map (entsI q es) n)) (k : Int) :
    (Instr.lookup mt (.map (some r)) (.int q k) false).run P w = .ok (((findI q k es 0).map (·.2)).getD z) w := by
  have hf' : Instr.findNow (.int q) (.int q k) (entsI q es).toList 0 = some (findI q k es 0) := by simp only [entsI]; rw [findNow_entI]
  cases h : findI q k es 0 with
  | none => rw [h] at hf'; simp [Instr.lookup, run_underlying hm, MapKept.run_getObj_map hb, run_keyI hk, MapKept.run_findKey hk hf', Result.andThen, hz]
  | some x => rw [h] at hf'; simp [Instr.lookup, run_underlying hm, MapKept.run_getObj_map hb, run_keyI hk, MapKept.run_findKey hk hf', Result.andThen]
end Go.Proofs.YtljfloopjgpaeabDoor
