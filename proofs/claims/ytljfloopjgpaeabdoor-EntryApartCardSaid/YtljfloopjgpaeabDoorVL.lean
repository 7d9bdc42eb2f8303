/- entry's reader: one. -/
import Derived.Test.YtljfloopjgpaeabDoorVK
namespace Go.Proofs.YtljfloopjgpaeabDoor
set_option linter.unusedVariables false
set_option linter.unusedSimpArgs false
open Go.RowKit Go.Shelf
attribute [local go_sem] Oper.semAt_some run_store_fn
set_option maxRecDepth 100000
/-- An entry's own block. -/
def XAt (X : Nat) (y : EntV) (w : World) : Prop := w.heap[X]? = some (.cells #[.int .i64 y.at_, .int .u8 y.kind, .int .i64 y.worker, .int .i64 y.task, .int .i64 y.peer, .int .i64 y.ch, .int .i64 y.cs, .int .i64 y.pc, .int .i64 y.val, .int .i64 y.val2, .bool y.ok, .int .i64 y.code, .int .u64 y.set] 26 (0, 0))
theorem XAt.set0 {X : Nat} {y : EntV} {w : World} (h : XAt X y w) (v : Int) : XAt X { y with at_ := v } (w.setCell ⟨X, 0, none⟩ (.int .i64 v)) := by
  unfold XAt at h ⊢
  simp [World.setCell, Array.getElem?_modify, h]
theorem XAt.set1 {X : Nat} {y : EntV} {w : World} (h : XAt X y w) (v : Int) : XAt X { y with kind := v } (w.setCell ⟨X, 1, none⟩ (.int .u8 v)) := by
  unfold XAt at h ⊢
  simp [World.setCell, Array.getElem?_modify, h]
theorem XAt.set8 {X : Nat} {y : EntV} {w : World} (h : XAt X y w) (v : Int) : XAt X { y with val := v } (w.setCell ⟨X, 8, none⟩ (.int .i64 v)) := by
  unfold XAt at h ⊢
  simp [World.setCell, Array.getElem?_modify, h]
theorem XAt.set9 {X : Nat} {y : EntV} {w : World} (h : XAt X y w) (v : Int) : XAt X { y with val2 := v } (w.setCell ⟨X, 9, none⟩ (.int .i64 v)) := by
  unfold XAt at h ⊢
  simp [World.setCell, Array.getElem?_modify, h]
theorem XAt.set10 {X : Nat} {y : EntV} {w : World} (h : XAt X y w) (v : Bool) : XAt X { y with ok := v } (w.setCell ⟨X, 10, none⟩ (.bool v)) := by
  unfold XAt at h ⊢
  simp [World.setCell, Array.getElem?_modify, h]
theorem XAt.set11 {X : Nat} {y : EntV} {w : World} (h : XAt X y w) (v : Int) : XAt X { y with code := v } (w.setCell ⟨X, 11, none⟩ (.int .i64 v)) := by
  unfold XAt at h ⊢
  simp [World.setCell, Array.getElem?_modify, h]
theorem XAt.set12 {X : Nat} {y : EntV} {w : World} (h : XAt X y w) (v : Int) : XAt X { y with set := v } (w.setCell ⟨X, 12, none⟩ (.int .u64 v)) := by
  unfold XAt at h ⊢
  simp [World.setCell, Array.getElem?_modify, h]
theorem XAt.putF {X : Nat} {y : EntV} {w : World} (h : XAt X y w) (q : EFd) (v : Int) : XAt X (setF y q.1.2 v) (w.setCell ⟨X, q.1.2, none⟩ (.int .i64 v)) := by
  unfold XAt at h ⊢
  have hq := q.2
  simp only [eFields0, List.mem_cons, List.mem_nil_iff, or_false] at hq
  rcases hq with e | e | e | e | e | e <;> rw [e] <;> simp [World.setCell, Array.getElem?_modify, h, setF]
theorem XAt.fld {X : Nat} {y : EntV} {w : World} (h : XAt X y w) (q : EFd) : w.cell? ⟨X, q.1.2, none⟩ = some (.int .i64 (y.fld q.1.2)) := by
  have hq := q.2
  simp only [eFields0, List.mem_cons, List.mem_nil_iff, or_false] at hq
  rcases hq with e | e | e | e | e | e <;> rw [e]
  · exact Ly.cellAt h 2 rfl
  · exact Ly.cellAt h 3 rfl
  · exact Ly.cellAt h 4 rfl
  · exact Ly.cellAt h 5 rfl
  · exact Ly.cellAt h 6 rfl
  · exact Ly.cellAt h 7 rfl
theorem RdAt.lt {p : Nat} {r : Rd} {w : World} (h : RdAt p r w) : p < w.heap.size := (Array.getElem?_eq_some_iff.1 h).1
theorem XAt.lt {X : Nat} {y : EntV} {w : World} (h : XAt X y w) : X < w.heap.size := (Array.getElem?_eq_some_iff.1 h).1
theorem RdAt.setX {p X i : Nat} {r : Rd} {w : World} {v : Value} (h : RdAt p r w) (hne : p ≠ X) : RdAt p r (w.setCell ⟨X, i, none⟩ v) := (Below.heap_setCell _ _ _ _ hne).trans h
theorem XAt.only {p X : Nat} {y : EntV} {w w' : World} (h : XAt X y w) (ho : OnlyP p w w') (hne : X ≠ p) : XAt X y w' := (ho.block _ h.lt hne).trans h
theorem OnlyP.setX {p X i : Nat} {a b : World} {v : Value} (h : OnlyP p a b) (hX : a.heap.size ≤ X) : OnlyP p a (b.setCell ⟨X, i, none⟩ v) := ⟨h.os, h.tape, h.output, by simp; exact h.size, fun k hk hne => (Below.heap_setCell _ _ _ _ (by show k ≠ X; omega)).trans (h.block k hk hne)⟩
def ModR (p X k : Nat) (o : Obj) : Prop := (k = p ∨ k = X) ∧ o.isCells = true
theorem ModR.oth {p X k : Nat} {o : Obj} (h : o.isCells = false) : ¬ ModR p X k o := fun hm => by have h2 := hm.2; rw [h] at h2; cases h2
theorem ModR.ne {p X k : Nat} {o : Obj} (h1 : k ≠ p) (h2 : k ≠ X) : ¬ ModR p X k o := fun hm => hm.1.elim h1 h2
theorem KeepsM.onlyP {p X : Nat} {r : Rd} {a b : World} (hp : RdAt p r a) (h : OnlyP p a b) : KeepsM (ModR p X) a b := ⟨h.size, fun k o hk hm => by
  refine (h.block k (Array.getElem?_eq_some_iff.1 hk).1 ?_).trans hk
  rintro rfl
  rw [hp] at hk
  cases hk
  exact hm ⟨.inl rfl, rfl⟩⟩
theorem KeepsM.setR {p X i : Nat} {y : EntV} {a b : World} {v : Value} (h : KeepsM (ModR p X) a b) (hX : XAt X y b) : KeepsM (ModR p X) a (b.setCell ⟨X, i, none⟩ v) := ⟨by simp; exact h.1, fun k o hk hm => by
  have h1 := h.2 k o hk hm
  refine (Below.heap_setCell _ _ _ _ ?_).trans h1
  rintro rfl
  rw [hX] at h1
  cases h1
  exact hm ⟨.inr rfl, rfl⟩⟩
theorem ty_ne {w : World} {b c : Nat} {cs ds : Array Value} {T U : Nat} {z y : Nat × Nat} (h : w.heap[b]? = some (.cells cs T z)) (k : w.heap[c]? = some (.cells ds U y)) (hT : T ≠ U) : b ≠ c := by
  rintro rfl
  rw [h] at k
  injection k with k
  injection k with _ k
  exact hT k
theorem OnlyP.ownFrom {β : Type} {p : Nat} {w0 : World} {b : Nat} (hb : w0.heap.size ≤ b) : OwnFrom b (fun (_ : β) W => OnlyP p w0 W) := fun s W W' row hs hg hr => ⟨hg.os.trans hs.os, hg.tape.trans hs.tape, hg.output.trans hs.output, Nat.le_trans hs.size hg.size, fun k hk hne => by
  refine (hg.block k (Nat.lt_of_lt_of_le hk hs.size) ?_).trans (hs.block k hk hne)
  intro e
  have := (hr k e.symm).1
  omega⟩
theorem Rd.num_le (r : Rd) (most : Nat) : (r.num most).1 ≤ most := by
  unfold Rd.num
  split
  · exact Nat.zero_le _
  · split
    · exact Nat.zero_le _
    · show _ ≤ most
      omega
theorem ask1_no {W : World} {r : Nat} {k : Int} (h : FormN W r k) : (Instr.lookup 98 (.map (some r)) (.int .u8 k) false).run Tryd.prog W = .ok (.agg #[.string ⟨#[]⟩, .slice none 0 0]) W := by
  obtain ⟨n, es, h1, h2⟩ := h
  rw [run_mapAsk1 Tryd.underlying98 Tryd.underlying5 zero_eform h1 k, h2]
  rfl
theorem rdSw_len (y : EntV × Rd) (s : ByteArray) : (rdSw y s).2.l.length ≤ y.2.l.length := by
  unfold rdSw
  (repeat' split)
  · exact Rd.wide_len _
  · exact Rd.wide_len _
  · exact Rd.num_len _ _
  · exact Rd.num_len _ _
  · exact Rd.num_len _ _
  · exact Nat.le_refl _
theorem rdFds_len (s : ByteArray) : ∀ (ps : List EFd) (y : EntV × Rd), (ps.foldl (rdFd s) y).2.l.length ≤ y.2.l.length
  | [], _ => Nat.le_refl _
  | p :: ps, y => by
    refine Nat.le_trans (rdFds_len s ps _) ?_
    unfold rdFd
    split
    · exact Rd.num_len _ _
    · exact Nat.le_refl _
theorem rdNames_len : ∀ (ns : List ByteArray) (y : EntV × Rd), (rdNames y ns).2.l.length ≤ y.2.l.length
  | [], _ => Nat.le_refl _
  | s :: ns, y => Nat.le_trans (rdNames_len ns _) (Nat.le_trans (rdFds_len s eFields _) (rdSw_len y s))
theorem rdNames_snoc (y : EntV × Rd) (ns : List ByteArray) (s : ByteArray) : rdNames y (ns ++ [s]) = rdName (rdNames y ns) s := by
  unfold rdNames
  rw [List.foldl_append]
  rfl
end Go.Proofs.YtljfloopjgpaeabDoor
