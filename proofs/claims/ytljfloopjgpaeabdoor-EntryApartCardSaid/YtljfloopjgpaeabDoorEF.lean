/- tollbar/entry.forms: the map of all kinds' forms, whatever order its literal is made in. -/
import Derived.Test.YtljfloopjgpaeabDoorEI
import Derived.Test.YtljfloopjgpaeabDoorM
import Derived.Test.YtljfloopjgpaeabDoorLA
namespace Go.Proofs.YtljfloopjgpaeabDoor
set_option linter.unusedVariables false
set_option linter.unusedSimpArgs false
open Go.RowKit
set_option maxRecDepth 100000
abbrev s_case : ByteArray := ⟨#[99, 97, 115, 101]⟩
abbrev s_ch : ByteArray := ⟨#[99, 104]⟩
abbrev s_code : ByteArray := ⟨#[99, 111, 100, 101]⟩
abbrev s_ok : ByteArray := ⟨#[111, 107]⟩
abbrev s_peer : ByteArray := ⟨#[112, 101, 101, 114]⟩
abbrev s_peercase : ByteArray := ⟨#[112, 101, 101, 114, 99, 97, 115, 101]⟩
abbrev s_set : ByteArray := ⟨#[115, 101, 116]⟩
abbrev s_task : ByteArray := ⟨#[116, 97, 115, 107]⟩
abbrev s_val : ByteArray := ⟨#[118, 97, 108]⟩
abbrev s_val2 : ByteArray := ⟨#[118, 97, 108, 50]⟩
abbrev s_worker : ByteArray := ⟨#[119, 111, 114, 107, 101, 114]⟩
abbrev w_block : ByteArray := ⟨#[98, 108, 111, 99, 107]⟩
abbrev w_close : ByteArray := ⟨#[99, 108, 111, 115, 101]⟩
abbrev w_default : ByteArray := ⟨#[100, 101, 102, 97, 117, 108, 116]⟩
abbrev w_dispatch : ByteArray := ⟨#[100, 105, 115, 112, 97, 116, 99, 104]⟩
abbrev w_end : ByteArray := ⟨#[101, 110, 100]⟩
abbrev w_fault : ByteArray := ⟨#[102, 97, 117, 108, 116]⟩
abbrev w_free : ByteArray := ⟨#[102, 114, 101, 101]⟩
abbrev w_locked : ByteArray := ⟨#[108, 111, 99, 107, 101, 100]⟩
abbrev w_meet : ByteArray := ⟨#[109, 101, 101, 116]⟩
abbrev w_poll : ByteArray := ⟨#[112, 111, 108, 108]⟩
abbrev w_preempt : ByteArray := ⟨#[112, 114, 101, 101, 109, 112, 116]⟩
abbrev w_ready : ByteArray := ⟨#[114, 101, 97, 100, 121]⟩
abbrev w_recv : ByteArray := ⟨#[114, 101, 99, 118]⟩
abbrev w_refill : ByteArray := ⟨#[114, 101, 102, 105, 108, 108]⟩
abbrev w_send : ByteArray := ⟨#[115, 101, 110, 100]⟩
abbrev w_spawn : ByteArray := ⟨#[115, 112, 97, 119, 110]⟩
abbrev w_wake : ByteArray := ⟨#[119, 97, 107, 101]⟩
def kStr : Kn ByteArray := Kn.flat 1 (fun s => [.string s]) (fun _ => True)
namespace Ef
/-- A slice value whose cells are these strings, in a block of cells. -/
def Has (w : World) (v : Value) (l : List ByteArray) : Prop :=
  l.length ≤ 50 ∧ ∃ b o c, v = .slice (some ⟨b, o, none⟩) l.length c ∧ l.length ≤ c ∧ c ≤ 50 ∧ ∃ cs z, w.heap[b]? = some (.cells cs 9 z) ∧ ∀ i x, l[i]? = some x → cs[o + i]? = some (.string x)
def Keeps (w w' : World) : Prop := ∀ (g : Nat) (cs : Array Value) (t : TypeId) (z : Nat × Nat), w.heap[g]? = some (Obj.cells cs t z) → w'.heap[g]? = some (Obj.cells cs t z)
theorem Has.keep {w w' : World} {v : Value} {l : List ByteArray} (h : Has w v l) (hk : Keeps w w') : Has w' v l := by
  obtain ⟨h0, b, o, c, h1, h2, h3, cs, z, h4, h5⟩ := h
  exact ⟨h0, b, o, c, h1, h2, h3, cs, z, hk _ _ _ _ h4, h5⟩
theorem Has.R {w : World} {v : Value} {l : List ByteArray} (h : Has w v l) : kStr.R w v l := by
  obtain ⟨h0, b, o, c, h1, h2, h3, cs, z, h4, h5⟩ := h
  refine ⟨_, c, h1, h2, Nat.le_trans h3 (by decide), by omega, fun _ => ⟨b, o, rfl, (Array.getElem?_eq_some_iff.1 h4).1, fun i x hx => ⟨_, ⟨rfl, trivial⟩, fun j u hj => ?_⟩⟩⟩
  obtain ⟨rfl, rfl⟩ : j = 0 ∧ u = .string x := by
    cases j with
    | zero => exact ⟨rfl, by simpa using hj.symm⟩
    | succ j => simp at hj
  have := h5 i x hx
  simp [kStr, Kn.flat, World.cell?, h4, Nat.mul_one, Nat.add_zero, this]
inductive Kd where
  | sl (l : List ByteArray)
  | own
  | bld (word : ByteArray) (l : List ByteArray)
def Kd.holds (own : Nat) (w : World) (v : Value) : Kd → Prop
  | .sl l => Has w v l
  | .own => v = .slice (some ⟨own, 0, none⟩) 2 2
  | .bld word l => ∃ u, v = .agg #[.string word, u] ∧ Has w u l
theorem Kd.keep {own : Nat} {w w' : World} {v : Value} (hk : Keeps w w') : ∀ {k : Kd}, k.holds own w v → k.holds own w' v
  | .sl _, h => Has.keep h hk
  | .own, h => h
  | .bld _ _, ⟨u, h1, h2⟩ => ⟨u, h1, h2.keep hk⟩
structure Row where
  key : Int
  word : ByteArray
  names : List ByteArray
def Row.holds (x : Row) (w : World) (v : Value) : Prop := ∃ u, v = .agg #[.string x.word, u] ∧ Has w u x.names
theorem Row.keep {x : Row} {w w' : World} {v : Value} (hk : Keeps w w') : x.holds w v → x.holds w' v := fun ⟨u, h1, h2⟩ => ⟨u, h1, h2.keep hk⟩
def dsts : List Nat := [3, 4, 5, 99, 6, 7, 99, 8, 9, 99, 10, 11, 99, 12, 13, 99, 14, 15, 99, 16, 17, 18, 99, 19, 20, 21, 99, 22, 23, 99, 24, 25, 26, 99, 27, 28, 99, 29, 30, 99, 31, 32, 99, 33, 34, 99, 35, 36, 99, 37, 38, 99, 39, 40, 41, 99, 42, 0]
def kds : List (Option Kd) := [none, some (.sl [s_task, s_ch, s_case, s_val]), some (.bld w_send [s_task, s_ch, s_case, s_val]), none, some (.sl [s_task, s_ch, s_case, s_val, s_ok]), some (.bld w_recv [s_task, s_ch, s_case, s_val, s_ok]), none, some (.sl [s_task, s_peer, s_ch, s_case, s_peercase, s_val, s_ok]), some (.bld w_meet [s_task, s_peer, s_ch, s_case, s_peercase, s_val, s_ok]), none, some (.sl [s_task, s_peer, s_ch, s_case, s_peercase, s_val, s_val2]), some (.bld w_refill [s_task, s_peer, s_ch, s_case, s_peercase, s_val, s_val2]), none, some (.sl [s_task, s_ch]), some (.bld w_close [s_task, s_ch]), none, some (.sl [s_task, s_peer, s_ch, s_case]), some (.bld w_wake [s_task, s_peer, s_ch, s_case]), none, some .own, some (.sl [s_task]), some (.bld w_default [s_task]), none, some .own, some (.sl [s_task]), some (.bld w_block [s_task]), none, some (.sl [s_task, s_peer, s_case]), some (.bld w_spawn [s_task, s_peer, s_case]), none, some .own, some (.sl [s_task]), some (.bld w_end [s_task]), none, some (.sl [s_task, s_peer, s_code]), some (.bld w_fault [s_task, s_peer, s_code]), none, some .own, some (.bld w_dispatch [s_worker, s_task]), none, some .own, some (.bld w_ready [s_worker, s_task]), none, some .own, some (.bld w_preempt [s_worker, s_task]), none, some .own, some (.bld w_locked [s_worker, s_task]), none, some (.sl [s_worker, s_task, s_set]), some (.bld w_poll [s_worker, s_task, s_set]), none, some .own, some (.sl [s_worker]), some (.bld w_free [s_worker]), none, none, none]
def rws : List (Option Row) := [none, none, none, some ⟨1, w_send, [s_task, s_ch, s_case, s_val]⟩, none, none, some ⟨2, w_recv, [s_task, s_ch, s_case, s_val, s_ok]⟩, none, none, some ⟨3, w_meet, [s_task, s_peer, s_ch, s_case, s_peercase, s_val, s_ok]⟩, none, none, some ⟨4, w_refill, [s_task, s_peer, s_ch, s_case, s_peercase, s_val, s_val2]⟩, none, none, some ⟨5, w_close, [s_task, s_ch]⟩, none, none, some ⟨6, w_wake, [s_task, s_peer, s_ch, s_case]⟩, none, none, none, some ⟨7, w_default, [s_task]⟩, none, none, none, some ⟨8, w_block, [s_task]⟩, none, none, some ⟨9, w_spawn, [s_task, s_peer, s_case]⟩, none, none, none, some ⟨10, w_end, [s_task]⟩, none, none, some ⟨11, w_fault, [s_task, s_peer, s_code]⟩, none, none, some ⟨21, w_dispatch, [s_worker, s_task]⟩, none, none, some ⟨22, w_ready, [s_worker, s_task]⟩, none, none, some ⟨23, w_preempt, [s_worker, s_task]⟩, none, none, some ⟨24, w_locked, [s_worker, s_task]⟩, none, none, some ⟨25, w_poll, [s_worker, s_task, s_set]⟩, none, none, none, some ⟨26, w_free, [s_worker]⟩, none, none]
def dstOf (j : Nat) : Nat := dsts.getD j 99
def kdOf (j : Nat) : Option Kd := kds.getD j none
def rowOf (j : Nat) : Option Row := rws.getD j none
theorem kd_lt {j : Nat} {k : Kd} (h : kdOf j = some k) : j < 58 := by
  refine Nat.lt_of_not_le fun hh => ?_
  unfold kdOf at h
  rw [List.getD_eq_getElem?_getD, List.getElem?_eq_none (by simpa [kds] using hh)] at h
  cases h
theorem row_lt {j : Nat} {x : Row} (h : rowOf j = some x) : j < 58 := by
  refine Nat.lt_of_not_le fun hh => ?_
  unfold rowOf at h
  rw [List.getD_eq_getElem?_getD, List.getElem?_eq_none (by simpa [rws] using hh)] at h
  cases h
theorem kd_dst0 : ∀ j, j < 58 → (kdOf j).isSome = true → dstOf j ≠ 1 ∧ dstOf j ≠ 3 ∧ dstOf j ≠ 42 ∧ dstOf j ≠ 0 ∧ dstOf j < 43 ∧ (rowOf j).isSome = false ∧ j ≠ 0 ∧ j ≠ 56 ∧ j ≠ 57 := by decide +kernel
theorem kd_dst {j : Nat} {k : Kd} (h : kdOf j = some k) : dstOf j ≠ 1 ∧ dstOf j ≠ 3 ∧ dstOf j ≠ 42 ∧ dstOf j ≠ 0 ∧ dstOf j < 43 ∧ (rowOf j).isSome = false ∧ j ≠ 0 ∧ j ≠ 56 ∧ j ≠ 57 := kd_dst0 j (kd_lt h) (by rw [h]; rfl)
theorem kd_one0 : ∀ i, i < 58 → ∀ j, j < 58 → (kdOf i).isSome = true → (kdOf j).isSome = true → dstOf i = dstOf j → i = j := by decide +kernel
theorem kd_one {i j : Nat} {k k' : Kd} (h : kdOf i = some k) (h' : kdOf j = some k') (hd : dstOf i = dstOf j) : i = j := kd_one0 i (kd_lt h) j (kd_lt h') (by rw [h]; rfl) (by rw [h']; rfl) hd
theorem row_one0 : ∀ i, i < 58 → ∀ j, j < 58 → (rowOf i).isSome = true → (rowOf i).map (·.key) = (rowOf j).map (·.key) → i = j := by decide +kernel
theorem row_one {i j : Nat} {x y : Row} (h : rowOf i = some x) (h' : rowOf j = some y) (hk : x.key = y.key) : i = j := row_one0 i (row_lt h) j (row_lt h') (by rw [h]; rfl) (by rw [h, h']; simp [hk])
theorem row_kd0 : ∀ i, i < 58 → (rowOf i).isSome = true → (kdOf i).isSome = false ∧ i ≠ 0 ∧ i ≠ 56 ∧ i ≠ 57 := by decide +kernel

structure IV (B : Nat) (w0 : World) (own : Nat) (L : Array Bool) (a : Act) (w : World) : Prop where
  below : Below B w0 w
  size : a.tmps.size = 43
  lsize : L.size = 58
  defers : a.defers = []
  one : a.tmps.getD 1 undef = .slice (some ⟨own, 0, none⟩) 2 2
  ownAt : ∃ z, w.heap[own]? = some (.cells #[.string s_worker, .string s_task] 9 z)
  facts : ∀ j k, kdOf j = some k → L.getD j false = true → k.holds own w (a.tmps.getD (dstOf j) undef)
  map : L.getD 0 false = true → ∃ r n es, a.tmps.getD 3 undef = .map (some r) ∧ B ≤ r ∧ w.heap[r]? = some (.map (entsI .u8 es) n) ∧ (∀ e ∈ es, ∃ j x, rowOf j = some x ∧ L.getD j false = true ∧ e.1 = x.key ∧ x.holds w e.2.1) ∧ (∀ j x, rowOf j = some x → L.getD j false = true → ∃ e ∈ es, e.1 = x.key)
  closed : ∀ j, ((rowOf j).isSome = true ∨ j = 56 ∨ j = 57) → L.getD j false = true → L.getD 0 false = true
  end1 : L.getD 56 false = true → a.tmps.getD 42 undef = a.tmps.getD 3 undef
  end2 : L.getD 57 false = true → a.tmps.getD 0 undef = a.tmps.getD 3 undef

theorem IV.put {B : Nat} {w0 w w' : World} {own : Nat} {L : Array Bool} {a : Act} (h : IV B w0 own L a w) (hB : B ≤ w0.heap.size) {i : Nat} {k : Kd} {v : Value} (hk : kdOf i = some k) (hv : k.holds own w' v) (hb : Below w.heap.size w w') :
    IV B w0 own (L.setIfInBounds i true) (a.put (some (dstOf i)) v) w' := by
  obtain ⟨n1, n3, n42, n0, nd, nr, ni0, ni1, ni2⟩ := kd_dst hk
  have hlt : i < L.size := by rw [h.lsize]; exact kd_lt hk
  have hall : ∀ g o, w.heap[g]? = some o → w'.heap[g]? = some o := fun g o ho => by rw [hb.block g (Array.getElem?_eq_some_iff.1 ho).1]; exact ho
  have hkp : Keeps w w' := fun g cs t z ho => hall g _ ho
  have hrow : ∀ {j x}, rowOf j = some x → j ≠ i := fun hj e => by rw [e] at hj; rw [hj] at nr; cases nr
  refine ⟨h.below.trans (hb.mono (Nat.le_trans hB h.below.size)), by rw [Lv.put_size]; exact h.size, by simpa using h.lsize, h.defers, by rw [Lv.put_ne n1.symm]; exact h.one, ?_, fun j q hj hL => ?_, fun hL => ?_, fun j hj hL => ?_, fun hL => ?_, fun hL => ?_⟩
  · obtain ⟨z, ho⟩ := h.ownAt
    exact ⟨z, hall _ _ ho⟩
  · by_cases e : j = i
    · subst e
      rw [hk] at hj
      cases hj
      rw [Lv.put_at (by rw [h.size]; exact nd)]
      exact hv
    · rw [Lv.set_ne e] at hL
      rw [Lv.put_ne (fun e' => e (kd_one hj hk e'))]
      exact Kd.keep hkp (h.facts j q hj hL)
  · rw [Lv.set_ne ni0.symm] at hL
    obtain ⟨r, n, es, h1, h2, h3, h4, h5⟩ := h.map hL
    refine ⟨r, n, es, by rw [Lv.put_ne n3.symm]; exact h1, h2, hall _ _ h3, fun e he => ?_, fun j x hj hL => ?_⟩
    · obtain ⟨j, x, k1, k2, k3, k4⟩ := h4 e he
      exact ⟨j, x, k1, by rw [Lv.set_ne (hrow k1)]; exact k2, k3, Row.keep hkp k4⟩
    · rw [Lv.set_ne (hrow hj)] at hL
      exact h5 j x hj hL
  · have hne : j ≠ i := by
      rintro rfl
      rcases hj with hj | hj | hj
      · rw [hj] at nr; cases nr
      · exact ni1 hj
      · exact ni2 hj
    rw [Lv.set_ne hne] at hL
    rw [Lv.set_ne ni0.symm]
    exact h.closed j hj hL
  · rw [Lv.set_ne ni1.symm] at hL
    rw [Lv.put_ne n42.symm, Lv.put_ne n3.symm]
    exact h.end1 hL
  · rw [Lv.set_ne ni2.symm] at hL
    rw [Lv.put_ne n0.symm, Lv.put_ne n3.symm]
    exact h.end2 hL

theorem IV.make {B : Nat} {w0 w w' : World} {own : Nat} {L : Array Bool} {a : Act} (h : IV B w0 own L a w) (hB : B ≤ w0.heap.size) (hL0 : L.getD 0 false = false) {r : Nat} (hr : B ≤ r) (hm : w'.heap[r]? = some (.map (entsI .u8 []) 0)) (hb : Below w.heap.size w w') :
    IV B w0 own (L.setIfInBounds 0 true) (a.put (some 3) (.map (some r))) w' := by
  have hall : ∀ g o, w.heap[g]? = some o → w'.heap[g]? = some o := fun g o ho => by rw [hb.block g (Array.getElem?_eq_some_iff.1 ho).1]; exact ho
  have hkp : Keeps w w' := fun g cs t z ho => hall g _ ho
  have hno : ∀ j, ((rowOf j).isSome = true ∨ j = 56 ∨ j = 57) → L.getD j false = true → False := fun j hj hL => by
    have := h.closed j hj hL
    rw [hL0] at this
    cases this
  have hn0 : ∀ j, ((rowOf j).isSome = true ∨ j = 56 ∨ j = 57) → j ≠ 0 := by
    rintro j hj rfl
    rcases hj with hj | hj | hj
    · exact absurd hj (by decide +kernel)
    · omega
    · omega
  refine ⟨h.below.trans (hb.mono (Nat.le_trans hB h.below.size)), by rw [Lv.put_size]; exact h.size, by simpa using h.lsize, h.defers, by rw [Lv.put_ne (by decide)]; exact h.one, ?_, fun j q hj hL => ?_, fun hL => ?_, fun j hj hL => ?_, fun hL => ?_, fun hL => ?_⟩
  · obtain ⟨z, ho⟩ := h.ownAt
    exact ⟨z, hall _ _ ho⟩
  · obtain ⟨n1, n3, n42, n0, nd, nr, ni0, ni1, ni2⟩ := kd_dst hj
    rw [Lv.set_ne ni0] at hL
    rw [Lv.put_ne n3]
    exact Kd.keep hkp (h.facts j q hj hL)
  · refine ⟨r, 0, [], Lv.put_at (by rw [h.size]; decide), hr, hm, fun e he => (by cases he), fun j x hj hL => ?_⟩
    rw [Lv.set_ne (hn0 j (.inl (by rw [hj]; rfl)))] at hL
    exact (hno j (.inl (by rw [hj]; rfl)) hL).elim
  · rw [Lv.set_ne (hn0 j hj)] at hL
    exact (hno j hj hL).elim
  · rw [Lv.set_ne (by decide)] at hL
    exact (hno _ (.inr (.inl rfl)) hL).elim
  · rw [Lv.set_ne (by decide)] at hL
    exact (hno _ (.inr (.inr rfl)) hL).elim

theorem findI_none {k : Int} : ∀ {es : List (Int × Value × Nat)} (i : Nat), (∀ e ∈ es, e.1 ≠ k) → findI .u8 k es i = none
  | [], _, _ => rfl
  | (j, v, m) :: es, i, h => by
    rw [findI_cons, if_neg (fun e => h _ List.mem_cons_self e.symm)]
    exact findI_none _ (fun e he => h e (List.mem_cons_of_mem _ he))
theorem findI_some {k : Int} : ∀ {es : List (Int × Value × Nat)} (i : Nat), (∃ e ∈ es, e.1 = k) → ∃ q e, e ∈ es ∧ e.1 = k ∧ findI .u8 k es i = some (q, e.2.1)
  | [], _, h => by obtain ⟨_, h, _⟩ := h; cases h
  | (j, v, m) :: es, i, h => by
    rw [findI_cons]
    by_cases e : k = j
    · rw [if_pos e]
      exact ⟨i, (j, v, m), List.mem_cons_self, e.symm, rfl⟩
    · rw [if_neg e]
      obtain ⟨x, hx, hk⟩ := h
      rcases List.mem_cons.1 hx with rfl | hx
      · exact absurd hk.symm e
      · obtain ⟨q, y, h1, h2, h3⟩ := findI_some (i + 1) ⟨x, hx, hk⟩
        exact ⟨q, y, List.mem_cons_of_mem _ h1, h2, h3⟩
theorem heap_putObj (w : World) (r g : Nat) (o : Obj) (h : g ≠ r) : (w.putObj r o).heap[g]? = w.heap[g]? := by
  simp [World.putObj, Array.getElem?_setIfInBounds, Ne.symm h]
theorem heap_putObj_at (w : World) {r : Nat} (o : Obj) (h : r < w.heap.size) : (w.putObj r o).heap[r]? = some o := by
  simp [World.putObj, Array.getElem?_setIfInBounds, h]
theorem IV.ins {B : Nat} {w0 w : World} {own : Nat} {L : Array Bool} {a : Act} (h : IV B w0 own L a w) {i : Nat} {x : Row} (hx : rowOf i = some x) (hL0 : L.getD 0 false = true) (hLi : L.getD i false = false) {v : Value} (hv : x.holds w v) :
    ∃ r n es, a.tmps.getD 3 undef = .map (some r) ∧ w.heap[r]? = some (.map (entsI .u8 es) n) ∧ findI .u8 x.key es 0 = none ∧
      IV B w0 own (L.setIfInBounds i true) a (w.putObj r (.map (entsI .u8 (es ++ [(x.key, v, n)])) (n + 1))) := by
  obtain ⟨r, n, es, h1, h2, h3, h4, h5⟩ := h.map hL0
  have hrl := (Array.getElem?_eq_some_iff.1 h3).1
  obtain ⟨nk, ni0, ni1, ni2⟩ := row_kd0 i (row_lt hx) (by rw [hx]; rfl)
  have hkp : Keeps w (w.putObj r (.map (entsI .u8 (es ++ [(x.key, v, n)])) (n + 1))) := fun g cs t z ho => by
    have hg : g ≠ r := fun e => by rw [e, h3] at ho; cases ho
    rw [heap_putObj w r g _ hg]
    exact ho
  refine ⟨r, n, es, h1, h3, findI_none 0 (fun e he hk => ?_), ⟨h.below.trans ⟨rfl, rfl, rfl, by simp [World.putObj], fun g hg => heap_putObj w r g _ (by omega)⟩, h.size, by simpa using h.lsize, h.defers, h.one, ?_, fun j q hj hL => ?_, fun hL => ?_, fun j hj hL => ?_, fun hL => ?_, fun hL => ?_⟩⟩
  · obtain ⟨j, y, k1, k2, k3, k4⟩ := h4 e he
    have := row_one k1 hx (k3.symm.trans hk)
    rw [this, hLi] at k2
    cases k2
  · obtain ⟨z, ho⟩ := h.ownAt
    exact ⟨z, hkp _ _ _ _ ho⟩
  · have hne : j ≠ i := fun e => by rw [e] at hj; rw [hj] at nk; cases nk
    rw [Lv.set_ne hne] at hL
    exact Kd.keep hkp (h.facts j q hj hL)
  · refine ⟨r, n + 1, es ++ [(x.key, v, n)], h1, h2, heap_putObj_at w _ hrl, fun e he => ?_, fun j y hj hL => ?_⟩
    · rcases List.mem_append.1 he with he | he
      · obtain ⟨j, y, k1, k2, k3, k4⟩ := h4 e he
        refine ⟨j, y, k1, ?_, k3, Row.keep hkp k4⟩
        rw [Lv.set_ne (fun e => by rw [e, hLi] at k2; cases k2)]
        exact k2
      · rw [List.mem_singleton.1 he]
        exact ⟨i, x, hx, Lv.set_at (by rw [h.lsize]; exact row_lt hx) _, rfl, Row.keep hkp hv⟩
    · by_cases e : j = i
      · subst e
        rw [hx] at hj
        cases hj
        exact ⟨_, List.mem_append_right _ List.mem_cons_self, rfl⟩
      · rw [Lv.set_ne e] at hL
        obtain ⟨z, hz, hk⟩ := h5 j y hj hL
        exact ⟨z, List.mem_append_left _ hz, hk⟩
  · rw [Lv.set_ne ni0.symm]
    exact hL0
  · rw [Lv.set_ne ni1.symm] at hL
    exact h.end1 hL
  · rw [Lv.set_ne ni2.symm] at hL
    exact h.end2 hL
theorem IV.e1 {B : Nat} {w0 w : World} {own : Nat} {L : Array Bool} {a : Act} (h : IV B w0 own L a w) (hL0 : L.getD 0 false = true) : IV B w0 own (L.setIfInBounds 56 true) (a.put (some 42) (a.tmps.getD 3 undef)) w := by
  refine ⟨h.below, by rw [Lv.put_size]; exact h.size, by simpa using h.lsize, h.defers, by rw [Lv.put_ne (by decide)]; exact h.one, h.ownAt, fun j q hj hL => ?_, fun hL => ?_, fun j hj hL => ?_, fun hL => ?_, fun hL => ?_⟩
  · obtain ⟨n1, n3, n42, n0, nd, nr, ni0, ni1, ni2⟩ := kd_dst hj
    rw [Lv.set_ne ni1] at hL
    rw [Lv.put_ne n42]
    exact h.facts j q hj hL
  · obtain ⟨r, n, es, h1, h2, h3, h4, h5⟩ := h.map hL0
    refine ⟨r, n, es, by rw [Lv.put_ne (by decide)]; exact h1, h2, h3, fun e he => ?_, fun j x hj hL => ?_⟩
    · obtain ⟨j, x, k1, k2, k3, k4⟩ := h4 e he
      exact ⟨j, x, k1, by rw [Lv.set_ne (row_kd0 j (row_lt k1) (by rw [k1]; rfl)).2.2.1]; exact k2, k3, k4⟩
    · rw [Lv.set_ne (row_kd0 j (row_lt hj) (by rw [hj]; rfl)).2.2.1] at hL
      exact h5 j x hj hL
  · rw [Lv.set_ne (by decide)]
    exact hL0
  · rw [Lv.put_at (by rw [h.size]; decide), Lv.put_ne (by decide)]
  · rw [Lv.set_ne (by decide)] at hL
    rw [Lv.put_ne (by decide), Lv.put_ne (by decide)]
    exact h.end2 hL
theorem IV.e2 {B : Nat} {w0 w : World} {own : Nat} {L : Array Bool} {a : Act} (h : IV B w0 own L a w) (hL0 : L.getD 0 false = true) (hL1 : L.getD 56 false = true) : IV B w0 own (L.setIfInBounds 57 true) (a.put (some 0) (a.tmps.getD 42 undef)) w := by
  refine ⟨h.below, by rw [Lv.put_size]; exact h.size, by simpa using h.lsize, h.defers, by rw [Lv.put_ne (by decide)]; exact h.one, h.ownAt, fun j q hj hL => ?_, fun hL => ?_, fun j hj hL => ?_, fun hL => ?_, fun hL => ?_⟩
  · obtain ⟨n1, n3, n42, n0, nd, nr, ni0, ni1, ni2⟩ := kd_dst hj
    rw [Lv.set_ne ni2] at hL
    rw [Lv.put_ne n0]
    exact h.facts j q hj hL
  · obtain ⟨r, n, es, h1, h2, h3, h4, h5⟩ := h.map hL0
    refine ⟨r, n, es, by rw [Lv.put_ne (by decide)]; exact h1, h2, h3, fun e he => ?_, fun j x hj hL => ?_⟩
    · obtain ⟨j, x, k1, k2, k3, k4⟩ := h4 e he
      exact ⟨j, x, k1, by rw [Lv.set_ne (row_kd0 j (row_lt k1) (by rw [k1]; rfl)).2.2.2]; exact k2, k3, k4⟩
    · rw [Lv.set_ne (row_kd0 j (row_lt hj) (by rw [hj]; rfl)).2.2.2] at hL
      exact h5 j x hj hL
  · rw [Lv.set_ne (by decide)]
    exact hL0
  · rw [Lv.put_ne (by decide), Lv.put_ne (by decide)]
    exact h.end1 hL1
  · rw [Lv.put_at (by rw [h.size]; decide), Lv.put_ne (by decide)]
    exact h.end1 hL1

end Ef
end Go.Proofs.YtljfloopjgpaeabDoor
