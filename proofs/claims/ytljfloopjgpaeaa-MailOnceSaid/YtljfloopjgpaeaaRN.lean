/- tollbarlaw27.MailOnce. -/
import Derived.Deep.CutRange
import Derived.Deep.DeepCutAuto
import Derived.Deep.CutBlock
import Derived.Test.YtljfloopjgpaeaaRM
import Derived.Test.YtljfloopjgpaeaaRY
import Derived.Test.YtljfloopjgpaeaaMB
import Derived.Test.YtljfloopjgpaeaaRP
namespace Go.Proofs.Ytljfloopjgpaeaa
set_option linter.unusedVariables false
set_option linter.unusedSimpArgs false
open Go.RowKit
attribute [local go_sem] Oper.semAt_some
set_option maxRecDepth 100000

structure StepV where
  op : Int
  task : Int
  c : Int
  v : Int
  ok : Bool
  code : Int
  deriving DecidableEq, Inhabited
def StepV.cells (x : StepV) : List Value := [.int .i64 x.op, .int .i64 x.task, .int .i64 x.c, .int .i64 x.v, .bool x.ok, .int .i64 x.code]
def kStep : Kn StepV := Kn.flat 6 StepV.cells (fun _ => True)
theorem kStep_at {w : World} {A : Option Addr} {n c : Nat} {l : List StepV} (h : kStep.R w (.slice A n c) l) {i : Nat} (hi : i < l.length) :
    ∃ b o, A = some ⟨b, o, none⟩ ∧ b < w.heap.size ∧ w.cell? ⟨b, o + i * 6, none⟩ = some (.int .i64 l[i].op) ∧ w.cell? ⟨b, o + i * 6 + 1, none⟩ = some (.int .i64 l[i].task) ∧
      w.cell? ⟨b, o + i * 6 + 2, none⟩ = some (.int .i64 l[i].c) ∧ w.cell? ⟨b, o + i * 6 + 3, none⟩ = some (.int .i64 l[i].v) ∧ w.cell? ⟨b, o + i * 6 + 4, none⟩ = some (.bool l[i].ok) ∧ w.cell? ⟨b, o + i * 6 + 5, none⟩ = some (.int .i64 l[i].code) := by
  obtain ⟨b, o, cs, hA, hb, ⟨rfl, hp⟩, hc⟩ := h.at hi
  exact ⟨b, o, hA, hb, hc 0 _ rfl, hc 1 _ rfl, hc 2 _ rfl, hc 3 _ rfl, hc 4 _ rfl, hc 5 _ rfl⟩

theorem cells6 {w : World} {b : Nat} {v0 v1 v2 v3 v4 v5 : Value} {t : TypeId} {n : Nat × Nat} (h : w.heap[b]? = some (.cells #[v0, v1, v2, v3, v4, v5] t n)) :
    w.cell? ⟨b, 0, none⟩ = some v0 ∧ w.cell? ⟨b, 1, none⟩ = some v1 ∧ w.cell? ⟨b, 2, none⟩ = some v2 ∧ w.cell? ⟨b, 3, none⟩ = some v3 ∧ w.cell? ⟨b, 4, none⟩ = some v4 ∧ w.cell? ⟨b, 5, none⟩ = some v5 :=
  ⟨Ly.cellAt h 0 rfl, Ly.cellAt h 1 rfl, Ly.cellAt h 2 rfl, Ly.cellAt h 3 rfl, Ly.cellAt h 4 rfl, Ly.cellAt h 5 rfl⟩
abbrev MailT := Int × Int × Bool × Int
def mailV (x : MailT) : Value := .agg #[.int .i64 x.1, .int .i64 x.2.1, .bool x.2.2.1, .int .i64 x.2.2.2]
def oneIf : Bool → Option Value
  | true => some (.int .i64 1)
  | false => none
theorem oneIf_some (b : Bool) : (oneIf b).isSome = b := by cases b <;> rfl
/-- What the two maps and the boxes hold. -/
structure MI (N : Nat) (w0 : World) (B r1 r2 : Nat) (o : Nat → Bool) (m : Nat → Option Nat) (g : Nat → Option MailT) (e1 e2 : List (Int × Value × Nat)) (n1 n2 : Nat) (W : World) : Prop where
  bx : Bxs W B o m
  h1 : W.heap[r1]? = some (.map (entsI .i64 e1) n1)
  h2 : W.heap[r2]? = some (.map (entsI .i64 e2) n2)
  d1 : Dict e1 (fun i => oneIf (o i))
  d2 : Dict e2 (fun i => (g i).map mailV)
  bo : ∀ i, i < 32 → (g i).isSome = (m i).isSome
  op : ∀ i, i < 32 → (m i).isSome = true → o i = true
  ml : ∀ i, i < 32 → ∀ b x, m i = some b → g i = some x → b ≠ B ∧ MailB W b x.1 x.2.1 x.2.2.1 x.2.2.2
  below : Below N w0 W
def MX (N : Nat) (w0 : World) (B r1 r2 : Nat) (W : World) : Prop := ∃ o m g e1 e2 n1 n2, MI N w0 B r1 r2 o m g e1 e2 n1 n2 W
/-- How many wait. -/
theorem MI.count {N : Nat} {w0 : World} {B r1 r2 : Nat} {o : Nat → Bool} {m : Nat → Option Nat} {g : Nat → Option MailT} {e1 e2 : List (Int × Value × Nat)} {n1 n2 : Nat} {W : World} (h : MI N w0 B r1 r2 o m g e1 e2 n1 n2 W) :
    (waitL o m (List.range 32)).length + e2.length = e1.length ∧ e1.length ≤ 32 := by
  have h1 := h.d1.len
  have h2 := h.d2.len
  have hle : e1.length ≤ 32 := by rw [h1]; exact Nat.le_trans (List.length_filter_le _ _) (by simp)
  refine ⟨?_, hle⟩
  rw [h1, h2]
  have key : ∀ l : List Nat, (∀ i ∈ l, i < 32) → (waitL o m l).length + (l.filter fun i => ((g i).map mailV).isSome).length = (l.filter fun i => (oneIf (o i)).isSome).length := by
    intro l
    induction l with
    | nil => intro _; rfl
    | cons i l ih =>
      intro hl
      have ih := ih (fun j hj => hl j (List.mem_cons_of_mem _ hj))
      have hi := hl i (List.mem_cons_self ..)
      have hb := h.bo i hi
      have ho := h.op i hi
      simp only [waitL, List.filter_cons, Option.isSome_map, oneIf_some] at ih ⊢
      have hw : waitB o m i = (o i && !(m i).isSome) := by unfold waitB; cases m i <;> rfl
      by_cases hm : (m i).isSome = true
      · have e0 : waitB o m i = false := by rw [hw, hm]; simp
        simp [e0, ho hm, hb, hm]; omega
      · have hm' : (m i).isSome = false := by simpa using hm
        by_cases ho' : o i = true
        · have e0 : waitB o m i = true := by rw [hw, hm', ho']; rfl
          simp [e0, ho', hb, hm']; omega
        · have ho2 : o i = false := by simpa using ho'
          have e0 : waitB o m i = false := by rw [hw, ho2]; rfl
          simp [e0, ho2, hb, hm']; omega
  exact key _ (fun i hi => List.mem_range.1 hi)
/-- What stays, and what has changed. -/
theorem MI.next {N : Nat} {w0 : World} {B r1 r2 : Nat} {o : Nat → Bool} {m : Nat → Option Nat} {g : Nat → Option MailT} {e1 e2 : List (Int × Value × Nat)} {n1 n2 : Nat} {W W' : World} (h : MI N w0 B r1 r2 o m g e1 e2 n1 n2 W)
    (hk : ∀ k, k < W.heap.size → k ≠ B → k ≠ r1 → k ≠ r2 → W'.heap[k]? = W.heap[k]?) (hbl : Below N w0 W')
    {o' : Nat → Bool} {m' : Nat → Option Nat} {g' : Nat → Option MailT} {e1' e2' : List (Int × Value × Nat)} {n1' n2' : Nat} (bx : Bxs W' B o' m')
    (h1 : W'.heap[r1]? = some (.map (entsI .i64 e1') n1')) (h2 : W'.heap[r2]? = some (.map (entsI .i64 e2') n2')) (d1 : Dict e1' (fun i => oneIf (o' i))) (d2 : Dict e2' (fun i => (g' i).map mailV))
    (bo : ∀ i, i < 32 → (g' i).isSome = (m' i).isSome) (op : ∀ i, i < 32 → (m' i).isSome = true → o' i = true)
    (ml : ∀ i, i < 32 → ∀ b x, m' i = some b → g' i = some x → (m i = some b ∧ g i = some x) ∨ (b ≠ B ∧ MailB W' b x.1 x.2.1 x.2.2.1 x.2.2.2)) : MI N w0 B r1 r2 o' m' g' e1' e2' n1' n2' W' := by
  refine ⟨bx, h1, h2, d1, d2, bo, op, fun i hi b x hb hx => ?_, hbl⟩
  rcases ml i hi b x hb hx with ⟨hm, hg⟩ | hm
  · obtain ⟨hne, hM⟩ := h.ml i hi b x hm hg
    refine ⟨hne, ?_⟩
    have hl : b < W.heap.size := (Array.getElem?_eq_some_iff.1 hM).1
    unfold MailB at hM ⊢
    rw [hk b hl hne (fun e => by rw [e, h.h1] at hM; cases hM) (fun e => by rw [e, h.h2] at hM; cases hM)]
    exact hM
  · exact hm
theorem MI.keep {N : Nat} {w0 : World} {B r1 r2 : Nat} {o : Nat → Bool} {m : Nat → Option Nat} {g : Nat → Option MailT} {e1 e2 : List (Int × Value × Nat)} {n1 n2 : Nat} {W W' : World} (h : MI N w0 B r1 r2 o m g e1 e2 n1 n2 W)
    (hN : N ≤ W.heap.size) (hb : Below W.heap.size W W') : MI N w0 B r1 r2 o m g e1 e2 n1 n2 W' :=
  h.next (fun k hk _ _ _ => hb.block k hk) (h.below.trans (hb.mono hN)) (h.bx.below hb) ((hb.block _ (Array.getElem?_eq_some_iff.1 h.h1).1).trans h.h1) ((hb.block _ (Array.getElem?_eq_some_iff.1 h.h2).1).trans h.h2) h.d1 h.d2 h.bo h.op (fun _ _ _ _ hb hx => .inl ⟨hb, hx⟩)

theorem OnlyB.low {N B : Nat} {W W' : World} (h : OnlyB B W W') (hN : N ≤ B) (hs : N ≤ W.heap.size) : Below N W W' :=
  ⟨h.os, h.tape, h.output, h.size, fun k hk => h.block k (by omega) (by omega)⟩
theorem MI.only {N : Nat} {w0 : World} {B r1 r2 : Nat} {o : Nat → Bool} {m : Nat → Option Nat} {g : Nat → Option MailT} {e1 e2 : List (Int × Value × Nat)} {n1 n2 : Nat} {W W' : World} (h : MI N w0 B r1 r2 o m g e1 e2 n1 n2 W)
    (hs : N ≤ W.heap.size) (hN : N ≤ B) (hr1 : r1 ≠ B) (hr2 : r2 ≠ B) (ho : OnlyB B W W') (hb : Bxs W' B o m) : MI N w0 B r1 r2 o m g e1 e2 n1 n2 W' :=
  h.next (fun k hk h1 _ _ => ho.block k hk h1) (h.below.trans (ho.low hN hs)) hb ((ho.block _ (Array.getElem?_eq_some_iff.1 h.h1).1 hr1).trans h.h1) ((ho.block _ (Array.getElem?_eq_some_iff.1 h.h2).1 hr2).trans h.h2) h.d1 h.d2 h.bo h.op (fun _ _ _ _ hb hx => .inl ⟨hb, hx⟩)
/-- What the maps answer. -/
def mailZ : MailT := (0, 0, false, 0)
theorem MI.ask2 {N : Nat} {w0 : World} {B r1 r2 : Nat} {o : Nat → Bool} {m : Nat → Option Nat} {g : Nat → Option MailT} {e1 e2 : List (Int × Value × Nat)} {n1 n2 : Nat} {W : World} (h : MI N w0 B r1 r2 o m g e1 e2 n1 n2 W) (k : Int) :
    ∃ x : MailT, ∃ had : Bool, (Instr.lookup 27 (.map (some r2)) (.int .i64 k) true).run Try.prog W = .ok (.tuple #[.agg #[.int .i64 x.1, .int .i64 x.2.1, .bool x.2.2.1, .int .i64 x.2.2.2], .bool had]) W ∧
      (∀ i : Nat, i < 32 → k = (i : Int) → had = (g i).isSome ∧ (∀ y, g i = some y → x = y)) ∧ (¬ (0 ≤ k ∧ k < 32) → had = false) := by
  have hz : ∀ w, (zeroValue 30).run Try.prog w = .ok (mailV mailZ) w := fun w => Try.zeroValue30 w
  have ha := run_mapAsk (P := Try.prog) Try.underlying27 Try.underlying3 hz h.h2 k
  by_cases hk : 0 ≤ k ∧ k < 32
  · obtain ⟨i, rfl⟩ : ∃ i : Nat, k = i := ⟨k.toNat, by omega⟩
    have hi : i < 32 := by omega
    cases hg : g i with
    | none =>
      rw [h.d2.findNone .i64 (k := (i : Int)) (fun j _ e => by rw [← (show i = j by omega), hg]; rfl)] at ha
      exact ⟨mailZ, false, ha, fun j hj e => by rw [← (show i = j by omega), hg]; exact ⟨rfl, fun _ h => by cases h⟩, fun hn => absurd hk hn⟩
    | some y =>
      obtain ⟨j, hf⟩ := h.d2.find .i64 hi (v := mailV y) (by rw [hg]; rfl)
      rw [hf] at ha
      exact ⟨y, true, ha, fun j hj e => by rw [← (show i = j by omega), hg]; exact ⟨rfl, fun _ h => by injection h⟩, fun hn => absurd hk hn⟩
  · rw [h.d2.findNone .i64 (k := k) (fun j hj e => by omega)] at ha
    exact ⟨mailZ, false, ha, fun i hi e => by omega, fun _ => rfl⟩
theorem MI.ask1 {N : Nat} {w0 : World} {B r1 r2 : Nat} {o : Nat → Bool} {m : Nat → Option Nat} {g : Nat → Option MailT} {e1 e2 : List (Int × Value × Nat)} {n1 n2 : Nat} {W : World} (h : MI N w0 B r1 r2 o m g e1 e2 n1 n2 W) (k : Int) :
    ∃ x : Int, (Instr.lookup 26 (.map (some r1)) (.int .i64 k) false).run Try.prog W = .ok (.int .i64 x) W ∧ (∀ i : Nat, i < 32 → k = (i : Int) → x = if o i then 1 else 0) ∧ (¬ (0 ≤ k ∧ k < 32) → x = 0) := by
  have hz : ∀ w, (zeroValue 3).run Try.prog w = .ok (.int .i64 0) w := fun w => Try.zeroValue3 w
  have ha := run_mapAsk1 (P := Try.prog) Try.underlying26 Try.underlying3 hz h.h1 k
  by_cases hk : 0 ≤ k ∧ k < 32
  · obtain ⟨i, rfl⟩ : ∃ i : Nat, k = i := ⟨k.toNat, by omega⟩
    have hi : i < 32 := by omega
    cases hg : o i with
    | false =>
      rw [h.d1.findNone .i64 (k := (i : Int)) (fun j _ e => by rw [← (show i = j by omega), hg]; rfl)] at ha
      exact ⟨0, ha, fun j hj e => by rw [← (show i = j by omega), hg]; rfl, fun hn => absurd hk hn⟩
    | true =>
      obtain ⟨j, hf⟩ := h.d1.find .i64 hi (v := .int .i64 1) (by rw [hg]; rfl)
      rw [hf] at ha
      exact ⟨1, ha, fun j hj e => by rw [← (show i = j by omega), hg]; rfl, fun hn => absurd hk hn⟩
  · rw [h.d1.findNone .i64 (k := k) (fun j hj e => by omega)] at ha
    exact ⟨0, ha, fun i hi e => by omega, fun _ => rfl⟩
/-- What Put comes to, if it is not taken. -/
def PutNo (o : Nat → Bool) (m : Nat → Option Nat) (x : StepV) : Prop := ¬ (0 ≤ x.task ∧ x.task < 32) ∨ ∃ i : Nat, i < 32 ∧ x.task = i ∧ (mayB x.c x.v x.ok x.code = false ∨ o i = false ∨ ∃ b, m i = some b)
theorem put_no {w : World} {B : Nat} {o : Nat → Bool} {m : Nat → Option Nat} (h : Bxs w B o m) {op task c v : Int} {ok : Bool} {code : Int} (hn : PutNo o m ⟨op, task, c, v, ok, code⟩) :
    Calls Try.prog 16 #[.pointer (some ⟨B, 0, none⟩), .int .i64 task, .agg #[.int .i64 c, .int .i64 v, .bool ok, .int .i64 code]] w fun e w' => ∃ cc : Int, e = .returned (.int .i64 cc) ∧ (cc == 0) = false ∧ Bxs w' B o m ∧ OnlyB B w w' := by
  rcases hn with hn | ⟨i, hi, rfl, hn⟩
  · exact (put_out h.lt task hn c v ok code).mono fun e w' ⟨he, hb⟩ => ⟨2, he, rfl, h.below hb, OnlyB.of_below hb⟩
  · cases hmay : mayB c v ok code with
    | false => exact (put_bad h i hi c v ok code hmay).mono fun e w' ⟨he, hb, ho⟩ => ⟨2, he, rfl, hb, ho⟩
    | true =>
      cases ho : o i with
      | false => exact (put_closed h i hi c v ok code hmay ho).mono fun e w' ⟨he, hb, ho⟩ => ⟨3, he, rfl, hb, ho⟩
      | true =>
        rcases hn with hn | hn | ⟨b, hm⟩
        · dsimp only at hn; rw [hmay] at hn; cases hn
        · rw [ho] at hn; cases hn
        · exact (put_have h i hi c v ok code hmay ho b hm).mono fun e w' ⟨he, hb, ho⟩ => ⟨9, he, rfl, hb, ho⟩
theorem put_yes {o : Nat → Bool} {m : Nat → Option Nat} {x : StepV} (h : ¬ PutNo o m x) : ∃ i : Nat, i < 32 ∧ x.task = i ∧ mayB x.c x.v x.ok x.code = true ∧ o i = true ∧ m i = none := by
  unfold PutNo at h
  by_cases hk : 0 ≤ x.task ∧ x.task < 32
  · refine ⟨x.task.toNat, by omega, by omega, ?_⟩
    have hh := fun hx => h (.inr ⟨x.task.toNat, by omega, by omega, hx⟩)
    refine ⟨?_, ?_, ?_⟩
    · cases e : mayB x.c x.v x.ok x.code
      · exact absurd (.inl e) hh
      · rfl
    · cases e : o x.task.toNat
      · exact absurd (.inr (.inl e)) hh
      · rfl
    · cases e : m x.task.toNat with
      | none => rfl
      | some b => exact absurd (.inr (.inr ⟨b, e⟩)) hh
  · exact absurd (.inl hk) h
theorem Bxs.put {w : World} {B : Nat} {o : Nat → Bool} {m : Nat → Option Nat} (h : Bxs w B o m) {k : Nat} (hk : k ≠ B) (x : Obj) : Bxs (w.putObj k x) B o m := by
  have e : (w.putObj k x).heap[B]? = w.heap[B]? := World.putObj_heap_other (Ne.symm hk)
  refine ⟨by simpa using h.lt, fun i hi => ?_, fun i hi => ?_, fun i => ?_⟩
  · rw [← h.op i hi]; simp only [World.cell?, e]
  · rw [← h.ml i hi]; simp only [World.cell?, e]
  · rw [← h.fr i]; simp only [World.frozen?, e]
theorem putObj_low {N k : Nat} {w0 w : World} (h : Below N w0 w) (hk : N ≤ k) (x : Obj) : Below N w0 (w.putObj k x) :=
  h.trans ⟨rfl, rfl, rfl, by simp, fun i hi => World.putObj_heap_other (by omega)⟩
theorem Dict.ask {W : World} {r n : Nat} {es : List (Int × Value × Nat)} {o : Nat → Bool} (hd : Dict es (fun i => oneIf (o i))) (h1 : W.heap[r]? = some (.map (entsI .i64 es) n)) {i : Nat} (hi : i < 32) (hoi : o i = true) :
    (Instr.lookup 26 (.map (some r)) (.int .i64 i) false).run Try.prog W = .ok (.int .i64 1) W := by
  have hz : ∀ w, (zeroValue 3).run Try.prog w = .ok (.int .i64 0) w := fun w => Try.zeroValue3 w
  have ha := run_mapAsk1 (P := Try.prog) Try.underlying26 Try.underlying3 hz h1 i
  obtain ⟨j, hf⟩ := hd.find .i64 hi (v := .int .i64 1) (by rw [hoi]; rfl)
  rw [hf] at ha
  exact ha
theorem Dict.put2 {W : World} {r n : Nat} {es : List (Int × Value × Nat)} {d : Nat → Option Value} (hd : Dict es d) (h2 : W.heap[r]? = some (.map (entsI .i64 es) n)) {i : Nat} (hi : d i = none) (v : Value) :
    (Instr.mapUpdate 27 (.map (some r)) (.int .i64 i) v).run Try.prog W = .ok () (W.putObj r (.map (entsI .i64 (es ++ [((i : Int), v, n)])) (n + 1))) :=
  run_mapPut Try.underlying27 Try.underlying3 h2 i v (hd.findNone .i64 (fun j _ e => (show i = j by omega) ▸ hi))
/-- A box more has mail. -/
theorem MI.gets {N : Nat} {w0 : World} {B r1 r2 : Nat} {o : Nat → Bool} {m : Nat → Option Nat} {g : Nat → Option MailT} {e1 e2 : List (Int × Value × Nat)} {n1 n2 : Nat} {W W' : World} (h : MI N w0 B r1 r2 o m g e1 e2 n1 n2 W)
    (hs : N ≤ W.heap.size) (hN : N ≤ B) (hB : B < W.heap.size) (hr : N ≤ r2) (hr1 : r1 ≠ B) (hr2 : r2 ≠ B) (hr12 : r1 ≠ r2) (ho : OnlyB B W W') {i : Nat} (hi : i < 32) (hoi : o i = true) (hmi : m i = none) {nb : Nat} (hn : W.heap.size ≤ nb) {x : MailT} (hM : MailB W' nb x.1 x.2.1 x.2.2.1 x.2.2.2) (hb : Bxs W' B o (updF m i (some nb))) :
    MI N w0 B r1 r2 o (updF m i (some nb)) (updF g i (some x)) e1 (e2 ++ [((i : Int), mailV x, n2)]) n1 (n2 + 1) (W'.putObj r2 (.map (entsI .i64 (e2 ++ [((i : Int), mailV x, n2)])) (n2 + 1))) := by
  have hl1 := (Array.getElem?_eq_some_iff.1 h.h1).1
  have hl2 := (Array.getElem?_eq_some_iff.1 h.h2).1
  have hgi : g i = none := by have := h.bo i hi; rw [hmi] at this; cases hg : g i; rfl; rw [hg] at this; cases this
  refine h.next (fun k hk k1 _ k3 => (World.putObj_heap_other k3).trans (ho.block k hk k1)) (putObj_low (h.below.trans (ho.low hN hs)) hr _) (hb.put hr2 _)
    ((World.putObj_heap_other hr12).trans ((ho.block _ hl1 hr1).trans h.h1)) (World.putObj_heap_same (Nat.lt_of_lt_of_le hl2 ho.size)) h.d1
    ((h.d2.put hi (by simp [hgi]) (mailV x) n2).congr (fun j hj => ?_)) (fun j hj => ?_) (fun j hj hm => ?_) (fun j hj b y hb hy => ?_)
  · by_cases e : j = i <;> simp [updF, e]
  · by_cases e : j = i
    · simp [updF, e]
    · simp [updF, e]; exact h.bo j hj
  · by_cases e : j = i
    · rw [e]; exact hoi
    · simp [updF, e] at hm; exact h.op j hj (by simpa using hm)
  · by_cases e : j = i
    · simp [updF, e] at hb hy
      subst hb hy
      refine .inr ⟨by omega, ?_⟩
      unfold MailB at hM ⊢
      rw [World.putObj_heap_other (by omega)]
      exact hM
    · simp [updF, e] at hb hy; exact .inl ⟨hb, hy⟩
theorem Dict.strike {W : World} {r n : Nat} {mt et : TypeId} (hm : Try.prog.underlying mt = some (.map 3 et)) {es : List (Int × Value × Nat)} (h2 : W.heap[r]? = some (.map (entsI .i64 es) n)) {k : Int} {j : Nat} {v : Value} (hf : findI .i64 k es 0 = some (j, v)) (ty : TypeId) :
    (Builtin.delete_ #[mt, 3] ty #[.map (some r), .int .i64 k]).run Try.prog W = .ok (.tuple #[]) (W.putObj r (.map (entsI .i64 (es.eraseIdx j)) n)) :=
  run_mapDel hm Try.underlying3 h2 k hf
/-- A box less. -/
theorem MI.loses {N : Nat} {w0 : World} {B r1 r2 : Nat} {o : Nat → Bool} {m : Nat → Option Nat} {g : Nat → Option MailT} {e1 e2 : List (Int × Value × Nat)} {n1 n2 : Nat} {W W' : World} (h : MI N w0 B r1 r2 o m g e1 e2 n1 n2 W)
    (hs : N ≤ W.heap.size) (hN : N ≤ B) (hr : N ≤ r1 ∧ N ≤ r2) (hr1 : r1 ≠ B) (hr2 : r2 ≠ B) (hr12 : r1 ≠ r2) (ho : OnlyB B W W') {i : Nat} (hb : Bxs W' B (updF o i false) (updF m i none)) {j1 j2 : Nat} {v1 v2 : Value} (hf1 : findI .i64 i e1 0 = some (j1, v1)) (hf2 : findI .i64 i e2 0 = some (j2, v2)) (X : Obj) :
    MI N w0 B r1 r2 (updF o i false) (updF m i none) (updF g i none) (e1.eraseIdx j1) (e2.eraseIdx j2) n1 n2 (((W'.alloc X).putObj r2 (.map (entsI .i64 (e2.eraseIdx j2)) n2)).putObj r1 (.map (entsI .i64 (e1.eraseIdx j1)) n1)) := by
  have hl1 := (Array.getElem?_eq_some_iff.1 h.h1).1
  have hl2 := (Array.getElem?_eq_some_iff.1 h.h2).1
  have hz := ho.size
  refine h.next (fun k hk k1 k2 k3 => (World.putObj_heap_other k2).trans ((World.putObj_heap_other k3).trans ((Below.heap_alloc _ _ _ (by omega)).trans (ho.block k hk k1)))) (putObj_low (putObj_low ((h.below.trans (ho.low hN hs)).alloc (by omega) _) hr.2 _) hr.1 _) (((alloc_one hb _).put hr2 _).put hr1 _)
    (World.putObj_heap_same (by simp; omega)) ((World.putObj_heap_other (Ne.symm hr12)).trans (World.putObj_heap_same (by simp; omega))) ((h.d1.del hf1).congr (fun j hj => ?_))
    ((h.d2.del hf2).congr (fun j hj => ?_)) (fun j hj => ?_) (fun j hj hm => ?_) (fun j hj b y hb hy => ?_)
  · by_cases e : j = i <;> simp [updF, e, oneIf]
  · by_cases e : j = i <;> simp [updF, e]
  · by_cases e : j = i
    · simp [updF, e]
    · simp [updF, e]; exact h.bo j hj
  · by_cases e : j = i
    · simp [updF, e] at hm
    · simp [updF, e] at hm ⊢; exact h.op j hj (by simpa using hm)
  · by_cases e : j = i
    · simp [updF, e] at hb
    · simp [updF, e] at hb hy; exact .inl ⟨hb, hy⟩
/-- What Take comes to, if there is none. -/
theorem take_no {w : World} {B : Nat} {o : Nat → Bool} {m : Nat → Option Nat} (h : Bxs w B o m) {task : Int} (hn : ¬ (0 ≤ task ∧ task < 32) ∨ ∃ i : Nat, i < 32 ∧ task = i ∧ m i = none) :
    Calls Try.prog 17 #[.pointer (some ⟨B, 0, none⟩), .int .i64 task] w fun e w' => ∃ cc : Int, e = .returned (.tuple #[.agg #[.int .i64 0, .int .i64 0, .bool false, .int .i64 0], .int .i64 cc]) ∧ (cc == 0) = false ∧ Bxs w' B o m ∧ OnlyB B w w' := by
  rcases hn with hn | ⟨i, hi, rfl, hn⟩
  · exact (take_out h.lt task hn).mono fun e w' ⟨he, hb⟩ => ⟨2, he, rfl, h.below hb, OnlyB.of_below hb⟩
  · exact (take_none h i hi hn).mono fun e w' ⟨he, hb, ho⟩ => ⟨3, he, rfl, hb, ho⟩

/-- What a region keeps but for the boxes. -/
def Kept (B : Nat) (W1 w : World) : Prop := W1.heap.size ≤ w.heap.size ∧ ∀ k, k < W1.heap.size → k ≠ B → w.heap[k]? = W1.heap[k]?
theorem Kept.stable (B : Nat) (W1 : World) : Ly.Stable (Kept B W1) := fun w w' h hb => ⟨Nat.le_trans h.1 hb.size, fun k hk hne => (hb.block k (Nat.lt_of_lt_of_le hk h.1)).trans (h.2 k hk hne)⟩
theorem Kept.apart {B : Nat} {W1 w w' : World} (h : Kept B W1 w) (ha : Ly.Apart (fun k => k = B) w w') : Kept B W1 w' := ⟨Nat.le_trans h.1 ha.size, fun k hk hne => (ha.block k (Nat.lt_of_lt_of_le hk h.1) hne).trans (h.2 k hk hne)⟩
theorem II_add {B : Nat} {w0 w : World} {s : Ly.St} {φ : World → Prop} (h : Ly.II B w0 s w) (hφ : Ly.Stable φ) (hw : φ w) : Ly.II B w0 (s.add φ) w := ⟨⟨h.1.below, h.1.holds, h.1.more, hw⟩, h.2.add hφ⟩
theorem open_no {w : World} {B : Nat} {o : Nat → Bool} {m : Nat → Option Nat} (h : Bxs w B o m) {task : Int} (hn : ¬ (0 ≤ task ∧ task < 32)) :
    Calls Try.prog 15 #[.pointer (some ⟨B, 0, none⟩), .int .i64 task] w fun e w' => e = .returned (.int .i64 2) ∧ Bxs w' B o m ∧ OnlyB B w w' :=
  (open_out h.lt task hn).mono fun e w' ⟨he, hw⟩ => by subst hw; exact ⟨he, h, OnlyB.refl _ _⟩
theorem MI.opens {N : Nat} {w0 : World} {B r1 r2 : Nat} {o : Nat → Bool} {m : Nat → Option Nat} {g : Nat → Option MailT} {e1 e2 : List (Int × Value × Nat)} {n1 n2 : Nat} {W W' : World} (h : MI N w0 B r1 r2 o m g e1 e2 n1 n2 W)
    (hr : N ≤ r1) (hr1 : r1 ≠ B) (hr2 : r2 ≠ B) (hr12 : r1 ≠ r2) (hk : Kept B W W') (hbl : Below N w0 W') {i : Nat} (hi : i < 32) (hb : Bxs W' B (updF o i true) m) {e1' : List (Int × Value × Nat)} {n1' : Nat} (hd : Dict e1' (updF (fun i => oneIf (o i)) i (some (.int .i64 1)))) :
    MI N w0 B r1 r2 (updF o i true) m g e1' e2 n1' n2 (W'.putObj r1 (.map (entsI .i64 e1') n1')) := by
  have hl1 := (Array.getElem?_eq_some_iff.1 h.h1).1
  have hl2 := (Array.getElem?_eq_some_iff.1 h.h2).1
  have hz := hk.1
  refine h.next (fun k kk k1 k2 _ => (World.putObj_heap_other k2).trans (hk.2 k kk k1)) (putObj_low hbl hr _) (hb.put hr1 _) (World.putObj_heap_same (by omega))
    ((World.putObj_heap_other (Ne.symm hr12)).trans ((hk.2 _ hl2 hr2).trans h.h2)) (hd.congr (fun j hj => ?_)) h.d2 h.bo (fun j hj hm => ?_) (fun _ _ _ _ hb hx => .inl ⟨hb, hx⟩)
  · by_cases e : j = i <;> simp [updF, e, oneIf]
  · by_cases e : j = i
    · simp [updF, e]
    · simp [updF, e]; exact h.op j hj hm
theorem MI.kept {N : Nat} {w0 : World} {B r1 r2 : Nat} {o : Nat → Bool} {m : Nat → Option Nat} {g : Nat → Option MailT} {e1 e2 : List (Int × Value × Nat)} {n1 n2 : Nat} {W W' : World} (h : MI N w0 B r1 r2 o m g e1 e2 n1 n2 W)
    (hr1 : r1 ≠ B) (hr2 : r2 ≠ B) (hk : Kept B W W') (hbl : Below N w0 W') (hb : Bxs W' B o m) : MI N w0 B r1 r2 o m g e1 e2 n1 n2 W' :=
  h.next (fun k kk k1 _ _ => hk.2 k kk k1) hbl hb ((hk.2 _ (Array.getElem?_eq_some_iff.1 h.h1).1 hr1).trans h.h1) ((hk.2 _ (Array.getElem?_eq_some_iff.1 h.h2).1 hr2).trans h.h2) h.d1 h.d2 h.bo h.op (fun _ _ _ _ hb hx => .inl ⟨hb, hx⟩)

set_option maxHeartbeats 4000000 in
theorem mailOnce_any {w : World} {v : Value} {l : List StepV} (h : kStep.R w v l) : Calls Try.prog 3 #[v] w fun e w' => e = .returned (.bool true) ∧ Below w.heap.size w w' := by
  obtain ⟨A, c, rfl, hlc, hcm, hlr⟩ := h.val
  have hlm : c ≤ 9223372036854775807 := by unfold maxLen at hcm; omega
  have HL := Lib.hid h
  clear h
  by_cases hl : 300 < l.length
  · have hd : decide ((l.length : Int) > 300) = true := by simp; omega
    go_enter Try.func3, Try.ntmps3
    go_wp2_with (go_at_call 13; (with_reducible refine (alive27_any _).mono ?_); rintro e w' ⟨rfl, hb⟩)
    go_ret
    exact ⟨rfl, hb⟩
  · have hd : decide ((l.length : Int) > 300) = false := by simp; omega
    go_enter Try.func3, Try.ntmps3
    have hmm : ∀ (w : World), (Instr.makeMap 26 none).run Try.prog w = .ok (.map (some w.heap.size)) (w.alloc (.map (entsI .i64 []) 0)) := fun w => run_makeMap_plain w _
    have hmm2 : ∀ (w : World), (Instr.makeMap 27 none).run Try.prog w = .ok (.map (some w.heap.size)) (w.alloc (.map (entsI .i64 []) 0)) := fun w => run_makeMap_plain w _
    go_upto_region 4 with (go_at_call 14; (with_reducible refine (new_any _).mono ?_); rintro e w1 ⟨rfl, hbx, hb1⟩)
    have hlt := hbx.lt
    have hM0 : MI w.heap.size w w.heap.size w1.heap.size (w1.heap.size + 1) (fun _ => false) (fun _ => none) (fun _ => none) [] [] 0 0 ((w1.alloc (.map (entsI .i64 []) 0)).alloc (.map (entsI .i64 []) 0)) :=
      ⟨alloc_one (alloc_one hbx _) _, (Below.heap_alloc _ _ _ (by simp)).trans (World.alloc_heap_new w1 _), by have := World.alloc_heap_new (w1.alloc (.map (entsI .i64 []) 0)) (.map (entsI .i64 []) 0); rwa [World.size_alloc] at this,
        Dict.nil, Dict.nil, fun _ _ => rfl, fun _ _ h => (by cases h), fun _ _ _ _ h => (by cases h), (hb1.alloc (by omega) _).alloc (by simp; omega) _⟩
    have HM0 := Lib.hid hM0
    clear hM0 hbx
    go_upto_region 6 with fail
    generalize hR : w1.heap.size = R at *
    go_wp2_with fail
    go_loopw [6] (fun i wr => ∃ k : Nat, k ≤ l.length ∧ i = .int .i64 k ∧ MX w.heap.size w w.heap.size R (R + 1) wr) (fun i _ => l.length - (intOf i).toNat)
    case atStart => exact ⟨0, Nat.zero_le _, rfl, _, _, _, _, _, _, _, HM0.out⟩
    case round =>
      obtain ⟨k, hk, rfl, hm⟩ := hrel
      obtain ⟨o, m, g, e1, e2, n1, n2, hM⟩ := hm
      by_cases hk2 : k < l.length
      · have hdk : decide ((k : Int) < (l.length : Int)) = true := by simp; omega
        obtain ⟨b, off, rfl, hbl, s0, s1, s2, s3, s4, s5⟩ := kStep_at (HL.out.keep hM.below) hk2
        obtain ⟨⟨op, task, c, v, ok, code⟩, hx⟩ : ∃ x, x = l[k] := ⟨_, rfl⟩
        rw [← hx] at s0 s1 s2 s3 s4 s5
        dsimp only at s0 s1 s2 s3 s4 s5
        have hNs : w.heap.size ≤ wr.heap.size := hM.below.size
        have hM1 := hM.keep hNs ((Below.refl _ wr).alloc (Nat.le_refl _) (.cells #[.int .i64 op, .int .i64 task, .int .i64 c, .int .i64 v, .bool ok, .int .i64 code] 32))
        have HM1 := Lib.hid hM1
        clear hM1 hx
        have HM := Lib.hid hM
        clear hM
        go_upto_block 2 with fail
        go_cut [] (fun wx => MX w.heap.size w w.heap.size R (R + 1) wx)
        case first =>
          have hD := alloc_its wr (.cells #[.int .i64 op, .int .i64 task, .int .i64 c, .int .i64 v, .bool ok, .int .i64 code] 32 (0, 0))
          have hRD : R + 1 < wr.heap.size := (Array.getElem?_eq_some_iff.1 HM.out.h2).1
          have hBD : w.heap.size < wr.heap.size := HM.out.bx.lt
          clear s0 s1 s2 s3 s4 s5 HM hbl hNs
          generalize wr.alloc (.cells #[.int .i64 op, .int .i64 task, .int .i64 c, .int .i64 v, .bool ok, .int .i64 code] 32) = W1 at *
          generalize wr.heap.size = D at *
          have hDl : D < W1.heap.size := (Array.getElem?_eq_some_iff.1 hD).1
          obtain ⟨d0, d1, d2, d3, d4, d5⟩ := cells6 hD
          by_cases p0 : op = 0
          · subst p0
            obtain ⟨xB, hxB, hXB⟩ := HM1.out.bx.got
            have HX := Lib.hid hXB
            by_cases hin : 0 ≤ task ∧ task < 32
            · obtain ⟨i, rfl⟩ : ∃ i : Nat, task = i := ⟨task.toNat, by omega⟩
              have hi : i < 32 := by omega
              have g0 : decide ((i : Int) ≥ 0) = true := by simp
              have g1 : decide ((i : Int) < 32) = true := by simp; omega
              cases hoi : o i
              · have hask : ∀ W : World, W.heap[R]? = some (.map (entsI .i64 e1) n1) → (Instr.lookup 26 (.map (some R)) (.int .i64 i) false).run Try.prog W = .ok (.int .i64 0) W := fun W hW => by
                  have ha := run_mapAsk1 (P := Try.prog) Try.underlying26 Try.underlying3 (z := .int .i64 0) (fun w => Try.zeroValue3 w) hW i
                  rw [HM1.out.d1.findNone .i64 (k := (i : Int)) (fun j _ e => by rw [← (show i = j by omega), hoi]; rfl)] at ha
                  exact ha
                have HASK := Lib.hid hask
                have HOI := Lib.hid hoi
                have HIN := Lib.hid ((((II_add ((Ly.II.nil HM1.out.below).frz (fun k => k = R ∨ k = D)) (Kept.stable w.heap.size W1) ⟨Nat.le_refl _, fun _ _ _ => rfl⟩).put (Nat.le_refl _) hxB).put (by omega) HM1.out.h1).put (g := D) (by omega) hD)
                clear hask hxB hXB hoi
                go_upto_region 12 with fail
                refine Ly.regionS (by kernel_rfl) (by kernel_rfl) HIN.out.1 HIN.out.2 (by simp only [List.size_toArray, List.length_cons, List.length_nil, Nat.reduceAdd]; rfl) (fun O Z hO hZ => ?_); have HO := Lib.hid hO; clear hO
                first
                  | (apply Ly.kp HO 0; (case hx => exact ⟨rfl, rfl, rfl⟩); (case hk => decide +kernel); (case hv => intro w_ hw_; (go_simp <;> first | with_reducible rfl | exact ⟨rfl, rfl⟩)); simp only [Act.put, Ly.p1, Ly.p2, Ly.p3])
                first
                  | (apply Ly.kp HO 1; (case hx => exact ⟨rfl, rfl, rfl⟩); (case hk => decide +kernel); (case hv => intro w_ hw_; (go_simp <;> first | with_reducible rfl | exact ⟨rfl, rfl⟩)); simp only [Act.put, Ly.p1, Ly.p2, Ly.p3])
                first
                  | (apply Ly.kf HO 2; (case hx => exact ⟨rfl, rfl, rfl⟩); (case hk => decide +kernel); (case hv => intro w_ hw_ hF_; have P_ := hF_ D _ (Or.inr rfl) (by (repeat (first | exact Ly.ua _ _ _ | rw [Ly.un _ _ (by omega)] | rw [Ly.am]))); obtain ⟨c0, c1, c2, c3, c4, c5⟩ := cells6 P_; clear P_; (go_simp <;> first | with_reducible rfl | exact ⟨rfl, rfl⟩)); simp only [Act.put, Ly.p1, Ly.p2, Ly.p3])
                first
                  | (apply Ly.kp HO 5; (case hx => exact ⟨rfl, rfl, rfl⟩); (case hk => decide +kernel); (case hv => intro w_ hw_; (go_simp <;> first | with_reducible rfl | exact ⟨rfl, rfl⟩)); simp only [Act.put, Ly.p1, Ly.p2, Ly.p3])
                first
                  | (apply Ly.kp HO 6; (case hx => exact ⟨rfl, rfl, rfl⟩); (case hk => decide +kernel); (case hv => intro w_ hw_; (go_simp <;> first | with_reducible rfl | exact ⟨rfl, rfl⟩)); simp only [Act.put, Ly.p1, Ly.p2, Ly.p3])
                first
                  | (apply Ly.kf HO 7; (case hx => exact ⟨rfl, rfl, rfl⟩); (case hk => decide +kernel); (case hv => intro w_ hw_ hF_; have P_ := hF_ D _ (Or.inr rfl) (by (repeat (first | exact Ly.ua _ _ _ | rw [Ly.un _ _ (by omega)] | rw [Ly.am]))); obtain ⟨c0, c1, c2, c3, c4, c5⟩ := cells6 P_; clear P_; (go_simp <;> first | with_reducible rfl | exact ⟨rfl, rfl⟩)); simp only [Act.put, Ly.p1, Ly.p2, Ly.p3])
                first
                  | (apply Ly.kf HO 8; (case hx => exact ⟨rfl, rfl, rfl⟩); (case hk => decide +kernel); (case hv => intro w_ hw_ hF_; have P_ := hF_ R _ (Or.inl rfl) (by (repeat (first | exact Ly.ua _ _ _ | rw [Ly.un _ _ (by omega)] | rw [Ly.am]))); have Q_ := HASK.out w_ P_; clear P_; (go_simp <;> first | with_reducible rfl | exact ⟨rfl, rfl⟩)); simp only [Act.put, Ly.p1, Ly.p2, Ly.p3])
                first
                  | (apply Ly.kp HO 9; (case hx => exact ⟨rfl, rfl, rfl⟩); (case hk => decide +kernel); (case hv => intro w_ hw_; (go_simp <;> first | with_reducible rfl | exact ⟨rfl, rfl⟩)); simp only [Act.put, Ly.p1, Ly.p2, Ly.p3])
                first
                  | (apply Ly.kst HO 3 (own := fun k => k = w.heap.size) (R := bR w.heap.size (.int .i64 0) (updF o i true) m); (case hx => exact ⟨rfl, rfl, rfl⟩); (case hk => decide +kernel); (case hrun => intro w_; (go_simp <;> first | with_reducible rfl | exact ⟨rfl, rfl⟩)); (case hG => first | exact fun _ _ h_ _ => h_ | exact fun _ _ h_ ha_ => ⟨h_.1, h_.2.apart ha_⟩); (case hown => (rintro k_ rfl; exact ⟨⟨_, by (repeat (first | exact Ly.ua _ _ _ | rw [Ly.un _ _ (by omega)] | rw [Ly.am]))⟩, fun h_ => by have h2_ : w.heap.size = R ∨ w.heap.size = D := h_; omega⟩)); (case hne => exact bR_ne _ _ _ _); (case hc => intro w_ hw_; exact bR_of (by have hc_ := open_at (HX.out w_ w.heap.size (hw_.holds w.heap.size _ (by (repeat (first | exact Ly.ua _ _ _ | rw [Ly.un _ _ (by omega)] | rw [Ly.am]))))) i hi; rw [HOI.out] at hc_; exact hc_)))
                intro v_ p_ hR_ hf_ hn_
                obtain ⟨rfl, x2, rfl, hX2⟩ := hR_
                have HX2 := Lib.hid hX2
                clear hX2 hf_ hn_
                rw [Ly.patch1]
                simp only [Act.put, Ly.p1, Ly.p2, Ly.p3]
                first
                  | (apply Ly.kp HO 4; (case hx => exact ⟨rfl, rfl, rfl⟩); (case hk => decide +kernel); (case hv => intro w_ hw_; (go_simp <;> first | with_reducible rfl | exact ⟨rfl, rfl⟩)); simp only [Act.put, Ly.p1, Ly.p2, Ly.p3])
                first
                  | (apply Ly.kp HO 10; (case hx => exact ⟨rfl, rfl, rfl⟩); (case hk => decide +kernel); (case hv => intro w_ hw_; (go_simp <;> first | with_reducible rfl | exact ⟨rfl, rfl⟩)); simp only [Act.put, Ly.p1, Ly.p2, Ly.p3])
                first
                  | (apply Ly.kp HO 11; (case hx => exact ⟨rfl, rfl, rfl⟩); (case hk => decide +kernel); (case hv => intro w_ hw_; (go_simp <;> first | with_reducible rfl | exact ⟨rfl, rfl⟩)); simp only [Act.put, Ly.p1, Ly.p2, Ly.p3])
                first
                  | (apply Ly.kf HO 12; (case hx => exact ⟨rfl, rfl, rfl⟩); (case hk => decide +kernel); (case hv => intro w_ hw_ hF_; have P_ := hF_ D _ (Or.inr rfl) (by (repeat (first | exact Ly.ua _ _ _ | rw [Ly.un _ _ (by omega)] | rw [Ly.am]))); obtain ⟨c0, c1, c2, c3, c4, c5⟩ := cells6 P_; clear P_; (go_simp <;> first | with_reducible rfl | exact ⟨rfl, rfl⟩)); simp only [Act.put, Ly.p1, Ly.p2, Ly.p3])
                first
                  | (apply Ly.kp HO 13; (case hx => exact ⟨rfl, rfl, rfl⟩); (case hk => decide +kernel); (case hv => intro w_ hw_; (go_simp <;> first | with_reducible rfl | exact ⟨rfl, rfl⟩)); simp only [Act.put, Ly.p1, Ly.p2, Ly.p3])
                first
                  | (apply Ly.kp HO 14; (case hx => exact ⟨rfl, rfl, rfl⟩); (case hk => decide +kernel); (case hv => intro w_ hw_; (go_simp <;> first | with_reducible rfl | exact ⟨rfl, rfl⟩)); simp only [Act.put, Ly.p1, Ly.p2, Ly.p3])
                first
                  | (apply Ly.kp HO 15; (case hx => exact ⟨rfl, rfl, rfl⟩); (case hk => decide +kernel); (case hv => intro w_ hw_; (go_simp <;> first | with_reducible rfl | exact ⟨rfl, rfl⟩)); simp only [Act.put, Ly.p1, Ly.p2, Ly.p3])
                first
                  | (apply Ly.kp HO 16; (case hx => exact ⟨rfl, rfl, rfl⟩); (case hk => decide +kernel); (case hv => intro w_ hw_; (go_simp <;> first | with_reducible rfl | exact ⟨rfl, rfl⟩)); simp only [Act.put, Ly.p1, Ly.p2, Ly.p3])
                first
                  | (apply Ly.kf HO 17; (case hx => exact ⟨rfl, rfl, rfl⟩); (case hk => decide +kernel); (case hv => intro w_ hw_ hF_; have P_ := hF_ D _ (Or.inr rfl) (by (repeat (first | exact Ly.ua _ _ _ | rw [Ly.un _ _ (by omega)] | rw [Ly.am]))); obtain ⟨c0, c1, c2, c3, c4, c5⟩ := cells6 P_; clear P_; (go_simp <;> first | with_reducible rfl | exact ⟨rfl, rfl⟩)); simp only [Act.put, Ly.p1, Ly.p2, Ly.p3])
                first
                  | (apply Ly.kp HO 18; (case hx => exact ⟨rfl, rfl, rfl⟩); (case hk => decide +kernel); (case hv => intro w_ hw_; (go_simp <;> first | with_reducible rfl | exact ⟨rfl, rfl⟩)); simp only [Act.put, Ly.p1, Ly.p2, Ly.p3])
                first
                  | (apply Ly.kp HO 19; (case hx => exact ⟨rfl, rfl, rfl⟩); (case hk => decide +kernel); (case hv => intro w_ hw_; (go_simp <;> first | with_reducible rfl | exact ⟨rfl, rfl⟩)); simp only [Act.put, Ly.p1, Ly.p2, Ly.p3])
                first
                  | (apply Ly.kp HO 20; (case hx => exact ⟨rfl, rfl, rfl⟩); (case hk => decide +kernel); (case hv => intro w_ hw_; (go_simp <;> first | with_reducible rfl | exact ⟨rfl, rfl⟩)); simp only [Act.put, Ly.p1, Ly.p2, Ly.p3])
                refine Ly.kd HO (by kernel_rfl) (fun hiv2 => hZ _ _ (fun W2 hw2 => ?_))
                clear hZ Z HO O hiv2
                have hB2 := HX2.out W2 _ (hw2.holds w.heap.size _ (by (repeat (first | exact Ly.ua _ _ _ | rw [Ly.un _ _ (by omega)] | rw [Ly.am]))))
                have hD2 := hw2.holds D _ (by (repeat (first | exact Ly.ua _ _ _ | rw [Ly.un _ _ (by omega)] | rw [Ly.am])))
                have h12 := hw2.holds R _ (by (repeat (first | exact Ly.ua _ _ _ | rw [Ly.un _ _ (by omega)] | rw [Ly.am])))
                have hk2 : Kept w.heap.size W1 W2 := hw2.more.2
                have hb2 := hw2.below
                clear hw2 HIN HX HX2 d0 d1 d2 d3 d4 d5
                have hDl2 : D < W2.heap.size := (Array.getElem?_eq_some_iff.1 hD2).1
                obtain ⟨d0, d1, d2, d3, d4, d5⟩ := cells6 hD2
                have hput := fun v => run_mapPut (P := Try.prog) Try.underlying26 Try.underlying3 h12 i v (HM1.out.d1.findNone .i64 (fun j _ e => by rw [← (show i = j by omega), HOI.out]; rfl))
                have HG := Lib.hid (HM1.out.opens (by omega) (by omega) (by omega) (by omega) hk2 hb2 hi hB2 (HM1.out.d1.put hi (by simp [HOI.out, oneIf]) (.int .i64 1) n1) (n1' := n1 + 1))
                clear hB2 hD2 h12 hk2 hb2
                go_wp2_with fail
                go_meet
                case rel => exact ⟨_, _, _, _, _, _, _, HG.out⟩
              · have hask : ∀ W : World, W.heap[R]? = some (.map (entsI .i64 e1) n1) → (Instr.lookup 26 (.map (some R)) (.int .i64 i) false).run Try.prog W = .ok (.int .i64 1) W := fun W hW => HM1.out.d1.ask hW hi hoi
                have HASK := Lib.hid hask
                have HOI := Lib.hid hoi
                have HIN := Lib.hid ((((II_add ((Ly.II.nil HM1.out.below).frz (fun k => k = R ∨ k = D)) (Kept.stable w.heap.size W1) ⟨Nat.le_refl _, fun _ _ _ => rfl⟩).put (Nat.le_refl _) hxB).put (by omega) HM1.out.h1).put (g := D) (by omega) hD)
                clear hask hxB hXB hoi
                go_upto_region 12 with fail
                refine Ly.regionS (by kernel_rfl) (by kernel_rfl) HIN.out.1 HIN.out.2 (by simp only [List.size_toArray, List.length_cons, List.length_nil, Nat.reduceAdd]; rfl) (fun O Z hO hZ => ?_); have HO := Lib.hid hO; clear hO
                first
                  | (apply Ly.kp HO 0; (case hx => exact ⟨rfl, rfl, rfl⟩); (case hk => decide +kernel); (case hv => intro w_ hw_; (go_simp <;> first | with_reducible rfl | exact ⟨rfl, rfl⟩)); simp only [Act.put, Ly.p1, Ly.p2, Ly.p3])
                first
                  | (apply Ly.kp HO 1; (case hx => exact ⟨rfl, rfl, rfl⟩); (case hk => decide +kernel); (case hv => intro w_ hw_; (go_simp <;> first | with_reducible rfl | exact ⟨rfl, rfl⟩)); simp only [Act.put, Ly.p1, Ly.p2, Ly.p3])
                first
                  | (apply Ly.kf HO 2; (case hx => exact ⟨rfl, rfl, rfl⟩); (case hk => decide +kernel); (case hv => intro w_ hw_ hF_; have P_ := hF_ D _ (Or.inr rfl) (by (repeat (first | exact Ly.ua _ _ _ | rw [Ly.un _ _ (by omega)] | rw [Ly.am]))); obtain ⟨c0, c1, c2, c3, c4, c5⟩ := cells6 P_; clear P_; (go_simp <;> first | with_reducible rfl | exact ⟨rfl, rfl⟩)); simp only [Act.put, Ly.p1, Ly.p2, Ly.p3])
                first
                  | (apply Ly.kp HO 5; (case hx => exact ⟨rfl, rfl, rfl⟩); (case hk => decide +kernel); (case hv => intro w_ hw_; (go_simp <;> first | with_reducible rfl | exact ⟨rfl, rfl⟩)); simp only [Act.put, Ly.p1, Ly.p2, Ly.p3])
                first
                  | (apply Ly.kp HO 6; (case hx => exact ⟨rfl, rfl, rfl⟩); (case hk => decide +kernel); (case hv => intro w_ hw_; (go_simp <;> first | with_reducible rfl | exact ⟨rfl, rfl⟩)); simp only [Act.put, Ly.p1, Ly.p2, Ly.p3])
                first
                  | (apply Ly.kf HO 7; (case hx => exact ⟨rfl, rfl, rfl⟩); (case hk => decide +kernel); (case hv => intro w_ hw_ hF_; have P_ := hF_ D _ (Or.inr rfl) (by (repeat (first | exact Ly.ua _ _ _ | rw [Ly.un _ _ (by omega)] | rw [Ly.am]))); obtain ⟨c0, c1, c2, c3, c4, c5⟩ := cells6 P_; clear P_; (go_simp <;> first | with_reducible rfl | exact ⟨rfl, rfl⟩)); simp only [Act.put, Ly.p1, Ly.p2, Ly.p3])
                first
                  | (apply Ly.kf HO 8; (case hx => exact ⟨rfl, rfl, rfl⟩); (case hk => decide +kernel); (case hv => intro w_ hw_ hF_; have P_ := hF_ R _ (Or.inl rfl) (by (repeat (first | exact Ly.ua _ _ _ | rw [Ly.un _ _ (by omega)] | rw [Ly.am]))); have Q_ := HASK.out w_ P_; clear P_; (go_simp <;> first | with_reducible rfl | exact ⟨rfl, rfl⟩)); simp only [Act.put, Ly.p1, Ly.p2, Ly.p3])
                first
                  | (apply Ly.kp HO 9; (case hx => exact ⟨rfl, rfl, rfl⟩); (case hk => decide +kernel); (case hv => intro w_ hw_; (go_simp <;> first | with_reducible rfl | exact ⟨rfl, rfl⟩)); simp only [Act.put, Ly.p1, Ly.p2, Ly.p3])
                first
                  | (apply Ly.kst HO 3 (own := fun k => k = w.heap.size) (R := bR w.heap.size (.int .i64 9) (updF o i true) m); (case hx => exact ⟨rfl, rfl, rfl⟩); (case hk => decide +kernel); (case hrun => intro w_; (go_simp <;> first | with_reducible rfl | exact ⟨rfl, rfl⟩)); (case hG => first | exact fun _ _ h_ _ => h_ | exact fun _ _ h_ ha_ => ⟨h_.1, h_.2.apart ha_⟩); (case hown => (rintro k_ rfl; exact ⟨⟨_, by (repeat (first | exact Ly.ua _ _ _ | rw [Ly.un _ _ (by omega)] | rw [Ly.am]))⟩, fun h_ => by have h2_ : w.heap.size = R ∨ w.heap.size = D := h_; omega⟩)); (case hne => exact bR_ne _ _ _ _); (case hc => intro w_ hw_; exact bR_of (by have hc_ := open_at (HX.out w_ w.heap.size (hw_.holds w.heap.size _ (by (repeat (first | exact Ly.ua _ _ _ | rw [Ly.un _ _ (by omega)] | rw [Ly.am]))))) i hi; rw [HOI.out] at hc_; exact hc_)))
                intro v_ p_ hR_ hf_ hn_
                obtain ⟨rfl, x2, rfl, hX2⟩ := hR_
                have HX2 := Lib.hid hX2
                clear hX2 hf_ hn_
                rw [Ly.patch1]
                simp only [Act.put, Ly.p1, Ly.p2, Ly.p3]
                first
                  | (apply Ly.kp HO 4; (case hx => exact ⟨rfl, rfl, rfl⟩); (case hk => decide +kernel); (case hv => intro w_ hw_; (go_simp <;> first | with_reducible rfl | exact ⟨rfl, rfl⟩)); simp only [Act.put, Ly.p1, Ly.p2, Ly.p3])
                first
                  | (apply Ly.kp HO 10; (case hx => exact ⟨rfl, rfl, rfl⟩); (case hk => decide +kernel); (case hv => intro w_ hw_; (go_simp <;> first | with_reducible rfl | exact ⟨rfl, rfl⟩)); simp only [Act.put, Ly.p1, Ly.p2, Ly.p3])
                first
                  | (apply Ly.kk HO 11; (case hx => exact ⟨rfl, rfl⟩); (case hk => decide +kernel); simp only [Act.put, Ly.p1, Ly.p2, Ly.p3])
                first
                  | (apply Ly.kk HO 12; (case hx => exact ⟨rfl, rfl⟩); (case hk => decide +kernel); simp only [Act.put, Ly.p1, Ly.p2, Ly.p3])
                first
                  | (apply Ly.kk HO 13; (case hx => exact ⟨rfl, rfl⟩); (case hk => decide +kernel); simp only [Act.put, Ly.p1, Ly.p2, Ly.p3])
                first
                  | (apply Ly.kp HO 14; (case hx => exact ⟨rfl, rfl, rfl⟩); (case hk => decide +kernel); (case hv => intro w_ hw_; (go_simp <;> first | with_reducible rfl | exact ⟨rfl, rfl⟩)); simp only [Act.put, Ly.p1, Ly.p2, Ly.p3])
                first
                  | (apply Ly.kp HO 15; (case hx => exact ⟨rfl, rfl, rfl⟩); (case hk => decide +kernel); (case hv => intro w_ hw_; (go_simp <;> first | with_reducible rfl | exact ⟨rfl, rfl⟩)); simp only [Act.put, Ly.p1, Ly.p2, Ly.p3])
                first
                  | (apply Ly.kk HO 16; (case hx => exact ⟨rfl, rfl⟩); (case hk => decide +kernel); simp only [Act.put, Ly.p1, Ly.p2, Ly.p3])
                first
                  | (apply Ly.kk HO 17; (case hx => exact ⟨rfl, rfl⟩); (case hk => decide +kernel); simp only [Act.put, Ly.p1, Ly.p2, Ly.p3])
                first
                  | (apply Ly.kk HO 18; (case hx => exact ⟨rfl, rfl⟩); (case hk => decide +kernel); simp only [Act.put, Ly.p1, Ly.p2, Ly.p3])
                first
                  | (apply Ly.kp HO 19; (case hx => exact ⟨rfl, rfl, rfl⟩); (case hk => decide +kernel); (case hv => intro w_ hw_; (go_simp <;> first | with_reducible rfl | exact ⟨rfl, rfl⟩)); simp only [Act.put, Ly.p1, Ly.p2, Ly.p3])
                first
                  | (apply Ly.kp HO 20; (case hx => exact ⟨rfl, rfl, rfl⟩); (case hk => decide +kernel); (case hv => intro w_ hw_; (go_simp <;> first | with_reducible rfl | exact ⟨rfl, rfl⟩)); simp only [Act.put, Ly.p1, Ly.p2, Ly.p3])
                refine Ly.kd HO (by kernel_rfl) (fun hiv2 => hZ _ _ (fun W2 hw2 => ?_))
                clear hZ Z HO O hiv2
                have hB2 := HX2.out W2 _ (hw2.holds w.heap.size _ (by (repeat (first | exact Ly.ua _ _ _ | rw [Ly.un _ _ (by omega)] | rw [Ly.am]))))
                have hD2 := hw2.holds D _ (by (repeat (first | exact Ly.ua _ _ _ | rw [Ly.un _ _ (by omega)] | rw [Ly.am])))
                have h12 := hw2.holds R _ (by (repeat (first | exact Ly.ua _ _ _ | rw [Ly.un _ _ (by omega)] | rw [Ly.am])))
                have hk2 : Kept w.heap.size W1 W2 := hw2.more.2
                have hb2 := hw2.below
                clear hw2 HIN HX HX2 d0 d1 d2 d3 d4 d5
                have hDl2 : D < W2.heap.size := (Array.getElem?_eq_some_iff.1 hD2).1
                obtain ⟨d0, d1, d2, d3, d4, d5⟩ := cells6 hD2
                obtain ⟨j1, hf1⟩ := HM1.out.d1.find .i64 hi (v := .int .i64 1) (by rw [HOI.out]; rfl)
                have hput := run_mapPut_same (P := Try.prog) Try.underlying26 Try.underlying3 h12 i _ hf1
                have HG := Lib.hid (HM1.out.opens (by omega) (by omega) (by omega) (by omega) hk2 hb2 hi hB2 (HM1.out.d1.congr (fun j hj => by by_cases e : j = i <;> simp [updF, e, HOI.out, oneIf])) (n1' := n1))
                clear hB2 hD2 h12 hk2 hb2
                go_wp2_with fail
                go_meet
                case rel => exact ⟨_, _, _, _, _, _, _, HG.out⟩
            · by_cases hneg : task < 0
              · have g0 : decide (task ≥ 0) = false := by simp; omega
                have hask : ∀ W : World, W.heap[R]? = some (.map (entsI .i64 e1) n1) → (Instr.lookup 26 (.map (some R)) (.int .i64 task) false).run Try.prog W = .ok (.int .i64 0) W := fun W hW => by
                  have ha := run_mapAsk1 (P := Try.prog) Try.underlying26 Try.underlying3 (z := .int .i64 0) (fun w => Try.zeroValue3 w) hW task
                  rw [HM1.out.d1.findNone .i64 (k := task) (fun j hj e => by omega)] at ha
                  exact ha
                have HASK := Lib.hid hask
                have HIN := Lib.hid ((((II_add ((Ly.II.nil HM1.out.below).frz (fun k => k = R ∨ k = D)) (Kept.stable w.heap.size W1) ⟨Nat.le_refl _, fun _ _ _ => rfl⟩).put (Nat.le_refl _) hxB).put (by omega) HM1.out.h1).put (g := D) (by omega) hD)
                clear hask hxB hXB
                go_upto_region 12 with fail
                refine Ly.regionS (by kernel_rfl) (by kernel_rfl) HIN.out.1 HIN.out.2 (by simp only [List.size_toArray, List.length_cons, List.length_nil, Nat.reduceAdd]; rfl) (fun O Z hO hZ => ?_); have HO := Lib.hid hO; clear hO
                first
                  | (apply Ly.kp HO 0; (case hx => exact ⟨rfl, rfl, rfl⟩); (case hk => decide +kernel); (case hv => intro w_ hw_; (go_simp <;> first | with_reducible rfl | exact ⟨rfl, rfl⟩)); simp only [Act.put, Ly.p1, Ly.p2, Ly.p3])
                first
                  | (apply Ly.kp HO 1; (case hx => exact ⟨rfl, rfl, rfl⟩); (case hk => decide +kernel); (case hv => intro w_ hw_; (go_simp <;> first | with_reducible rfl | exact ⟨rfl, rfl⟩)); simp only [Act.put, Ly.p1, Ly.p2, Ly.p3])
                first
                  | (apply Ly.kf HO 2; (case hx => exact ⟨rfl, rfl, rfl⟩); (case hk => decide +kernel); (case hv => intro w_ hw_ hF_; have P_ := hF_ D _ (Or.inr rfl) (by (repeat (first | exact Ly.ua _ _ _ | rw [Ly.un _ _ (by omega)] | rw [Ly.am]))); obtain ⟨c0, c1, c2, c3, c4, c5⟩ := cells6 P_; clear P_; (go_simp <;> first | with_reducible rfl | exact ⟨rfl, rfl⟩)); simp only [Act.put, Ly.p1, Ly.p2, Ly.p3])
                first
                  | (apply Ly.kp HO 5; (case hx => exact ⟨rfl, rfl, rfl⟩); (case hk => decide +kernel); (case hv => intro w_ hw_; (go_simp <;> first | with_reducible rfl | exact ⟨rfl, rfl⟩)); simp only [Act.put, Ly.p1, Ly.p2, Ly.p3])
                first
                  | (apply Ly.kp HO 6; (case hx => exact ⟨rfl, rfl, rfl⟩); (case hk => decide +kernel); (case hv => intro w_ hw_; (go_simp <;> first | with_reducible rfl | exact ⟨rfl, rfl⟩)); simp only [Act.put, Ly.p1, Ly.p2, Ly.p3])
                first
                  | (apply Ly.kf HO 7; (case hx => exact ⟨rfl, rfl, rfl⟩); (case hk => decide +kernel); (case hv => intro w_ hw_ hF_; have P_ := hF_ D _ (Or.inr rfl) (by (repeat (first | exact Ly.ua _ _ _ | rw [Ly.un _ _ (by omega)] | rw [Ly.am]))); obtain ⟨c0, c1, c2, c3, c4, c5⟩ := cells6 P_; clear P_; (go_simp <;> first | with_reducible rfl | exact ⟨rfl, rfl⟩)); simp only [Act.put, Ly.p1, Ly.p2, Ly.p3])
                first
                  | (apply Ly.kf HO 8; (case hx => exact ⟨rfl, rfl, rfl⟩); (case hk => decide +kernel); (case hv => intro w_ hw_ hF_; have P_ := hF_ R _ (Or.inl rfl) (by (repeat (first | exact Ly.ua _ _ _ | rw [Ly.un _ _ (by omega)] | rw [Ly.am]))); have Q_ := HASK.out w_ P_; clear P_; (go_simp <;> first | with_reducible rfl | exact ⟨rfl, rfl⟩)); simp only [Act.put, Ly.p1, Ly.p2, Ly.p3])
                first
                  | (apply Ly.kp HO 9; (case hx => exact ⟨rfl, rfl, rfl⟩); (case hk => decide +kernel); (case hv => intro w_ hw_; (go_simp <;> first | with_reducible rfl | exact ⟨rfl, rfl⟩)); simp only [Act.put, Ly.p1, Ly.p2, Ly.p3])
                first
                  | (apply Ly.kst HO 3 (own := fun k => k = w.heap.size) (R := bR w.heap.size (.int .i64 2) (o) m); (case hx => exact ⟨rfl, rfl, rfl⟩); (case hk => decide +kernel); (case hrun => intro w_; (go_simp <;> first | with_reducible rfl | exact ⟨rfl, rfl⟩)); (case hG => first | exact fun _ _ h_ _ => h_ | exact fun _ _ h_ ha_ => ⟨h_.1, h_.2.apart ha_⟩); (case hown => (rintro k_ rfl; exact ⟨⟨_, by (repeat (first | exact Ly.ua _ _ _ | rw [Ly.un _ _ (by omega)] | rw [Ly.am]))⟩, fun h_ => by have h2_ : w.heap.size = R ∨ w.heap.size = D := h_; omega⟩)); (case hne => exact bR_ne _ _ _ _); (case hc => intro w_ hw_; exact bR_of (open_no (HX.out w_ _ (hw_.holds _ _ (by (repeat (first | exact Ly.ua _ _ _ | rw [Ly.un _ _ (by omega)] | rw [Ly.am]))))) hin)))
                intro v_ p_ hR_ hf_ hn_
                obtain ⟨rfl, x2, rfl, hX2⟩ := hR_
                have HX2 := Lib.hid hX2
                clear hX2 hf_ hn_
                rw [Ly.patch1]
                simp only [Act.put, Ly.p1, Ly.p2, Ly.p3]
                first
                  | (apply Ly.kp HO 4; (case hx => exact ⟨rfl, rfl, rfl⟩); (case hk => decide +kernel); (case hv => intro w_ hw_; (go_simp <;> first | with_reducible rfl | exact ⟨rfl, rfl⟩)); simp only [Act.put, Ly.p1, Ly.p2, Ly.p3])
                first
                  | (apply Ly.kp HO 10; (case hx => exact ⟨rfl, rfl, rfl⟩); (case hk => decide +kernel); (case hv => intro w_ hw_; (go_simp <;> first | with_reducible rfl | exact ⟨rfl, rfl⟩)); simp only [Act.put, Ly.p1, Ly.p2, Ly.p3])
                first
                  | (apply Ly.kp HO 11; (case hx => exact ⟨rfl, rfl, rfl⟩); (case hk => decide +kernel); (case hv => intro w_ hw_; (go_simp <;> first | with_reducible rfl | exact ⟨rfl, rfl⟩)); simp only [Act.put, Ly.p1, Ly.p2, Ly.p3])
                first
                  | (apply Ly.kf HO 12; (case hx => exact ⟨rfl, rfl, rfl⟩); (case hk => decide +kernel); (case hv => intro w_ hw_ hF_; have P_ := hF_ D _ (Or.inr rfl) (by (repeat (first | exact Ly.ua _ _ _ | rw [Ly.un _ _ (by omega)] | rw [Ly.am]))); obtain ⟨c0, c1, c2, c3, c4, c5⟩ := cells6 P_; clear P_; (go_simp <;> first | with_reducible rfl | exact ⟨rfl, rfl⟩)); simp only [Act.put, Ly.p1, Ly.p2, Ly.p3])
                first
                  | (apply Ly.kp HO 13; (case hx => exact ⟨rfl, rfl, rfl⟩); (case hk => decide +kernel); (case hv => intro w_ hw_; (go_simp <;> first | with_reducible rfl | exact ⟨rfl, rfl⟩)); simp only [Act.put, Ly.p1, Ly.p2, Ly.p3])
                first
                  | (apply Ly.kp HO 14; (case hx => exact ⟨rfl, rfl, rfl⟩); (case hk => decide +kernel); (case hv => intro w_ hw_; (go_simp <;> first | with_reducible rfl | exact ⟨rfl, rfl⟩)); simp only [Act.put, Ly.p1, Ly.p2, Ly.p3])
                first
                  | (apply Ly.kp HO 15; (case hx => exact ⟨rfl, rfl, rfl⟩); (case hk => decide +kernel); (case hv => intro w_ hw_; (go_simp <;> first | with_reducible rfl | exact ⟨rfl, rfl⟩)); simp only [Act.put, Ly.p1, Ly.p2, Ly.p3])
                first
                  | (apply Ly.kk HO 16; (case hx => exact ⟨rfl, rfl⟩); (case hk => decide +kernel); simp only [Act.put, Ly.p1, Ly.p2, Ly.p3])
                first
                  | (apply Ly.kk HO 17; (case hx => exact ⟨rfl, rfl⟩); (case hk => decide +kernel); simp only [Act.put, Ly.p1, Ly.p2, Ly.p3])
                first
                  | (apply Ly.kk HO 18; (case hx => exact ⟨rfl, rfl⟩); (case hk => decide +kernel); simp only [Act.put, Ly.p1, Ly.p2, Ly.p3])
                first
                  | (apply Ly.kp HO 19; (case hx => exact ⟨rfl, rfl, rfl⟩); (case hk => decide +kernel); (case hv => intro w_ hw_; (go_simp <;> first | with_reducible rfl | exact ⟨rfl, rfl⟩)); simp only [Act.put, Ly.p1, Ly.p2, Ly.p3])
                first
                  | (apply Ly.kp HO 20; (case hx => exact ⟨rfl, rfl, rfl⟩); (case hk => decide +kernel); (case hv => intro w_ hw_; (go_simp <;> first | with_reducible rfl | exact ⟨rfl, rfl⟩)); simp only [Act.put, Ly.p1, Ly.p2, Ly.p3])
                refine Ly.kd HO (by kernel_rfl) (fun hiv2 => hZ _ _ (fun W2 hw2 => ?_))
                clear hZ Z HO O hiv2
                have hB2 := HX2.out W2 _ (hw2.holds w.heap.size _ (by (repeat (first | exact Ly.ua _ _ _ | rw [Ly.un _ _ (by omega)] | rw [Ly.am]))))
                have hD2 := hw2.holds D _ (by (repeat (first | exact Ly.ua _ _ _ | rw [Ly.un _ _ (by omega)] | rw [Ly.am])))
                have h12 := hw2.holds R _ (by (repeat (first | exact Ly.ua _ _ _ | rw [Ly.un _ _ (by omega)] | rw [Ly.am])))
                have hk2 : Kept w.heap.size W1 W2 := hw2.more.2
                have hb2 := hw2.below
                clear hw2 HIN HX HX2 d0 d1 d2 d3 d4 d5
                have hDl2 : D < W2.heap.size := (Array.getElem?_eq_some_iff.1 hD2).1
                obtain ⟨d0, d1, d2, d3, d4, d5⟩ := cells6 hD2
                have HG := Lib.hid (HM1.out.kept (by omega) (by omega) hk2 hb2 hB2)
                clear hB2 hD2 h12 hk2 hb2
                go_wp2_with fail
                go_meet
                case rel => exact ⟨_, _, _, _, _, _, _, HG.out⟩
              · have g0 : decide (task ≥ 0) = true := by simp; omega
                have g1 : decide (task < 32) = false := by simp; omega
                have hask : ∀ W : World, W.heap[R]? = some (.map (entsI .i64 e1) n1) → (Instr.lookup 26 (.map (some R)) (.int .i64 task) false).run Try.prog W = .ok (.int .i64 0) W := fun W hW => by
                  have ha := run_mapAsk1 (P := Try.prog) Try.underlying26 Try.underlying3 (z := .int .i64 0) (fun w => Try.zeroValue3 w) hW task
                  rw [HM1.out.d1.findNone .i64 (k := task) (fun j hj e => by omega)] at ha
                  exact ha
                have HASK := Lib.hid hask
                have HIN := Lib.hid ((((II_add ((Ly.II.nil HM1.out.below).frz (fun k => k = R ∨ k = D)) (Kept.stable w.heap.size W1) ⟨Nat.le_refl _, fun _ _ _ => rfl⟩).put (Nat.le_refl _) hxB).put (by omega) HM1.out.h1).put (g := D) (by omega) hD)
                clear hask hxB hXB
                go_upto_region 12 with fail
                refine Ly.regionS (by kernel_rfl) (by kernel_rfl) HIN.out.1 HIN.out.2 (by simp only [List.size_toArray, List.length_cons, List.length_nil, Nat.reduceAdd]; rfl) (fun O Z hO hZ => ?_); have HO := Lib.hid hO; clear hO
                first
                  | (apply Ly.kp HO 0; (case hx => exact ⟨rfl, rfl, rfl⟩); (case hk => decide +kernel); (case hv => intro w_ hw_; (go_simp <;> first | with_reducible rfl | exact ⟨rfl, rfl⟩)); simp only [Act.put, Ly.p1, Ly.p2, Ly.p3])
                first
                  | (apply Ly.kp HO 1; (case hx => exact ⟨rfl, rfl, rfl⟩); (case hk => decide +kernel); (case hv => intro w_ hw_; (go_simp <;> first | with_reducible rfl | exact ⟨rfl, rfl⟩)); simp only [Act.put, Ly.p1, Ly.p2, Ly.p3])
                first
                  | (apply Ly.kf HO 2; (case hx => exact ⟨rfl, rfl, rfl⟩); (case hk => decide +kernel); (case hv => intro w_ hw_ hF_; have P_ := hF_ D _ (Or.inr rfl) (by (repeat (first | exact Ly.ua _ _ _ | rw [Ly.un _ _ (by omega)] | rw [Ly.am]))); obtain ⟨c0, c1, c2, c3, c4, c5⟩ := cells6 P_; clear P_; (go_simp <;> first | with_reducible rfl | exact ⟨rfl, rfl⟩)); simp only [Act.put, Ly.p1, Ly.p2, Ly.p3])
                first
                  | (apply Ly.kp HO 5; (case hx => exact ⟨rfl, rfl, rfl⟩); (case hk => decide +kernel); (case hv => intro w_ hw_; (go_simp <;> first | with_reducible rfl | exact ⟨rfl, rfl⟩)); simp only [Act.put, Ly.p1, Ly.p2, Ly.p3])
                first
                  | (apply Ly.kp HO 6; (case hx => exact ⟨rfl, rfl, rfl⟩); (case hk => decide +kernel); (case hv => intro w_ hw_; (go_simp <;> first | with_reducible rfl | exact ⟨rfl, rfl⟩)); simp only [Act.put, Ly.p1, Ly.p2, Ly.p3])
                first
                  | (apply Ly.kf HO 7; (case hx => exact ⟨rfl, rfl, rfl⟩); (case hk => decide +kernel); (case hv => intro w_ hw_ hF_; have P_ := hF_ D _ (Or.inr rfl) (by (repeat (first | exact Ly.ua _ _ _ | rw [Ly.un _ _ (by omega)] | rw [Ly.am]))); obtain ⟨c0, c1, c2, c3, c4, c5⟩ := cells6 P_; clear P_; (go_simp <;> first | with_reducible rfl | exact ⟨rfl, rfl⟩)); simp only [Act.put, Ly.p1, Ly.p2, Ly.p3])
                first
                  | (apply Ly.kf HO 8; (case hx => exact ⟨rfl, rfl, rfl⟩); (case hk => decide +kernel); (case hv => intro w_ hw_ hF_; have P_ := hF_ R _ (Or.inl rfl) (by (repeat (first | exact Ly.ua _ _ _ | rw [Ly.un _ _ (by omega)] | rw [Ly.am]))); have Q_ := HASK.out w_ P_; clear P_; (go_simp <;> first | with_reducible rfl | exact ⟨rfl, rfl⟩)); simp only [Act.put, Ly.p1, Ly.p2, Ly.p3])
                first
                  | (apply Ly.kp HO 9; (case hx => exact ⟨rfl, rfl, rfl⟩); (case hk => decide +kernel); (case hv => intro w_ hw_; (go_simp <;> first | with_reducible rfl | exact ⟨rfl, rfl⟩)); simp only [Act.put, Ly.p1, Ly.p2, Ly.p3])
                first
                  | (apply Ly.kst HO 3 (own := fun k => k = w.heap.size) (R := bR w.heap.size (.int .i64 2) (o) m); (case hx => exact ⟨rfl, rfl, rfl⟩); (case hk => decide +kernel); (case hrun => intro w_; (go_simp <;> first | with_reducible rfl | exact ⟨rfl, rfl⟩)); (case hG => first | exact fun _ _ h_ _ => h_ | exact fun _ _ h_ ha_ => ⟨h_.1, h_.2.apart ha_⟩); (case hown => (rintro k_ rfl; exact ⟨⟨_, by (repeat (first | exact Ly.ua _ _ _ | rw [Ly.un _ _ (by omega)] | rw [Ly.am]))⟩, fun h_ => by have h2_ : w.heap.size = R ∨ w.heap.size = D := h_; omega⟩)); (case hne => exact bR_ne _ _ _ _); (case hc => intro w_ hw_; exact bR_of (open_no (HX.out w_ _ (hw_.holds _ _ (by (repeat (first | exact Ly.ua _ _ _ | rw [Ly.un _ _ (by omega)] | rw [Ly.am]))))) hin)))
                intro v_ p_ hR_ hf_ hn_
                obtain ⟨rfl, x2, rfl, hX2⟩ := hR_
                have HX2 := Lib.hid hX2
                clear hX2 hf_ hn_
                rw [Ly.patch1]
                simp only [Act.put, Ly.p1, Ly.p2, Ly.p3]
                first
                  | (apply Ly.kp HO 4; (case hx => exact ⟨rfl, rfl, rfl⟩); (case hk => decide +kernel); (case hv => intro w_ hw_; (go_simp <;> first | with_reducible rfl | exact ⟨rfl, rfl⟩)); simp only [Act.put, Ly.p1, Ly.p2, Ly.p3])
                first
                  | (apply Ly.kp HO 10; (case hx => exact ⟨rfl, rfl, rfl⟩); (case hk => decide +kernel); (case hv => intro w_ hw_; (go_simp <;> first | with_reducible rfl | exact ⟨rfl, rfl⟩)); simp only [Act.put, Ly.p1, Ly.p2, Ly.p3])
                first
                  | (apply Ly.kp HO 11; (case hx => exact ⟨rfl, rfl, rfl⟩); (case hk => decide +kernel); (case hv => intro w_ hw_; (go_simp <;> first | with_reducible rfl | exact ⟨rfl, rfl⟩)); simp only [Act.put, Ly.p1, Ly.p2, Ly.p3])
                first
                  | (apply Ly.kf HO 12; (case hx => exact ⟨rfl, rfl, rfl⟩); (case hk => decide +kernel); (case hv => intro w_ hw_ hF_; have P_ := hF_ D _ (Or.inr rfl) (by (repeat (first | exact Ly.ua _ _ _ | rw [Ly.un _ _ (by omega)] | rw [Ly.am]))); obtain ⟨c0, c1, c2, c3, c4, c5⟩ := cells6 P_; clear P_; (go_simp <;> first | with_reducible rfl | exact ⟨rfl, rfl⟩)); simp only [Act.put, Ly.p1, Ly.p2, Ly.p3])
                first
                  | (apply Ly.kp HO 13; (case hx => exact ⟨rfl, rfl, rfl⟩); (case hk => decide +kernel); (case hv => intro w_ hw_; (go_simp <;> first | with_reducible rfl | exact ⟨rfl, rfl⟩)); simp only [Act.put, Ly.p1, Ly.p2, Ly.p3])
                first
                  | (apply Ly.kp HO 14; (case hx => exact ⟨rfl, rfl, rfl⟩); (case hk => decide +kernel); (case hv => intro w_ hw_; (go_simp <;> first | with_reducible rfl | exact ⟨rfl, rfl⟩)); simp only [Act.put, Ly.p1, Ly.p2, Ly.p3])
                first
                  | (apply Ly.kp HO 15; (case hx => exact ⟨rfl, rfl, rfl⟩); (case hk => decide +kernel); (case hv => intro w_ hw_; (go_simp <;> first | with_reducible rfl | exact ⟨rfl, rfl⟩)); simp only [Act.put, Ly.p1, Ly.p2, Ly.p3])
                first
                  | (apply Ly.kp HO 16; (case hx => exact ⟨rfl, rfl, rfl⟩); (case hk => decide +kernel); (case hv => intro w_ hw_; (go_simp <;> first | with_reducible rfl | exact ⟨rfl, rfl⟩)); simp only [Act.put, Ly.p1, Ly.p2, Ly.p3])
                first
                  | (apply Ly.kf HO 17; (case hx => exact ⟨rfl, rfl, rfl⟩); (case hk => decide +kernel); (case hv => intro w_ hw_ hF_; have P_ := hF_ D _ (Or.inr rfl) (by (repeat (first | exact Ly.ua _ _ _ | rw [Ly.un _ _ (by omega)] | rw [Ly.am]))); obtain ⟨c0, c1, c2, c3, c4, c5⟩ := cells6 P_; clear P_; (go_simp <;> first | with_reducible rfl | exact ⟨rfl, rfl⟩)); simp only [Act.put, Ly.p1, Ly.p2, Ly.p3])
                first
                  | (apply Ly.kp HO 18; (case hx => exact ⟨rfl, rfl, rfl⟩); (case hk => decide +kernel); (case hv => intro w_ hw_; (go_simp <;> first | with_reducible rfl | exact ⟨rfl, rfl⟩)); simp only [Act.put, Ly.p1, Ly.p2, Ly.p3])
                first
                  | (apply Ly.kp HO 19; (case hx => exact ⟨rfl, rfl, rfl⟩); (case hk => decide +kernel); (case hv => intro w_ hw_; (go_simp <;> first | with_reducible rfl | exact ⟨rfl, rfl⟩)); simp only [Act.put, Ly.p1, Ly.p2, Ly.p3])
                first
                  | (apply Ly.kp HO 20; (case hx => exact ⟨rfl, rfl, rfl⟩); (case hk => decide +kernel); (case hv => intro w_ hw_; (go_simp <;> first | with_reducible rfl | exact ⟨rfl, rfl⟩)); simp only [Act.put, Ly.p1, Ly.p2, Ly.p3])
                refine Ly.kd HO (by kernel_rfl) (fun hiv2 => hZ _ _ (fun W2 hw2 => ?_))
                clear hZ Z HO O hiv2
                have hB2 := HX2.out W2 _ (hw2.holds w.heap.size _ (by (repeat (first | exact Ly.ua _ _ _ | rw [Ly.un _ _ (by omega)] | rw [Ly.am]))))
                have hD2 := hw2.holds D _ (by (repeat (first | exact Ly.ua _ _ _ | rw [Ly.un _ _ (by omega)] | rw [Ly.am])))
                have h12 := hw2.holds R _ (by (repeat (first | exact Ly.ua _ _ _ | rw [Ly.un _ _ (by omega)] | rw [Ly.am])))
                have hk2 : Kept w.heap.size W1 W2 := hw2.more.2
                have hb2 := hw2.below
                clear hw2 HIN HX HX2 d0 d1 d2 d3 d4 d5
                have hDl2 : D < W2.heap.size := (Array.getElem?_eq_some_iff.1 hD2).1
                obtain ⟨d0, d1, d2, d3, d4, d5⟩ := cells6 hD2
                have HG := Lib.hid (HM1.out.kept (by omega) (by omega) hk2 hb2 hB2)
                clear hB2 hD2 h12 hk2 hb2
                go_wp2_with fail
                go_meet
                case rel => exact ⟨_, _, _, _, _, _, _, HG.out⟩
          by_cases p1 : op = 1
          · subst p1
            obtain ⟨⟨x0, x1, x2, x3⟩, had, ha2, hah, _⟩ := HM1.out.ask2 task
            dsimp only at ha2
            by_cases hn : PutNo o m ⟨1, task, c, v, ok, code⟩
            · have hpn := fun (W : World) (hW : Bxs W w.heap.size o m) => put_no hW hn
              have HN := Lib.hid hpn
              have HB2 := Lib.hid (alloc_one HM1.out.bx (.cells #[.int .i64 x0, .int .i64 x1, .bool x2, .int .i64 x3] 30 (0, 0)))
              clear hpn hn hah
              go_wp2_with (go_at_call 16; (with_reducible refine (HN.out _ HB2.out).mono ?_); rintro e w2 ⟨cc, rfl, hcc, hbx2, ho2⟩; have HX := Lib.hid hbx2; have HO := Lib.hid ho2; clear hbx2 ho2)
              go_meet
              case rel => exact ⟨_, _, _, _, _, _, _, (HM1.out.keep (by omega) ((Below.refl _ _).alloc (Nat.le_refl _) _)).only (by simp; omega) (Nat.le_refl _) (by omega) (by omega) HO.out HX.out⟩
            · obtain ⟨i, hi, hti, hmay, hoi, hmi⟩ := put_yes hn
              dsimp only at hti hmay
              subst hti
              obtain ⟨hah1, _⟩ := hah i hi rfl
              have hhf : had = false := by rw [hah1, HM1.out.bo i hi, hmi]; rfl
              subst hhf
              have HA := Lib.hid (HM1.out.keep (by omega) ((Below.refl _ _).alloc (Nat.le_refl _) (.cells #[.int .i64 x0, .int .i64 x1, .bool x2, .int .i64 x3] 30 (0, 0))))
              have HD := Lib.hid ((Below.heap_alloc _ (.cells #[.int .i64 x0, .int .i64 x1, .bool x2, .int .i64 x3] 30 (0, 0)) _ hDl).trans hD)
              have HI := Lib.hid (And.intro hi (And.intro hmay (And.intro hoi hmi)))
              clear hn hah hah1 hi hmay hoi hmi hD
              go_wp2_with (go_at_call 16; (with_reducible refine (put_ok HA.out.bx i HI.out.1 c v ok code HI.out.2.1 HI.out.2.2.1 HI.out.2.2.2).mono ?_); rintro e w2 ⟨rfl, nb, hnb, hMb, hbx2, ho2⟩; have hq1 := (ho2.block R (by simp; omega) (by omega)).trans HA.out.h1; have hq2 := (ho2.block (R + 1) (by simp; omega) (by omega)).trans HA.out.h2; have hask := HA.out.d1.ask hq1 HI.out.1 HI.out.2.2.1; have hput := HA.out.d2.put2 hq2 (i := i) (by have hb_ := HA.out.bo i HI.out.1; rw [HI.out.2.2.2] at hb_; cases hg_ : g i; rfl; rw [hg_] at hb_; cases hb_) (.agg #[.int .i64 c, .int .i64 v, .bool ok, .int .i64 code]); have hD2 := (ho2.block D (by simp; omega) (by omega)).trans HD.out; obtain ⟨f0, f1, f2, f3, f4, f5⟩ := cells6 hD2; have HG := Lib.hid (HA.out.gets (x := (c, v, ok, code)) (by simp; omega) (Nat.le_refl _) (by simp; omega) (by omega) (by omega) (by omega) (by omega) ho2 HI.out.1 HI.out.2.2.1 HI.out.2.2.2 hnb hMb hbx2); clear hnb hMb hbx2 ho2 hq1 hq2 hD2)
              go_meet
              case rel => exact ⟨_, _, _, _, _, _, _, HG.out⟩
          by_cases p2 : op = 2
          · subst p2
            obtain ⟨⟨x0, x1, x2, x3⟩, had, ha2, hah, hao⟩ := HM1.out.ask2 task
            dsimp only at ha2
            by_cases hn : ¬ (0 ≤ task ∧ task < 32) ∨ ∃ i : Nat, i < 32 ∧ task = i ∧ m i = none
            · have hhf : had = false := by
                rcases hn with hn | ⟨i, hi, hti, hmi⟩
                · exact hao hn
                · rw [(hah i hi hti).1, HM1.out.bo i hi, hmi]; rfl
              subst hhf
              have hpn := fun (W : World) (hW : Bxs W w.heap.size o m) => take_no hW hn
              have HN := Lib.hid hpn
              have HB2 := Lib.hid (alloc_one HM1.out.bx (.cells #[.int .i64 x0, .int .i64 x1, .bool x2, .int .i64 x3] 30 (0, 0)))
              clear hpn hn hah hao
              go_wp2_with (go_at_call 17; (with_reducible refine (HN.out _ HB2.out).mono ?_); rintro e w2 ⟨cc, rfl, hcc, hbx2, ho2⟩; have HX := Lib.hid hbx2; have HO := Lib.hid ho2; clear hbx2 ho2)
              go_meet
              case rel => exact ⟨_, _, _, _, _, _, _, ((HM1.out.keep (by omega) ((Below.refl _ _).alloc (Nat.le_refl _) _)).only (by simp; omega) (Nat.le_refl _) (by omega) (by omega) HO.out HX.out).keep (by have := HO.out.size; simp at this; omega) ((Below.refl _ _).alloc (Nat.le_refl _) _)⟩
            · obtain ⟨i, hi, hti, b1, hmi⟩ : ∃ i : Nat, i < 32 ∧ task = i ∧ ∃ b, m i = some b := by
                by_cases hk : 0 ≤ task ∧ task < 32
                · refine ⟨task.toNat, by omega, by omega, ?_⟩
                  cases e : m task.toNat with
                  | some b => exact ⟨b, rfl⟩
                  | none => exact absurd (.inr ⟨task.toNat, by omega, by omega, e⟩) hn
                · exact absurd (.inl hk) hn
              subst hti
              obtain ⟨hah1, hah2⟩ := hah i hi rfl
              have hgs : (g i).isSome = true := by rw [HM1.out.bo i hi, hmi]; rfl
              obtain ⟨y, hgy⟩ := Option.isSome_iff_exists.1 hgs
              have hht : had = true := by rw [hah1]; exact hgs
              subst hht
              obtain rfl := hah2 y hgy
              obtain ⟨hbB, hMb⟩ := HM1.out.ml i hi b1 _ hmi hgy
              have hoi := HM1.out.op i hi (by rw [hmi]; rfl)
              obtain ⟨j1, hf1⟩ := HM1.out.d1.find .i64 hi (v := .int .i64 1) (by rw [hoi]; rfl)
              obtain ⟨j2, hf2⟩ := HM1.out.d2.find .i64 hi (v := mailV (x0, x1, x2, x3)) (by rw [hgy]; rfl)
              have HA := Lib.hid (HM1.out.keep (by omega) ((Below.refl _ _).alloc (Nat.le_refl _) (.cells #[.int .i64 x0, .int .i64 x1, .bool x2, .int .i64 x3] 30 (0, 0))))
              have HD := Lib.hid ((Below.heap_alloc _ (.cells #[.int .i64 x0, .int .i64 x1, .bool x2, .int .i64 x3] 30 (0, 0)) _ hDl).trans hD)
              have HI := Lib.hid (And.intro hi (And.intro hmi (And.intro hf1 hf2)))
              have HK := Lib.hid (And.intro hbB (show MailB _ b1 x0 x1 x2 x3 from (Below.heap_alloc W1 (.cells #[.int .i64 x0, .int .i64 x1, .bool x2, .int .i64 x3] 30 (0, 0)) _ (Array.getElem?_eq_some_iff.1 hMb).1).trans hMb))
              have HT := Lib.hid (alloc_its W1 (.cells #[.int .i64 x0, .int .i64 x1, .bool x2, .int .i64 x3] 30 (0, 0)))
              have q30 := fun (d : Nat) => @eq_mail d
              clear hn hah hah1 hah2 hi hmi hgs hgy hMb hbB hoi hf1 hf2 hao hD
              go_upto_region 26 with (go_at_call 17; (with_reducible refine (take_some HA.out.bx i HI.out.1 x0 x1 x2 x3 b1 HI.out.2.1 HK.out.2 HK.out.1).mono ?_); rintro e w2 ⟨rfl, hbx2, ho2⟩; have HG := Lib.hid (HA.out.loses (by simp; omega) (Nat.le_refl _) ⟨by omega, by omega⟩ (by omega) (by omega) (by omega) ho2 hbx2 HI.out.2.2.1 HI.out.2.2.2 (.cells #[.int .i64 x0, .int .i64 x1, .bool x2, .int .i64 x3] 30 (0, 0))); have HO := Lib.hid ho2; clear ho2 hbx2)
              have hz2 := HO.out.size
              simp only [World.size_alloc] at hz2
              have hw5 : ∀ k, k < w2.heap.size → (w2.alloc (.cells #[.int .i64 x0, .int .i64 x1, .bool x2, .int .i64 x3] 30 (0, 0))).heap[k]? = w2.heap[k]? := fun k hk => Below.heap_alloc _ _ _ hk
              have hT5 := (hw5 W1.heap.size (by omega)).trans ((HO.out.block W1.heap.size (by simp) (by omega)).trans HT.out)
              have hD5 := (hw5 D (by omega)).trans ((HO.out.block D (by simp; omega) (by omega)).trans HD.out)
              have h15 := (hw5 R (by omega)).trans ((HO.out.block R (by simp; omega) (by omega)).trans HA.out.h1)
              have h25 := (hw5 (R + 1) (by omega)).trans ((HO.out.block (R + 1) (by simp; omega) (by omega)).trans HA.out.h2)
              have hN5 := alloc_its w2 (.cells #[.int .i64 x0, .int .i64 x1, .bool x2, .int .i64 x3] 30 (0, 0))
              clear hw5 HT HD HA HO
              generalize w2.alloc (.cells #[.int .i64 x0, .int .i64 x1, .bool x2, .int .i64 x3] 30 (0, 0)) = W5 at *
              generalize w2.heap.size = S at *
              clear d0 d1 d2 d3 d4 d5 ha2
              obtain ⟨t0, t1, t2, t3⟩ := Ly.cells4 hT5
              obtain ⟨s0, s1, s2, s3⟩ := Ly.cells4 hN5
              obtain ⟨d0, d1, d2, d3, d4, d5⟩ := cells6 hD5
              have hl5 : D < W5.heap.size := (Array.getElem?_eq_some_iff.1 hD5).1
              have hl6 : S < W5.heap.size := (Array.getElem?_eq_some_iff.1 hN5).1
              have hl7 : W1.heap.size < W5.heap.size := (Array.getElem?_eq_some_iff.1 hT5).1
              have HD5 := Lib.hid hD5
              have H15 := Lib.hid h15
              have H25 := Lib.hid h25
              clear hT5 hN5 hD5 h15 h25
              go_upto_region 29 with fail
              have hdl := fun ty => Dict.strike Try.underlying27 H25.out HI.out.2.2.2 ty
              go_upto_region 30 with fail
              have hD6 := (World.putObj_heap_other (w := W5) (o := .map (entsI .i64 (e2.eraseIdx j2)) n2) (show D ≠ R + 1 by omega)).trans HD5.out
              have h16 := (World.putObj_heap_other (w := W5) (o := .map (entsI .i64 (e2.eraseIdx j2)) n2) (show R ≠ R + 1 by omega)).trans H15.out
              clear d0 d1 d2 d3 d4 d5 hdl t0 t1 t2 t3 s0 s1 s2 s3 hl5 hl6 hl7
              generalize W5.putObj (R + 1) (.map (entsI .i64 (e2.eraseIdx j2)) n2) = W6 at *
              obtain ⟨d0, d1, d2, d3, d4, d5⟩ := cells6 hD6
              have hl5 : D < W6.heap.size := (Array.getElem?_eq_some_iff.1 hD6).1
              have hdl := fun ty => Dict.strike Try.underlying26 h16 HI.out.2.2.1 ty
              clear hD6 h16
              go_wp2_with fail
              go_meet
              case rel => exact ⟨_, _, _, _, _, _, _, HG.out⟩
          have q0 : (op == 0) = false := by simp [p0]
          have q1 : (op == 1) = false := by simp [p1]
          have q2 : (op == 2) = false := by simp [p2]
          clear p0 p1 p2
          go_wp2_with fail
          go_meet
          case rel => exact ⟨_, _, _, _, _, _, _, HM1.out⟩
        case rest =>
          obtain ⟨o, m, g, e1, e2, n1, n2, hM⟩ := hcut
          obtain ⟨hc1, hc2⟩ := hM.count
          obtain ⟨p, hp⟩ : ∃ p, p = (waitL o m (List.range 32)).length := ⟨_, rfl⟩
          have hwt := fun (W : World) (hW : Bxs W w.heap.size o m) => wait_any hW
          rw [← hp] at hwt hc1
          have hwr : IntKind.i64.wrap ((e1.length : Int) - (e2.length : Int)) = (e1.length : Int) - (e2.length : Int) := IntWalk.i64_in _ (by omega)
          have hwk : IntKind.i64.wrap ((k : Int) + 1) = (k : Int) + 1 := IntWalk.i64_in _ (by omega)
          have hne : ((p : Int) != (e1.length : Int) - (e2.length : Int)) = false := by simp; omega
          have HW := Lib.hid hwt
          have HM2 := Lib.hid hM
          have hNc : w.heap.size ≤ wc.heap.size := hM.below.size
          clear hwt hp hM
          go_wp2_with (go_at_call 18; (with_reducible refine (HW.out _ HM2.out.bx).mono ?_); rintro e w2 ⟨⟨qa, qc, rfl⟩, hb2⟩; have HM3 := Lib.hid (HM2.out.keep hNc hb2); have hlen1 := @run_mapLen Try.prog w2 26 3 3 3 .i64 Try.underlying26 R n1 e1 HM3.out.h1; have hlen2 := @run_mapLen Try.prog w2 27 3 30 3 .i64 Try.underlying27 (R + 1) n2 e2 HM3.out.h2; simp only [goInt] at hlen1 hlen2)
          go_roundw
          case rel => exact ⟨k + 1, hk2, rfl, _, _, _, _, _, _, _, HM3.out⟩
          case measure => simp [intOf]; omega
      · have hdk : decide ((k : Int) < (l.length : Int)) = false := by simp; omega
        have HM := Lib.hid hM
        clear hM
        go_wp2_with (go_at_call 13; (with_reducible refine (alive27_any _).mono ?_); rintro e w' ⟨rfl, hb⟩)
        go_ret
        exact ⟨rfl, HM.out.below.trans (hb.mono HM.out.below.size)⟩
end Go.Proofs.Ytljfloopjgpaeaa
