/- entry.Line: its sink; Word; Line. -/
import Derived.Test.YtljfloopjgpaeabDoorVR
import Derived.Test.YtljfloopjgpaeabDoorVI
import Derived.Test.YtljfloopjgpaeabDoorVL
namespace Go.Proofs.YtljfloopjgpaeabDoor
set_option linter.unusedVariables false
set_option linter.unusedSimpArgs false
open Go.RowKit Go.Shelf
attribute [local go_sem] Oper.semAt_some
set_option maxRecDepth 100000
theorem CellsKept.tab {w w' : World} (h : CellsKept w w') (ht : Tab10 w) : Tab10 w' := by
  unfold Tab10 Lib.TabIs World.var? at *
  cases hg : Tryd.prog.globalNamed "internal/strconv.uint64pow10" with
  | none => simp [hg] at ht
  | some g =>
    simp only [hg, Option.bind_some] at ht ⊢
    cases ho : w.heap[g]? with
    | none => rw [ho] at ht; cases ht
    | some o =>
      rw [ho] at ht
      cases o with
      | cells cs T z => rw [h.2 _ _ _ _ ho]; exact ht
      | _ => cases ht
/-- A text that begins with a digit. -/
def isLn (s : ByteArray) : Prop := ∃ c t, s = ⟨(c :: t : List UInt8).toArray⟩ ∧ c.toNat < 58
theorem names_not {s : ByteArray} (h : s ∈ all11) : ¬ isLn s := by
  rintro ⟨c, t, rfl, hc⟩
  have h1 : ∀ (b : UInt8) (r : List UInt8), (⟨(c :: t : List UInt8).toArray⟩ : ByteArray) = ⟨(b :: r).toArray⟩ → c = b := fun b r e => by
    injection e with e
    have := congrArg Array.toList e
    simp at this
    exact this.1
  rcases mem11 h with e | e | e | e | e | e | e | e | e | e | e
  · have := h1 119 [111, 114, 107, 101, 114] e; subst this; revert hc; decide
  · have := h1 116 [97, 115, 107] e; subst this; revert hc; decide
  · have := h1 112 [101, 101, 114] e; subst this; revert hc; decide
  · have := h1 99 [104] e; subst this; revert hc; decide
  · have := h1 99 [97, 115, 101] e; subst this; revert hc; decide
  · have := h1 112 [101, 101, 114, 99, 97, 115, 101] e; subst this; revert hc; decide
  · have := h1 118 [97, 108] e; subst this; revert hc; decide
  · have := h1 118 [97, 108, 50] e; subst this; revert hc; decide
  · have := h1 111 [107] e; subst this; revert hc; decide
  · have := h1 99 [111, 100, 101] e; subst this; revert hc; decide
  · have := h1 115 [101, 116] e; subst this; revert hc; decide
def ModLn (b k : Nat) (o : Obj) : Prop := k = b ∧ ∃ s z, o = .cells #[.string s] 9 z ∧ isLn s
theorem ModLn.free (b : Nat) : Free (ModLn b) where
  ent := fun k cs z ⟨_, _, _, h, _⟩ => by injection h with _ h; revert h; decide
  fn := fun k cs z ⟨_, _, _, h, _⟩ => by injection h with _ h; revert h; decide
  str := fun k cs z i s hi hs ⟨_, s0, z0, h, hl⟩ => by
    injection h with h
    subst h
    match i, hi with
    | 0, hi =>
      have hi' : Value.string s0 = Value.string s := by simpa using hi
      injection hi' with e
      subst e
      exact names_not hs hl
    | n + 1, hi => simp at hi
  ptr := fun k cs z ⟨_, _, _, h, _⟩ => by injection h with _ h; revert h; decide
  oth := fun k o ho ⟨_, _, _, h, _⟩ => by subst h; cases ho
def lineE : Ev → List UInt8
  | .small _ v => 32 :: Lib.itoa v
  | .wide v => 32 :: Lib.itoa v
  | .plain n => 32 :: Lib.decDigits n
def lineB (l : List Ev) : List UInt8 := l.flatMap lineE
theorem lineB_snoc (l : List Ev) (ev : Ev) : lineB (l ++ [ev]) = lineB l ++ lineE ev := by simp [lineB]
def okLn (x : EntV) : Ev → Prop
  | .small _ v => -9223372036854775808 ≤ v ∧ v ≤ 9223372036854775807
  | .wide v => -9223372036854775808 ≤ v ∧ v ≤ 9223372036854775807
  | .plain n => n < 18446744073709551616 ∧ (x.kind = 25 → x.set = n)
/-- The boxes of Line. -/
structure LnS (x : EntV) (E b q : Nat) (l0 : List UInt8) (evs : List Ev) (w : World) : Prop where
  ent : XAt E x w
  str : w.heap[b]? = some (.cells #[.string ⟨(l0 ++ lineB evs).toArray⟩] 9 (0, 0))
  put : w.heap[q]? = some (.cells #[.func (.func 40) #[] #[.pointer (some ⟨b, 0, none⟩)]] 64 (0, 0))
  tab : Tab10 w
  len : (l0 ++ lineB evs).length ≤ 100 + 30 * evs.length
theorem LnS.next {x : EntV} {E b q B : Nat} {l0 m : List UInt8} {evs : List Ev} {w w1 : World} {ev : Ev} (hl0 : ∃ c t, l0 = c :: t ∧ c.toNat < 58) (h : LnS x E b q l0 evs w) (hB : B ≤ b) (hBw : B ≤ w.heap.size) (hm : lineE ev = 32 :: m) (hml : m.length ≤ 25) (hb : Below w.heap.size w w1) :
    LnS x E b q l0 (evs ++ [ev]) (w1.setCell ⟨b, 0, none⟩ (.string ⟨(l0 ++ lineB evs ++ 32 :: m).toArray⟩)) ∧ KeepsM (ModLn b) w (w1.setCell ⟨b, 0, none⟩ (.string ⟨(l0 ++ lineB evs ++ 32 :: m).toArray⟩)) ∧ Below B w (w1.setCell ⟨b, 0, none⟩ (.string ⟨(l0 ++ lineB evs ++ 32 :: m).toArray⟩)) := by
  have hs1 := (hb.block _ (Array.getElem?_eq_some_iff.1 h.str).1).trans h.str
  have he1 := (hb.block _ (Array.getElem?_eq_some_iff.1 h.ent).1).trans h.ent
  have hp1 := (hb.block _ (Array.getElem?_eq_some_iff.1 h.put).1).trans h.put
  have hne : ∀ {k : Nat} {cs : Array Value} {T : Nat} {z : Nat × Nat}, w1.heap[k]? = some (.cells cs T z) → T ≠ 9 → k ≠ b := fun hk hT => ty_ne hk hs1 hT
  have hck : ∀ {k : Nat}, k ≠ b → (w1.setCell ⟨b, 0, none⟩ (.string ⟨(l0 ++ lineB evs ++ 32 :: m).toArray⟩)).heap[k]? = w1.heap[k]? := fun hk => Below.heap_setCell _ _ _ _ hk
  have hlast : ∀ {k : Nat} {o : Obj}, w1.heap[k]? = some o → ¬ ModLn b k o → (w1.setCell ⟨b, 0, none⟩ (.string ⟨(l0 ++ lineB evs ++ 32 :: m).toArray⟩)).heap[k]? = some o := fun {k o} hk hm' => by
    refine (hck ?_).trans hk
    rintro rfl
    rw [hs1] at hk
    cases hk
    obtain ⟨c, t, e, hc⟩ := hl0
    exact hm' ⟨rfl, _, _, rfl, c, t ++ lineB evs, by rw [e]; rfl, hc⟩
  refine ⟨⟨(hck (hne he1 (by decide))).trans he1, ?_, (hck (hne hp1 (by decide))).trans hp1, ?_, ?_⟩, ⟨by simp; exact hb.size, fun k o hk hm' => hlast ((hb.block _ (Array.getElem?_eq_some_iff.1 hk).1).trans hk) hm'⟩, (hb.mono hBw).setCell (p := ⟨b, 0, none⟩) hB _⟩
  · rw [lineB_snoc, hm, ← List.append_assoc]
    simp [World.setCell, Array.getElem?_modify, hs1]
  · have ht1 := Tab10.keep h.tab hb
    unfold Tab10 Lib.TabIs World.var? at *
    cases hg : Tryd.prog.globalNamed "internal/strconv.uint64pow10" with
    | none => simp [hg] at ht1
    | some g =>
      simp only [hg, Option.bind_some] at ht1 ⊢
      by_cases e : g = b
      · subst e
        rw [hs1] at ht1
        exfalso
        simp [Lib.pow10Tab] at ht1
        have := congrArg List.length ht1
        simp at this
      · rw [hck e]
        exact ht1
  · have := h.len
    rw [lineB_snoc, hm]
    simp only [List.length_append, List.length_cons, List.length_singleton] at this ⊢
    omega
theorem sinkLn (x : EntV) (E b q B : Nat) (l0 : List UInt8) (hl0 : ∃ c t, l0 = c :: t ∧ c.toNat < 58) (hB : B ≤ b) : Sink (ModLn b) B (LnS x E b q l0) (okLn x) 42 44 45 #[.pointer (some ⟨q, 0, none⟩)] #[.pointer (some ⟨q, 0, none⟩)] #[.pointer (some ⟨E, 0, none⟩), .pointer (some ⟨q, 0, none⟩)] where
  keep := fun evs w w' h hk => ⟨hk.2 _ _ _ _ h.ent, hk.2 _ _ _ _ h.str, hk.2 _ _ _ _ h.put, hk.tab h.tab, h.len⟩
  es := enters_of Tryd.func42 (by kernel_rfl) rfl
  ew := enters_of Tryd.func44 (by kernel_rfl) rfl
  ep := enters_of Tryd.func45 (by kernel_rfl) rfl
  small := fun evs w s v h hok hlen hBw => by
    refine (line2_any h.str h.put (by have := h.len; omega) h.tab hok.1 hok.2 s).mono ?_
    rintro e w' ⟨rfl, w1, hb, rfl⟩
    exact ⟨rfl, h.next hl0 hB hBw rfl (Nat.le_trans (itoa_len hok.1 hok.2) (by decide)) hb⟩
  wide := fun evs w v h hok hlen hBw => by
    refine (line3_any h.str h.put (by have := h.len; omega) h.tab hok.1 hok.2).mono ?_
    rintro e w' ⟨rfl, w1, hb, rfl⟩
    exact ⟨rfl, h.next hl0 hB hBw rfl (Nat.le_trans (itoa_len hok.1 hok.2) (by decide)) hb⟩
  plain := fun evs w n h hok hlen hBw => by
    refine (line4_any h.str h.put (Ly.cellAt h.ent 1 rfl) (Ly.cellAt h.ent 12 rfl) (Array.getElem?_eq_some_iff.1 h.ent).1 (by have := h.len; omega) h.tab hok.1 hok.2).mono ?_
    rintro e w' ⟨rfl, w1, hb, rfl⟩
    exact ⟨rfl, h.next hl0 hB hBw rfl (Nat.le_trans (dec_len hok.1) (by decide)) hb⟩
/-- A kind's word. -/
def wordOf (k : Int) : ByteArray := match hasOf k with | none => ⟨#[]⟩ | some p => p.1
theorem field_form0 (a : ByteArray) (u : Value) (w : World) : (Instr.field 96 (.agg #[.string a, u]) 0).run Tryd.prog w = .ok (.string a) w := by rfl
theorem eWord_any (k : Int) (w : World) : Calls Tryd.prog 20 #[.int .u8 k] w fun e w' => e = .returned (.string (wordOf k)) ∧ Below w.heap.size w w' := by
  unfold wordOf
  cases hk : hasOf k with
  | none =>
    have hf := fun W => forms_no hk W
    have HF := Lib.hid hf
    clear hf hk
    go_enter Tryd.func20, Tryd.ntmps20
    go_wp2_with ((with_reducible refine (HF.out _).mono ?_); rintro e w1 ⟨v, φ, rfl, ⟨rr, rfl, rfl⟩, hφ, hb⟩; (have q_ := ask1_no hφ); (have q2_ := field_form0 ⟨#[]⟩ (.slice none 0 0) w1); (have HB := Lib.hid hb); clear hφ hb)
    go_ret
    exact ⟨rfl, HB.out⟩
  | some p =>
    have hf := fun W => forms_yes hk W
    have HF := Lib.hid hf
    clear hf hk
    go_enter Tryd.func20, Tryd.ntmps20
    go_wp2_with ((with_reducible refine (HF.out _).mono ?_); rintro e w1 ⟨v, φ, rfl, ⟨rr, A, c, rfl, rfl⟩, hφ, hb⟩; (have q_ := ask1_yes hφ); (have q2_ := field_form0 p.1 (.slice A p.2.length c) w1); (have HB := Lib.hid hb); clear hφ hb)
    go_ret
    exact ⟨rfl, HB.out⟩
end Go.Proofs.YtljfloopjgpaeabDoor
