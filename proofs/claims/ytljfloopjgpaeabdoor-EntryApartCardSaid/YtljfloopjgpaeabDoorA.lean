/- What cells say of rows (slices), and of programs; plain functions of programs. Nothing of the dump is named here. -/
import Derived.WalkKit
namespace Go.Proofs.YtljfloopjgpaeabDoor
set_option linter.unusedVariables false
set_option linter.unusedSimpArgs false
open Go.RowKit

/-- A whole number of 64 bits, of 8 bits. -/
def I64 (x : Int) : Prop := -9223372036854775808 ≤ x ∧ x ≤ 9223372036854775807
def U8 (x : Int) : Prop := 0 ≤ x ∧ x ≤ 255

/-- A kind: how many cells a value takes, and what they say. -/
structure Kn (α : Type) where
  sz : Nat
  K : World → α → List Value → Prop
  keep : ∀ {w w' : World} {x : α} {cs : List Value}, Below w.heap.size w w' → K w x cs → K w' x cs

namespace Kn
variable {α : Type}
/-- The slice value v reads as the list l. -/
def R (d : Kn α) (w : World) (v : Value) (l : List α) : Prop :=
  ∃ A c, v = .slice A l.length c ∧ l.length ≤ c ∧ c ≤ maxLen ∧ l.length ≤ 140737488351232 ∧
    (0 < l.length → ∃ b o, A = some ⟨b, o, none⟩ ∧ b < w.heap.size ∧ ∀ i x, l[i]? = some x → ∃ cs, d.K w x cs ∧ ∀ j u, cs[j]? = some u → w.cell? ⟨b, o + i * d.sz + j, none⟩ = some u)

theorem R.keep {d : Kn α} {w w' : World} {v : Value} {l : List α} (h : d.R w v l) (hb : Below w.heap.size w w') : d.R w' v l := by
  obtain ⟨A, c, hv, hl, hm, hr, h⟩ := h
  refine ⟨A, c, hv, hl, hm, hr, fun h0 => ?_⟩
  obtain ⟨b, o, hA, hbs, hx⟩ := h h0
  refine ⟨b, o, hA, Nat.lt_of_lt_of_le hbs hb.size, fun i x hi => ?_⟩
  obtain ⟨cs, hk, hc⟩ := hx i x hi
  exact ⟨cs, d.keep hb hk, fun j u hj => (hb.cell (p := ⟨b, o + i * d.sz + j, none⟩) hbs).trans (hc j u hj)⟩

theorem R.val {d : Kn α} {w : World} {v : Value} {l : List α} (h : d.R w v l) : ∃ A c, v = .slice A l.length c ∧ l.length ≤ c ∧ c ≤ maxLen ∧ l.length ≤ 140737488351232 := by
  obtain ⟨A, c, hv, hl, hm, hr, _⟩ := h
  exact ⟨A, c, hv, hl, hm, hr⟩

/-- Element i. -/
theorem R.at {d : Kn α} {w : World} {A : Option Addr} {n c : Nat} {l : List α} (h : d.R w (.slice A n c) l) {i : Nat} (hi : i < l.length) :
    ∃ b o cs, A = some ⟨b, o, none⟩ ∧ b < w.heap.size ∧ d.K w l[i] cs ∧ ∀ j u, cs[j]? = some u → w.cell? ⟨b, o + i * d.sz + j, none⟩ = some u := by
  obtain ⟨A', c', hv, _, _, _, h⟩ := h
  obtain ⟨rfl, rfl, rfl⟩ : A = A' ∧ n = l.length ∧ c = c' := by simpa using hv
  obtain ⟨b, o, hA, hb, hx⟩ := h (by omega)
  obtain ⟨cs, hk, hc⟩ := hx i l[i] (List.getElem?_eq_getElem hi)
  exact ⟨b, o, cs, hA, hb, hk, hc⟩

/-- Element i, of one cell. -/
theorem R.at1 {d : Kn α} (hs : d.sz = 1) {w : World} {A : Option Addr} {n c : Nat} {l : List α} (h : d.R w (.slice A n c) l) {i : Nat} (hi : i < l.length) :
    ∃ b o cs, A = some ⟨b, o, none⟩ ∧ b < w.heap.size ∧ d.K w l[i] cs ∧ ∀ u, cs[0]? = some u → w.cell? ⟨b, o + i, none⟩ = some u := by
  obtain ⟨b, o, cs, hA, hb, hk, hc⟩ := h.at hi
  refine ⟨b, o, cs, hA, hb, hk, fun u hu => ?_⟩
  have := hc 0 u hu
  rwa [hs, Nat.mul_one, Nat.add_zero] at this

/-- All of the elements' cells are scalars. -/
def flat (sz : Nat) (enc : α → List Value) (P : α → Prop) : Kn α := ⟨sz, fun _ x cs => cs = enc x ∧ P x, fun _ h => h⟩
/-- A slice in one cell. -/
def slice (d : Kn α) : Kn (List α) := ⟨1, fun w l cs => ∃ v, cs = [v] ∧ d.R w v l, fun hb ⟨v, hv, h⟩ => ⟨v, hv, R.keep h hb⟩⟩
end Kn

structure InsV where
  op : Int
  a : Int
  b : Int
  ch : Int
  k : Int
  deriving DecidableEq, Inhabited
structure CaseV where
  send : Bool
  ch : Int
  val : Int
  ok : Int
  deriving DecidableEq, Inhabited
structure SiteV where
  cases : List CaseV
  dflt : Bool
  deriving DecidableEq, Inhabited
structure ProgV where
  caps : List Int
  codes : List (List InsV)
  sites : List SiteV
  deriving DecidableEq, Inhabited

def InsV.cells (x : InsV) : List Value := [.int .u8 x.op, .int .i64 x.a, .int .i64 x.b, .int .i64 x.ch, .int .i64 x.k]
def InsV.agg (x : InsV) : Value := .agg #[.int .u8 x.op, .int .i64 x.a, .int .i64 x.b, .int .i64 x.ch, .int .i64 x.k]
def InsV.wf (x : InsV) : Prop := U8 x.op ∧ I64 x.a ∧ I64 x.b ∧ I64 x.ch ∧ I64 x.k
def CaseV.cells (x : CaseV) : List Value := [.bool x.send, .int .i64 x.ch, .int .i64 x.val, .int .i64 x.ok]
def CaseV.agg (x : CaseV) : Value := .agg #[.bool x.send, .int .i64 x.ch, .int .i64 x.val, .int .i64 x.ok]
def CaseV.wf (x : CaseV) : Prop := I64 x.ch ∧ I64 x.val ∧ I64 x.ok

def kInt : Kn Int := Kn.flat 1 (fun x => [.int .i64 x]) I64
def kIns : Kn InsV := Kn.flat 5 InsV.cells InsV.wf
def kCase : Kn CaseV := Kn.flat 4 CaseV.cells CaseV.wf
def kSite : Kn SiteV := ⟨2, fun w s cs => ∃ v, cs = [v, .bool s.dflt] ∧ kCase.R w v s.cases, fun hb ⟨v, hv, h⟩ => ⟨v, hv, h.keep hb⟩⟩

/-- The three slices of a program read as P. -/
structure RProg (w : World) (c1 c2 c3 : Value) (P : ProgV) : Prop where
  caps : kInt.R w c1 P.caps
  codes : kIns.slice.R w c2 P.codes
  sites : kSite.R w c3 P.sites
theorem RProg.keep {w w' : World} {c1 c2 c3 : Value} {P : ProgV} (h : RProg w c1 c2 c3 P) (hb : Below w.heap.size w w') : RProg w' c1 c2 c3 P :=
  ⟨h.caps.keep hb, h.codes.keep hb, h.sites.keep hb⟩

theorem kInt_at {w : World} {A : Option Addr} {n c : Nat} {l : List Int} (h : kInt.R w (.slice A n c) l) {i : Nat} (hi : i < l.length) :
    ∃ b o, A = some ⟨b, o, none⟩ ∧ b < w.heap.size ∧ w.cell? ⟨b, o + i, none⟩ = some (.int .i64 l[i]) ∧ I64 l[i] := by
  obtain ⟨b, o, cs, hA, hb, ⟨rfl, hp⟩, hc⟩ := Kn.R.at1 rfl h hi
  exact ⟨b, o, hA, hb, hc _ rfl, hp⟩

theorem kIns_at {w : World} {A : Option Addr} {n c : Nat} {l : List InsV} (h : kIns.R w (.slice A n c) l) {i : Nat} (hi : i < l.length) :
    ∃ b o, A = some ⟨b, o, none⟩ ∧ b < w.heap.size ∧ w.cell? ⟨b, o + i * 5, none⟩ = some (.int .u8 l[i].op) ∧ w.cell? ⟨b, o + i * 5 + 1, none⟩ = some (.int .i64 l[i].a) ∧
      w.cell? ⟨b, o + i * 5 + 2, none⟩ = some (.int .i64 l[i].b) ∧ w.cell? ⟨b, o + i * 5 + 3, none⟩ = some (.int .i64 l[i].ch) ∧ w.cell? ⟨b, o + i * 5 + 4, none⟩ = some (.int .i64 l[i].k) ∧ l[i].wf := by
  obtain ⟨b, o, cs, hA, hb, ⟨rfl, hp⟩, hc⟩ := h.at hi
  exact ⟨b, o, hA, hb, hc 0 _ rfl, hc 1 _ rfl, hc 2 _ rfl, hc 3 _ rfl, hc 4 _ rfl, hp⟩

theorem kCase_at {w : World} {A : Option Addr} {n c : Nat} {l : List CaseV} (h : kCase.R w (.slice A n c) l) {i : Nat} (hi : i < l.length) :
    ∃ b o, A = some ⟨b, o, none⟩ ∧ b < w.heap.size ∧ w.cell? ⟨b, o + i * 4, none⟩ = some (.bool l[i].send) ∧ w.cell? ⟨b, o + i * 4 + 1, none⟩ = some (.int .i64 l[i].ch) ∧
      w.cell? ⟨b, o + i * 4 + 2, none⟩ = some (.int .i64 l[i].val) ∧ w.cell? ⟨b, o + i * 4 + 3, none⟩ = some (.int .i64 l[i].ok) ∧ l[i].wf := by
  obtain ⟨b, o, cs, hA, hb, ⟨rfl, hp⟩, hc⟩ := h.at hi
  exact ⟨b, o, hA, hb, hc 0 _ rfl, hc 1 _ rfl, hc 2 _ rfl, hc 3 _ rfl, hp⟩

theorem kInss_at {w : World} {A : Option Addr} {n c : Nat} {l : List (List InsV)} (h : kIns.slice.R w (.slice A n c) l) {i : Nat} (hi : i < l.length) :
    ∃ b o A2 c2, A = some ⟨b, o, none⟩ ∧ b < w.heap.size ∧ w.cell? ⟨b, o + i, none⟩ = some (.slice A2 l[i].length c2) ∧ kIns.R w (.slice A2 l[i].length c2) l[i] ∧ l[i].length ≤ c2 ∧ c2 ≤ maxLen ∧ l[i].length ≤ 140737488351232 := by
  obtain ⟨b, o, cs, hA, hb, ⟨v, rfl, hp⟩, hc⟩ := Kn.R.at1 rfl h hi
  obtain ⟨A2, c2, rfl, h1, h2, h3⟩ := hp.val
  exact ⟨b, o, A2, c2, hA, hb, hc _ rfl, hp, h1, h2, h3⟩

theorem kSite_at {w : World} {A : Option Addr} {n c : Nat} {l : List SiteV} (h : kSite.R w (.slice A n c) l) {i : Nat} (hi : i < l.length) :
    ∃ b o A2 c2, A = some ⟨b, o, none⟩ ∧ b < w.heap.size ∧ w.cell? ⟨b, o + i * 2, none⟩ = some (.slice A2 l[i].cases.length c2) ∧ w.cell? ⟨b, o + i * 2 + 1, none⟩ = some (.bool l[i].dflt) ∧
      kCase.R w (.slice A2 l[i].cases.length c2) l[i].cases ∧ l[i].cases.length ≤ c2 ∧ c2 ≤ maxLen ∧ l[i].cases.length ≤ 140737488351232 := by
  obtain ⟨b, o, cs, hA, hb, ⟨v, rfl, hp⟩, hc⟩ := h.at hi
  obtain ⟨A2, c2, rfl, h1, h2, h3⟩ := hp.val
  exact ⟨b, o, A2, c2, hA, hb, hc 0 _ rfl, hc 1 _ rfl, hp, h1, h2, h3⟩

/-! ### Plain functions -/
def capB (n : Int) : Bool := decide (0 ≤ n) && decide (n ≤ 8)
/-- What is wrong with a program's channels, sites: where, and which error. -/
def chansW (P : ProgV) : Option (Int × Int × Int) := if P.caps.length ≤ 6 then (P.caps.findIdx? (fun n => !capB n)).map (fun k => ((k : Int), 0, 110)) else some (0, 0, 110)
def regB (k : Int) : Bool := decide (0 ≤ k) && decide (k < 8)
def fitsB (c : CaseV) (chans : Int) : Bool := decide (-1 ≤ c.ch) && decide (c.ch < chans) && regB c.val && regB c.ok && !(c.send && c.ok != 0)
def siteB (s : SiteV) (chans : Int) : Bool := decide (1 ≤ s.cases.length) && decide (s.cases.length ≤ 6) && s.cases.all (fitsB · chans)

/-- The first k of a list are so. -/
def Pre {α : Type} (p : α → Bool) (l : List α) (k : Nat) : Prop := ∀ j x, j < k → l[j]? = some x → p x = true
theorem Pre.zero {α : Type} (p : α → Bool) (l : List α) : Pre p l 0 := fun _ _ h => absurd h (Nat.not_lt_zero _)
theorem Pre.succ {α : Type} {p : α → Bool} {l : List α} {k : Nat} (h : Pre p l k) (hk : k < l.length) (hp : p l[k] = true) : Pre p l (k + 1) := fun j x hj hx => by
  rcases Nat.lt_succ_iff_lt_or_eq.1 hj with hj | rfl
  · exact h j x hj hx
  · rw [List.getElem?_eq_getElem hk] at hx
    exact Option.some.inj hx ▸ hp
theorem Pre.all {α : Type} {p : α → Bool} {l : List α} (h : Pre p l l.length) : l.all p = true := by
  rw [List.all_eq_true]
  intro x hx
  obtain ⟨j, hj, rfl⟩ := List.getElem_of_mem hx
  exact h j _ hj (List.getElem?_eq_getElem hj)
theorem Pre.none {α : Type} {p : α → Bool} {l : List α} (h : Pre p l l.length) : l.findIdx? (fun x => !p x) = Option.none := by
  rw [List.findIdx?_eq_none_iff]
  intro x hx
  simp [List.all_eq_true.1 h.all x hx]
theorem Pre.bad {α : Type} {p : α → Bool} {l : List α} {k : Nat} (h : Pre p l k) (hk : k < l.length) (hp : p l[k] = false) : l.findIdx? (fun x => !p x) = some k := by
  rw [List.findIdx?_eq_some_iff_getElem]
  exact ⟨hk, by simp [hp], fun j hj => by simp [h j _ hj (List.getElem?_eq_getElem (by omega))]⟩
theorem Pre.not_all {α : Type} {p : α → Bool} {l : List α} {k : Nat} (hk : k < l.length) (hp : p l[k] = false) : l.all p = false := by
  rw [List.all_eq_false]
  exact ⟨l[k], List.getElem_mem hk, by simp [hp]⟩
theorem ret_bool {a b : Bool} (h : a = b) : Ending.returned (.bool a) = .returned (.bool b) := by rw [h]
theorem ret_int {k : IntKind} {a b : Int} (h : a = b) : Ending.returned (.int k a) = .returned (.int k b) := by rw [h]

theorem chansW_ok {P : ProgV} (h6 : P.caps.length ≤ 6) (h : Pre capB P.caps P.caps.length) : chansW P = none := by rw [chansW, if_pos h6, h.none]; rfl
theorem chansW_bad {P : ProgV} (h6 : P.caps.length ≤ 6) {k : Nat} (h : Pre capB P.caps k) (hk : k < P.caps.length) (hp : capB P.caps[k] = false) : chansW P = some ((k : Int), 0, 110) := by rw [chansW, if_pos h6, h.bad hk hp]; rfl
theorem chansW_many {P : ProgV} (h6 : ¬ P.caps.length ≤ 6) : chansW P = some (0, 0, 110) := by rw [chansW, if_neg h6]
def siteP (P : ProgV) (s : SiteV) : Bool := siteB s P.caps.length
def sitesW (P : ProgV) : Option (Int × Int × Int) := if P.sites.length ≤ 12 then (P.sites.findIdx? (fun s => !siteP P s)).map (fun k => ((k : Int), 0, 111)) else some (0, 0, 111)
theorem sitesW_ok {P : ProgV} (h6 : P.sites.length ≤ 12) (h : Pre (siteP P) P.sites P.sites.length) : sitesW P = none := by rw [sitesW, if_pos h6, h.none]; rfl
theorem sitesW_bad {P : ProgV} (h6 : P.sites.length ≤ 12) {k : Nat} (h : Pre (siteP P) P.sites k) (hk : k < P.sites.length) (hp : siteP P P.sites[k] = false) : sitesW P = some ((k : Int), 0, 111) := by rw [sitesW, if_pos h6, h.bad hk hp]; rfl
theorem sitesW_many {P : ProgV} (h6 : ¬ P.sites.length ≤ 12) : sitesW P = some (0, 0, 111) := by rw [sitesW, if_neg h6]
def lastB (l : List InsV) : Bool := decide ((l.getD (l.length - 1) ⟨0, 0, 0, 0, 0⟩).op = 10) || decide ((l.getD (l.length - 1) ⟨0, 0, 0, 0, 0⟩).op = 3)
def endsW (P : ProgV) : Option (Int × Int × Int) := (P.codes.findIdx? (fun l => !lastB l)).map (fun k => ((k : Int), 0, 113))
theorem endsW_ok {P : ProgV} (h : Pre lastB P.codes P.codes.length) : endsW P = none := by rw [endsW, h.none]; rfl
theorem endsW_bad {P : ProgV} {k : Nat} (h : Pre lastB P.codes k) (hk : k < P.codes.length) (hp : lastB P.codes[k] = false) : endsW P = some ((k : Int), 0, 113) := by rw [endsW, h.bad hk hp]; rfl

/-- After a contract that leaves old memory alone: what was there is there. -/
theorem bcell {W w1 : World} (hb : Below W.heap.size W w1) : (∀ b o, b < W.heap.size → w1.cell? ⟨b, o, none⟩ = W.cell? ⟨b, o, none⟩) ∧ (∀ b o, b < W.heap.size → w1.frozen? ⟨b, o, none⟩ = W.frozen? ⟨b, o, none⟩) :=
  ⟨fun b o h => hb.cell (p := ⟨b, o, none⟩) h, fun b o h => hb.frozen (p := ⟨b, o, none⟩) h⟩
/-- A cell below B, behind steps that leave all below B alone. -/
theorem Below.at {B : Nat} {W w1 : World} (hb : Below B W w1) {b o : Nat} {v : Value} (h : W.cell? ⟨b, o, none⟩ = some v) (hB : b < B) : w1.cell? ⟨b, o, none⟩ = some v :=
  (hb.cell (p := ⟨b, o, none⟩) hB).trans h
end Go.Proofs.YtljfloopjgpaeabDoor
