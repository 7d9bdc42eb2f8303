/- ins.Check. -/
import Derived.Deep.RegionHeld3
import Derived.Deep.RegionWith
import Derived.Deep.DeepCutAuto
import Derived.Test.YtljfloopjgpaeaaF
namespace Go.Proofs.Ytljfloopjgpaeaa
set_option linter.unusedVariables false
set_option linter.unusedSimpArgs false
open Go.RowKit
set_option maxRecDepth 100000

/-- Does a text of names end with c? -/
def sufB (has : ByteArray) (c : UInt8) : Bool := Lib.hasSuffix has.data.toList [c]
theorem suffix_any (has : ByteArray) (c : UInt8) (w : World) (h : has.size ≤ 9223372036854775807) : Calls Try.prog 67 #[.string has, .string ⟨#[c]⟩] w fun e w' => e = .returned (.bool (sufB has c)) ∧ w = w' :=
  (Try.strings_HasSuffix has ⟨#[c]⟩ w h).mono fun _ _ ⟨h1, h2⟩ => ⟨h1, h2.symm⟩
theorem reg1_any (k : Int) (w : World) : Calls Try.prog 66 #[.int .i64 k] w fun e w' => e = .returned (.bool (regB k)) ∧ w = w' := by
  by_cases h1 : 0 ≤ k
  · by_cases h2 : k < 8
    · have h3 : ¬ (8 ≤ k) := by omega
      go_enter Try.func66, Try.ntmps66
      go_wp2
      go_ret
      exact ⟨ret_bool (by simp [regB, h1, h2]), rfl⟩
    · have h3 : 8 ≤ k := by omega
      go_enter Try.func66, Try.ntmps66
      go_wp2
      go_ret
      exact ⟨ret_bool (by simp [regB, h2]), rfl⟩
  · have h3 : k < 0 := by omega
    go_enter Try.func66, Try.ntmps66
    go_wp2
    go_ret
    exact ⟨ret_bool (by simp [regB]; omega), rfl⟩

def hasOf (op : Int) : Option ByteArray :=
  if op = 1 then some ⟨#[97, 107]⟩ else if op = 2 then some ⟨#[97, 98]⟩ else if op = 3 then some ⟨#[107]⟩ else if op = 4 then some ⟨#[97, 107]⟩ else if op = 5 then some ⟨#[97, 99]⟩ else if op = 6 then some ⟨#[97, 98, 99]⟩
  else if op = 7 then some ⟨#[99]⟩ else if op = 8 then some ⟨#[98, 107]⟩ else if op = 9 then some ⟨#[107]⟩ else if op = 10 then some ⟨#[]⟩ else none
def mostOf (op s c l : Int) : Int := if op = 3 ∨ op = 4 then l else if op = 8 then s else if op = 9 then c else 0
def jB (op : Int) (has : ByteArray) : Bool := op != 1 && sufB has 107
def chB (ch : Int) (has : ByteArray) (n : Int) : Bool := ch != -1 && sufB has 99 && (decide (ch < 0) || decide (n ≤ ch))
def kB (k most : Int) : Bool := decide (k < 0) || decide (most ≤ k)
def okB (x : InsV) (has : ByteArray) (most n : Int) : Bool := bareB has x && (regB x.a && regB x.b) && !chB x.ch has n && !(jB x.op has && kB x.k most)
/-- ErrArg, or OK. -/
def errOf (b : Bool) : Int := if b then 0 else 2
def insB (x : InsV) (n s c l : Int) : Bool := match hasOf x.op with | none => false | some has => okB x has (mostOf x.op s c l) n

def InsBox (W : World) (B : Nat) (op a b ch k : Int) : Prop := B < W.heap.size ∧ W.cell? ⟨B, 0, none⟩ = some (.int .u8 op) ∧ W.cell? ⟨B, 1, none⟩ = some (.int .i64 a) ∧ W.cell? ⟨B, 2, none⟩ = some (.int .i64 b) ∧ W.cell? ⟨B, 3, none⟩ = some (.int .i64 ch) ∧ W.cell? ⟨B, 4, none⟩ = some (.int .i64 k)
def FormBox (W : World) (B : Nat) (word has : ByteArray) (most : Int) : Prop := B < W.heap.size ∧ W.cell? ⟨B, 0, none⟩ = some (.string word) ∧ W.cell? ⟨B, 1, none⟩ = some (.string has) ∧ W.cell? ⟨B, 2, none⟩ = some (.int .i64 most)

theorem InsBox.keep {W W' : World} {B : Nat} {op a b ch k : Int} (h : InsBox W B op a b ch k) (hb : Below W.heap.size W W') : InsBox W' B op a b ch k :=
  ⟨Nat.lt_of_lt_of_le h.1 hb.size, Below.at hb h.2.1 h.1, Below.at hb h.2.2.1 h.1, Below.at hb h.2.2.2.1 h.1, Below.at hb h.2.2.2.2.1 h.1, Below.at hb h.2.2.2.2.2 h.1⟩
theorem FormBox.keep {W W' : World} {B : Nat} {word has : ByteArray} {most : Int} (h : FormBox W B word has most) (hb : Below W.heap.size W W') : FormBox W' B word has most :=
  ⟨Nat.lt_of_lt_of_le h.1 hb.size, Below.at hb h.2.1 h.1, Below.at hb h.2.2.1 h.1, Below.at hb h.2.2.2 h.1⟩

set_option maxHeartbeats 2000000 in
theorem check_found (op a b ch k n s c l : Int) (word has : ByteArray) (most : Int) (i : Nat) (hsz : has.size ≤ 9223372036854775807) (hf : findI .u8 op (formL s c l) 0 = some (i, formV word has most)) (w : World) :
    Calls Try.prog 25 #[.agg #[.int .u8 op, .int .i64 a, .int .i64 b, .int .i64 ch, .int .i64 k], .int .i64 n, .int .i64 s, .int .i64 c, .int .i64 l] w fun e w' => e = .returned (.int .i64 (errOf (okB ⟨op, a, b, ch, k⟩ has most n))) ∧ Below w.heap.size w w' := by
  have hask : ∀ (W : World) (r : Nat), W.heap[r]? = some (.map (entsI .u8 (formL s c l)) 10) → (Instr.lookup 120 (.map (some r)) (.int .u8 op) true).run Try.prog W = .ok (.tuple #[formV word has most, .bool true]) W := fun W r h => by
    rw [forms_ask h, hf]; rfl
  have hl1 := hask (((w.alloc (.cells #[.int .u8 op, .int .i64 a, .int .i64 b, .int .i64 ch, .int .i64 k] 56)).alloc (.map (entsI .u8 (formL s c l)) 10)).drew) (w.heap.size + 1) (by have := World.alloc_heap_new (w.alloc (.cells #[.int .u8 op, .int .i64 a, .int .i64 b, .int .i64 ch, .int .i64 k] 56)) (.map (entsI .u8 (formL s c l)) 10); rwa [World.size_alloc] at this)
  have hl2 := hask ((((w.alloc (.cells #[.int .u8 op, .int .i64 a, .int .i64 b, .int .i64 ch, .int .i64 k] 56)).alloc (.map (entsI .u8 (formL s c l)) 10)).alloc (.cells #[.string ⟨#[]⟩, .string ⟨#[]⟩, .int .i64 0] 118)).drew) (w.heap.size + 1) (by have := World.alloc_heap_new (w.alloc (.cells #[.int .u8 op, .int .i64 a, .int .i64 b, .int .i64 ch, .int .i64 k] 56)) (.map (entsI .u8 (formL s c l)) 10); rw [World.size_alloc] at this; exact (Below.heap_alloc _ _ _ (by simp)).trans this)
  have hl3 := hask ((((w.alloc (.cells #[.int .u8 op, .int .i64 a, .int .i64 b, .int .i64 ch, .int .i64 k] 56)).alloc (.cells #[.string ⟨#[]⟩, .string ⟨#[]⟩, .int .i64 0] 118)).alloc (.map (entsI .u8 (formL s c l)) 10)).drew) (w.heap.size + 1 + 1) (by have := World.alloc_heap_new ((w.alloc (.cells #[.int .u8 op, .int .i64 a, .int .i64 b, .int .i64 ch, .int .i64 k] 56)).alloc (.cells #[.string ⟨#[]⟩, .string ⟨#[]⟩, .int .i64 0] 118)) (.map (entsI .u8 (formL s c l)) 10); rwa [World.size_alloc, World.size_alloc] at this)
  simp only [formV] at hl1 hl2 hl3
  clear hask hf
  go_enter Try.func25, Try.ntmps25
  go_upto_region 1 with fail
  go_cut [11, 12] (fun t11 t12 wx => ∃ g : Nat, t11 = .pointer (some ⟨g, 0, none⟩) ∧ t12 = .bool true ∧ InsBox wx w.heap.size op a b ch k ∧ FormBox wx g word has most ∧ Below w.heap.size w wx)
  case first =>
    go_region_held3 (fun w' => w'.cell? ⟨w.heap.size, 0, none⟩ = some (.int .u8 op)) (go_keep) (first | (go_at_call 64; (with_reducible refine (forms_any _ _ _ _).mono ?_); rintro e w' ⟨rfl, rfl⟩))
    all_goals
      go_wp2
      go_meet
      exact ⟨_, rfl, rfl, by simp [InsBox, go_sem], by simp [FormBox, go_sem], by (repeat (first | with_reducible exact Below.refl _ _ | (with_reducible refine Below.setCell ?_ (by first | (simp; done) | (simp; omega) | omega) _) | (with_reducible refine Below.alloc ?_ (by first | (simp; done) | (simp; omega) | omega) _) | (with_reducible refine Below.drew ?_)))⟩
  case rest =>
    clear hl1 hl2 hl3
    obtain ⟨g, rfl, rfl, hi, hf, hB⟩ := hcut
    have HI := Lib.hid hi
    have HF := Lib.hid hf
    have hsz0 := hB.size
    have HB := Lib.hid hB
    clear hB
    obtain ⟨hz1, b0, b1, b2, b3, b4⟩ := hi
    obtain ⟨hz2, q0, q1, q2⟩ := hf
    by_cases hbare : bareB has ⟨op, a, b, ch, k⟩ = true
    · go_upto_region 5 with ((with_reducible refine (bare_any _ _ _ _ _ _ _ _ _).mono ?_); rw [hbare]; rintro e w' ⟨rfl, hb'⟩)
      clear b0 b1 b2 b3 b4 q0 q1 q2 hz1 hz2
      obtain ⟨hz1, b0, b1, b2, b3, b4⟩ := HI.out.keep hb'
      obtain ⟨hz2, q0, q1, q2⟩ := HF.out.keep hb'
      have HB' := Lib.hid hb'
      have HBR := Lib.hid hbare
      clear hb' hbare HI HF
      go_cut [14] (fun t14 wx => t14 = .bool (jB op has) ∧ wx = w')
      case first =>
        by_cases ho : op = 1
        · have d1 : (op != 1) = false := by simp [ho]
          have hj : jB op has = false := by simp [jB, ho]
          have HJ := Lib.hid hj
          clear hj ho
          go_wp2
          go_meet
          exact ⟨by rw [HJ.out], rfl⟩
        · have d1 : (op != 1) = true := by simp [ho]
          have hj : jB op has = sufB has 107 := by simp [jB, ho]
          have HJ := Lib.hid hj
          clear hj ho
          go_wp2_with ((with_reducible refine (suffix_any _ _ _ hsz).mono ?_); rintro e w' ⟨rfl, rfl⟩)
          go_meet
          exact ⟨by rw [HJ.out], rfl⟩
      case rest =>
        obtain ⟨rfl, rfl⟩ := hcut
        by_cases hra : regB a = true
        · by_cases hrb : regB b = true
          · go_upto_region 8 with (first | ((with_reducible refine (reg1_any a _).mono ?_); rw [hra]; rintro e w' ⟨rfl, rfl⟩) | ((with_reducible refine (reg1_any b _).mono ?_); rw [hrb]; rintro e w' ⟨rfl, rfl⟩))
            have HRA := Lib.hid hra
            have HRB := Lib.hid hrb
            clear hra hrb
            go_cut [54] (fun t wx => t = .bool (chB ch has n) ∧ wx = wc)
            case first =>
              by_cases h1 : ch = -1
              · have d1 : (ch != -1) = false := by simp [h1]
                have hj : chB ch has n = false := by simp [chB, h1]
                have HJ := Lib.hid hj
                clear hj h1
                go_wp2
                go_meet
                exact ⟨by rw [HJ.out], rfl⟩
              · have d1 : (ch != -1) = true := by simp [h1]
                by_cases h2 : sufB has 99 = true
                · have hj : chB ch has n = (decide (ch < 0) || decide (n ≤ ch)) := by simp [chB, h1, h2]
                  have HJ := Lib.hid hj
                  clear hj h1
                  by_cases h3 : ch < 0
                  · have d2 : decide (ch < 0) = true := by simp [h3]
                    go_wp2_with ((with_reducible refine (suffix_any _ _ _ hsz).mono ?_); rw [h2]; rintro e w' ⟨rfl, rfl⟩)
                    go_meet
                    exact ⟨by rw [HJ.out]; simp [h3], rfl⟩
                  · have d2 : decide (ch < 0) = false := by simp; omega
                    go_wp2_with ((with_reducible refine (suffix_any _ _ _ hsz).mono ?_); rw [h2]; rintro e w' ⟨rfl, rfl⟩)
                    go_meet
                    exact ⟨by rw [HJ.out, d2, Bool.false_or], rfl⟩
                · have h2' := Bool.eq_false_iff.2 h2
                  have hj : chB ch has n = false := by simp [chB, h2']
                  have HJ := Lib.hid hj
                  clear hj h1 h2
                  go_wp2_with ((with_reducible refine (suffix_any _ _ _ hsz).mono ?_); rw [h2']; rintro e w' ⟨rfl, rfl⟩)
                  go_meet
                  exact ⟨by rw [HJ.out], rfl⟩
            case rest =>
              obtain ⟨rfl, rfl⟩ := hcut
              by_cases hch : chB ch has n = true
              · rw [hch]
                go_wp2
                go_ret
                exact ⟨ret_int (by simp [errOf, okB, hch]), HB.out.trans (HB'.out.mono hsz0)⟩
              · have hch' := Bool.eq_false_iff.2 hch
                clear hch
                rw [hch']
                have HCH := Lib.hid hch'
                clear hch'
                by_cases hj : jB op has = true
                · rw [hj]
                  by_cases h1 : k < 0
                  · have d1 : decide (k < 0) = true := by simp [h1]
                    go_wp2
                    go_ret
                    exact ⟨ret_int (by simp [errOf, okB, kB, hj, h1]), HB.out.trans (HB'.out.mono hsz0)⟩
                  · have d1 : decide (k < 0) = false := by simp; omega
                    by_cases h2 : most ≤ k
                    · have d2 : decide (k ≥ most) = true := by simp [h2]
                      go_wp2
                      go_ret
                      exact ⟨ret_int (by simp [errOf, okB, kB, hj, h2]), HB.out.trans (HB'.out.mono hsz0)⟩
                    · have d2 : decide (k ≥ most) = false := by simp; omega
                      have h3 : 0 ≤ k := by omega
                      have h4 : k < most := by omega
                      go_wp2
                      go_ret
                      exact ⟨ret_int (by simp [errOf, okB, kB, h1, h2, HCH.out, HRA.out, HRB.out, HBR.out]), HB.out.trans (HB'.out.mono hsz0)⟩
                · have hj' := Bool.eq_false_iff.2 hj
                  clear hj
                  rw [hj']
                  go_wp2
                  go_ret
                  exact ⟨ret_int (by simp [errOf, okB, hj', HCH.out, HRA.out, HRB.out, HBR.out]), HB.out.trans (HB'.out.mono hsz0)⟩
          · have hrb' := Bool.eq_false_iff.2 hrb
            clear hrb
            go_wp2_with (first | ((with_reducible refine (reg1_any a _).mono ?_); rw [hra]; rintro e w' ⟨rfl, rfl⟩) | ((with_reducible refine (reg1_any b _).mono ?_); rw [hrb']; rintro e w' ⟨rfl, rfl⟩))
            go_ret
            exact ⟨ret_int (by simp [errOf, okB, hrb']), HB.out.trans (HB'.out.mono hsz0)⟩
        · have hra' := Bool.eq_false_iff.2 hra
          clear hra
          go_wp2_with ((with_reducible refine (reg1_any a _).mono ?_); rw [hra']; rintro e w' ⟨rfl, rfl⟩)
          go_ret
          exact ⟨ret_int (by simp [errOf, okB, hra']), HB.out.trans (HB'.out.mono hsz0)⟩
    · have hb2 := Bool.eq_false_iff.2 hbare
      clear hbare
      go_wp2_with ((with_reducible refine (bare_any _ _ _ _ _ _ _ _ _).mono ?_); rw [hb2]; rintro e w' ⟨rfl, hb'⟩)
      go_ret
      exact ⟨ret_int (by simp [errOf, okB, hb2]), HB.out.trans (hb'.mono hsz0)⟩

set_option maxHeartbeats 2000000 in
theorem check_none (op a b ch k n s c l : Int) (hf : findI .u8 op (formL s c l) 0 = none) (w : World) :
    Calls Try.prog 25 #[.agg #[.int .u8 op, .int .i64 a, .int .i64 b, .int .i64 ch, .int .i64 k], .int .i64 n, .int .i64 s, .int .i64 c, .int .i64 l] w fun e w' => e = .returned (.int .i64 2) ∧ Below w.heap.size w w' := by
  have hask : ∀ (W : World) (r : Nat), W.heap[r]? = some (.map (entsI .u8 (formL s c l)) 10) → (Instr.lookup 120 (.map (some r)) (.int .u8 op) true).run Try.prog W = .ok (.tuple #[formZ, .bool false]) W := fun W r h => by
    rw [forms_ask h, hf]; rfl
  have hl1 := hask (((w.alloc (.cells #[.int .u8 op, .int .i64 a, .int .i64 b, .int .i64 ch, .int .i64 k] 56)).alloc (.map (entsI .u8 (formL s c l)) 10)).drew) (w.heap.size + 1) (by have := World.alloc_heap_new (w.alloc (.cells #[.int .u8 op, .int .i64 a, .int .i64 b, .int .i64 ch, .int .i64 k] 56)) (.map (entsI .u8 (formL s c l)) 10); rwa [World.size_alloc] at this)
  have hl2 := hask ((((w.alloc (.cells #[.int .u8 op, .int .i64 a, .int .i64 b, .int .i64 ch, .int .i64 k] 56)).alloc (.map (entsI .u8 (formL s c l)) 10)).alloc (.cells #[.string ⟨#[]⟩, .string ⟨#[]⟩, .int .i64 0] 118)).drew) (w.heap.size + 1) (by have := World.alloc_heap_new (w.alloc (.cells #[.int .u8 op, .int .i64 a, .int .i64 b, .int .i64 ch, .int .i64 k] 56)) (.map (entsI .u8 (formL s c l)) 10); rw [World.size_alloc] at this; exact (Below.heap_alloc _ _ _ (by simp)).trans this)
  have hl3 := hask ((((w.alloc (.cells #[.int .u8 op, .int .i64 a, .int .i64 b, .int .i64 ch, .int .i64 k] 56)).alloc (.cells #[.string ⟨#[]⟩, .string ⟨#[]⟩, .int .i64 0] 118)).alloc (.map (entsI .u8 (formL s c l)) 10)).drew) (w.heap.size + 1 + 1) (by have := World.alloc_heap_new ((w.alloc (.cells #[.int .u8 op, .int .i64 a, .int .i64 b, .int .i64 ch, .int .i64 k] 56)).alloc (.cells #[.string ⟨#[]⟩, .string ⟨#[]⟩, .int .i64 0] 118)) (.map (entsI .u8 (formL s c l)) 10); rwa [World.size_alloc, World.size_alloc] at this)
  simp only [formZ] at hl1 hl2 hl3
  clear hask hf
  go_enter Try.func25, Try.ntmps25
  go_upto_region 1 with fail
  go_cut [11, 12] (fun t11 t12 wx => t12 = .bool false ∧ Below w.heap.size w wx)
  case first =>
    go_region_held3 (fun w' => w'.cell? ⟨w.heap.size, 0, none⟩ = some (.int .u8 op)) (go_keep) (first | (go_at_call 64; (with_reducible refine (forms_any _ _ _ _).mono ?_); rintro e w' ⟨rfl, rfl⟩))
    all_goals
      go_wp2
      go_meet
      exact ⟨rfl, by (repeat (first | with_reducible exact Below.refl _ _ | (with_reducible refine Below.setCell ?_ (by first | (simp; done) | (simp; omega) | omega) _) | (with_reducible refine Below.alloc ?_ (by first | (simp; done) | (simp; omega) | omega) _) | (with_reducible refine Below.drew ?_)))⟩
  case rest =>
    clear hl1 hl2 hl3
    obtain ⟨rfl, hB⟩ := hcut
    have HB := Lib.hid hB
    clear hB
    go_wp2
    go_ret
    exact ⟨rfl, HB.out⟩

theorem find_has (op s c l : Int) (has : ByteArray) (h : hasOf op = some has) : has.size ≤ 9223372036854775807 ∧ ∃ i word, findI .u8 op (formL s c l) 0 = some (i, formV word has (mostOf op s c l)) := by
  unfold hasOf at h
  repeat' split at h
  all_goals first
    | (cases h; subst_vars; exact ⟨by decide, _, _, rfl⟩)
    | cases h
theorem find_no (op s c l : Int) (h : hasOf op = none) : findI .u8 op (formL s c l) 0 = none := by
  unfold hasOf at h
  repeat' split at h
  all_goals first
    | (cases h; done)
    | (simp only [formL, findI]; simp_all)

/-- ins.Check. -/
theorem insCheck_any (op a b ch k n s c l : Int) (w : World) :
    Calls Try.prog 25 #[.agg #[.int .u8 op, .int .i64 a, .int .i64 b, .int .i64 ch, .int .i64 k], .int .i64 n, .int .i64 s, .int .i64 c, .int .i64 l] w fun e w' => e = .returned (.int .i64 (errOf (insB ⟨op, a, b, ch, k⟩ n s c l))) ∧ Below w.heap.size w w' := by
  cases h : hasOf op with
  | none =>
    have := check_none op a b ch k n s c l (find_no op s c l h) w
    simpa [insB, h, errOf] using this
  | some has =>
    obtain ⟨hsz, i, word, hf⟩ := find_has op s c l has h
    have := check_found op a b ch k n s c l word has (mostOf op s c l) i hsz hf w
    simpa [insB, h] using this

end Go.Proofs.Ytljfloopjgpaeaa
