/- Unlike entries have unlike lines, and unlike bytes, in plain Lean. -/
import Derived.Test.YtljfloopjgpaeabDoorVX
namespace Go.Proofs.YtljfloopjgpaeabDoor
set_option linter.unusedVariables false
set_option linter.unusedSimpArgs false
open Go.RowKit
set_option maxRecDepth 100000
theorem dec_nosp : ∀ (u : Nat), ∀ c ∈ Lib.decDigits u, c ≠ 32 ∧ c ≠ 45 := by
  intro u
  induction u using Nat.strongRecOn with
  | ind u ih =>
    intro c hc
    have key : ∀ k : Nat, k < 10 → UInt8.ofNat (48 + k) ≠ 32 ∧ UInt8.ofNat (48 + k) ≠ 45 := by decide
    unfold Lib.decDigits at hc
    by_cases h : u < 10
    · rw [dif_pos h, List.mem_singleton] at hc
      subst hc
      exact key u h
    · rw [dif_neg h] at hc
      rcases List.mem_append.1 hc with hc | hc
      · exact ih (u / 10) (by omega) c hc
      · rw [List.mem_singleton] at hc
        subst hc
        exact key (u % 10) (by omega)
theorem itoa_nosp (v : Int) : (32 : UInt8) ∉ Lib.itoa v := by
  intro h
  unfold Lib.itoa at h
  split at h
  · rcases List.mem_cons.1 h with h | h
    · cases h
    · exact (dec_nosp _ _ h).1 rfl
  · exact (dec_nosp _ _ h).1 rfl
def decVal (l : List UInt8) : Nat := l.foldl (fun a c => 10 * a + (c.toNat - 48)) 0
theorem decVal_dec (u : Nat) : decVal (Lib.decDigits u) = u := by
  induction u using Nat.strongRecOn with
  | ind u ih =>
    have key : ∀ k : Nat, k < 10 → (UInt8.ofNat (48 + k)).toNat - 48 = k := by decide
    unfold Lib.decDigits
    by_cases h : u < 10
    · rw [dif_pos h]
      show 10 * 0 + ((UInt8.ofNat (48 + u)).toNat - 48) = u
      rw [key u h]
      omega
    · rw [dif_neg h]
      have := ih (u / 10) (by omega)
      unfold decVal at this ⊢
      rw [List.foldl_append, this]
      show 10 * (u / 10) + ((UInt8.ofNat (48 + u % 10)).toNat - 48) = u
      rw [key (u % 10) (by omega)]
      omega
theorem dec_inj {a b : Nat} (h : Lib.decDigits a = Lib.decDigits b) : a = b := by
  have := congrArg decVal h
  rwa [decVal_dec, decVal_dec] at this
theorem itoa_inj {a b : Int} (h : Lib.itoa a = Lib.itoa b) : a = b := by
  have hno : ∀ (u : Nat) (t : List UInt8), Lib.decDigits u ≠ 45 :: t := fun u t e => (dec_nosp u 45 (by rw [e]; exact List.mem_cons_self ..)).2 rfl
  unfold Lib.itoa at h
  by_cases ha : a < 0
  · by_cases hb : b < 0
    · rw [if_pos ha, if_pos hb] at h
      injection h with _ h
      have := dec_inj h
      omega
    · rw [if_pos ha, if_neg hb] at h
      exact absurd h.symm (hno _ _)
  · by_cases hb : b < 0
    · rw [if_neg ha, if_pos hb] at h
      exact absurd h (hno _ _)
    · rw [if_neg ha, if_neg hb] at h
      have := dec_inj h
      omega
theorem words_nosp : ∀ j, j < 58 → (match Ef.rowOf j with | none => true | some x => x.word.data.toList.all (fun c => c != 32)) = true := by decide +kernel
theorem wordL_nosp (k : Int) : (32 : UInt8) ∉ wordL k := by
  unfold wordL wordOf
  cases h : hasOf k with
  | none => simp
  | some p =>
    obtain ⟨j, x, h1, rfl, rfl⟩ := row_has h
    have := words_nosp j (Ef.row_lt h1)
    rw [h1] at this
    intro hm
    have := List.all_eq_true.1 this _ hm
    exact absurd this (by decide)
theorem words_one : ∀ i, i < 58 → ∀ j, j < 58 → (match Ef.rowOf i, Ef.rowOf j with | some x, some y => !(x.word.data.toList == y.word.data.toList) || x.key == y.key | _, _ => true) = true := by decide +kernel
theorem wordL_inj {a b : Int} {p q : ByteArray × List ByteArray} (ha : hasOf a = some p) (hb : hasOf b = some q) (h : wordL a = wordL b) : a = b := by
  unfold wordL wordOf at h
  rw [ha, hb] at h
  obtain ⟨i, x, h1, rfl, rfl⟩ := row_has ha
  obtain ⟨j, y, h2, rfl, rfl⟩ := row_has hb
  have := words_one i (Ef.row_lt h1) j (Ef.row_lt h2)
  rw [h1, h2] at this
  simp only at h this
  rw [h] at this
  simpa using this
/-- Words between blanks. -/
theorem cut_sp {R S : List UInt8} (hR : R = [] ∨ ∃ t, R = 32 :: t) (hS : S = [] ∨ ∃ t, S = 32 :: t) : ∀ (a b : List UInt8), (32 : UInt8) ∉ a → (32 : UInt8) ∉ b → a ++ R = b ++ S → a = b ∧ R = S
  | [], [], _, _, h => ⟨rfl, h⟩
  | [], c :: b, _, hb, h => by
    exfalso
    rcases hR with rfl | ⟨t, rfl⟩
    · cases h
    · have h' : (32 : UInt8) :: t = c :: (b ++ S) := h
      injection h' with h1 _
      exact hb (by rw [h1]; exact List.mem_cons_self ..)
  | c :: a, [], ha, _, h => by
    exfalso
    rcases hS with rfl | ⟨t, rfl⟩
    · cases h
    · have h' : c :: (a ++ R) = (32 : UInt8) :: t := h
      injection h' with h1 _
      exact ha (by rw [← h1]; exact List.mem_cons_self ..)
  | c :: a, d :: b, ha, hb, h => by
    have h' : c :: (a ++ R) = d :: (b ++ S) := h
    injection h' with h1 h2
    obtain ⟨h3, h4⟩ := cut_sp hR hS a b (fun hm => ha (List.mem_cons_of_mem _ hm)) (fun hm => hb (List.mem_cons_of_mem _ hm)) h2
    exact ⟨by rw [h1, h3], h4⟩
def evT : Ev → List UInt8
  | .small _ v => Lib.itoa v
  | .wide v => Lib.itoa v
  | .plain n => Lib.decDigits n
theorem lineE_T (ev : Ev) : lineE ev = 32 :: evT ev := by cases ev <;> rfl
theorem evT_nosp (ev : Ev) : (32 : UInt8) ∉ evT ev := by
  cases ev with
  | small s v => exact itoa_nosp v
  | wide v => exact itoa_nosp v
  | plain n => exact fun h => (dec_nosp n _ h).1 rfl
theorem lineB_form (l : List Ev) : lineB l = [] ∨ ∃ t, lineB l = 32 :: t := by
  cases l with
  | nil => exact .inl rfl
  | cons ev l => exact .inr ⟨evT ev ++ lineB l, by show lineE ev ++ lineB l = _; rw [lineE_T]; rfl⟩
theorem lineB_inj : ∀ (l m : List Ev), lineB l = lineB m → l.map evT = m.map evT
  | [], [], _ => rfl
  | [], ev :: m, h => by
    have : lineB (ev :: m) = 32 :: (evT ev ++ lineB m) := by show lineE ev ++ lineB m = _; rw [lineE_T]; rfl
    rw [this] at h
    cases h
  | ev :: l, [], h => by
    have : lineB (ev :: l) = 32 :: (evT ev ++ lineB l) := by show lineE ev ++ lineB l = _; rw [lineE_T]; rfl
    rw [this] at h
    cases h
  | ev :: l, fv :: m, h => by
    have h1 : lineB (ev :: l) = 32 :: (evT ev ++ lineB l) := by show lineE ev ++ lineB l = _; rw [lineE_T]; rfl
    have h2 : lineB (fv :: m) = 32 :: (evT fv ++ lineB m) := by show lineE fv ++ lineB m = _; rw [lineE_T]; rfl
    rw [h1, h2] at h
    injection h with _ h
    obtain ⟨h3, h4⟩ := cut_sp (lineB_form l) (lineB_form m) _ _ (evT_nosp ev) (evT_nosp fv) h
    rw [List.map_cons, List.map_cons, h3, lineB_inj l m h4]
/-- At each name one word; the word tells the field. -/
theorem evOf_one {x : EntV} {s : ByteArray} (hs : s ∈ all11) : (evOf x s).length = 1 := by
  rcases mem11 hs with rfl | rfl | rfl | rfl | rfl | rfl | rfl | rfl | rfl | rfl | rfl <;> kernel_rfl
theorem name_inj {x y : EntV} (hx : okE x) (hy : okE y) {s : ByteArray} (hs : s ∈ all11) (h : (evOf x s).map evT = (evOf y s).map evT) (z : EntV) : cpE x z s = cpE y z s := by
  rcases mem11 hs with rfl | rfl | rfl | rfl | rfl | rfl | rfl | rfl | rfl | rfl | rfl
  · have ex : (evOf x s_worker).map evT = [Lib.itoa x.worker] := by kernel_rfl
    have ey : (evOf y s_worker).map evT = [Lib.itoa y.worker] := by kernel_rfl
    rw [ex, ey] at h
    injection h with h _
    have hf : x.worker = y.worker := itoa_inj h
    rw [cp_worker, cp_worker, hf]
  · have ex : (evOf x s_task).map evT = [Lib.itoa x.task] := by kernel_rfl
    have ey : (evOf y s_task).map evT = [Lib.itoa y.task] := by kernel_rfl
    rw [ex, ey] at h
    injection h with h _
    have hf : x.task = y.task := itoa_inj h
    rw [cp_task, cp_task, hf]
  · have ex : (evOf x s_peer).map evT = [Lib.itoa x.peer] := by kernel_rfl
    have ey : (evOf y s_peer).map evT = [Lib.itoa y.peer] := by kernel_rfl
    rw [ex, ey] at h
    injection h with h _
    have hf : x.peer = y.peer := itoa_inj h
    rw [cp_peer, cp_peer, hf]
  · have ex : (evOf x s_ch).map evT = [Lib.itoa x.ch] := by kernel_rfl
    have ey : (evOf y s_ch).map evT = [Lib.itoa y.ch] := by kernel_rfl
    rw [ex, ey] at h
    injection h with h _
    have hf : x.ch = y.ch := itoa_inj h
    rw [cp_ch, cp_ch, hf]
  · have ex : (evOf x s_case).map evT = [Lib.itoa x.cs] := by kernel_rfl
    have ey : (evOf y s_case).map evT = [Lib.itoa y.cs] := by kernel_rfl
    rw [ex, ey] at h
    injection h with h _
    have hf : x.cs = y.cs := itoa_inj h
    rw [cp_case, cp_case, hf]
  · have ex : (evOf x s_peercase).map evT = [Lib.itoa x.pc] := by kernel_rfl
    have ey : (evOf y s_peercase).map evT = [Lib.itoa y.pc] := by kernel_rfl
    rw [ex, ey] at h
    injection h with h _
    have hf : x.pc = y.pc := itoa_inj h
    rw [cp_peercase, cp_peercase, hf]
  · have ex : (evOf x s_val).map evT = [Lib.itoa x.val] := by kernel_rfl
    have ey : (evOf y s_val).map evT = [Lib.itoa y.val] := by kernel_rfl
    rw [ex, ey] at h
    injection h with h _
    have hf : x.val = y.val := itoa_inj h
    rw [cp_val, cp_val, hf]
  · have ex : (evOf x s_val2).map evT = [Lib.itoa x.val2] := by kernel_rfl
    have ey : (evOf y s_val2).map evT = [Lib.itoa y.val2] := by kernel_rfl
    rw [ex, ey] at h
    injection h with h _
    have hf : x.val2 = y.val2 := itoa_inj h
    rw [cp_val2, cp_val2, hf]
  · have ex : (evOf x s_ok).map evT = [Lib.decDigits (if x.ok then 1 else 0)] := by kernel_rfl
    have ey : (evOf y s_ok).map evT = [Lib.decDigits (if y.ok then 1 else 0)] := by kernel_rfl
    rw [ex, ey] at h
    injection h with h _
    have hf : x.ok = y.ok := by have := dec_inj h; cases hx1 : x.ok <;> cases hy1 : y.ok <;> rw [hx1, hy1] at this <;> first | rfl | (simp at this)
    rw [cp_ok, cp_ok, hf]
  · have ex : (evOf x s_code).map evT = [Lib.decDigits (IntKind.u64.wrap x.code).toNat] := by kernel_rfl
    have ey : (evOf y s_code).map evT = [Lib.decDigits (IntKind.u64.wrap y.code).toNat] := by kernel_rfl
    rw [ex, ey] at h
    injection h with h _
    have hf : x.code = y.code := by have := dec_inj h; have h1 := hx.code; have h2 := hy.code; rw [IntKind.wrap_u64, IntKind.wrap_u64] at this; omega
    rw [cp_code, cp_code, hf]
  · have ex : (evOf x s_set).map evT = [Lib.decDigits x.set.toNat] := by kernel_rfl
    have ey : (evOf y s_set).map evT = [Lib.decDigits y.set.toNat] := by kernel_rfl
    rw [ex, ey] at h
    injection h with h _
    have hf : x.set = y.set := by have := dec_inj h; have h1 := hx.set; have h2 := hy.set; omega
    rw [cp_set, cp_set, hf]
theorem fold_inj {x y : EntV} (hx : okE x) (hy : okE y) : ∀ (ns : List ByteArray) (z : EntV), (∀ s ∈ ns, s ∈ all11) → (evAll x ns).map evT = (evAll y ns).map evT → ns.foldl (cpE x) z = ns.foldl (cpE y) z
  | [], _, _, _ => rfl
  | s :: ns, z, hs, h => by
    have e1 : evAll x (s :: ns) = evOf x s ++ evAll x ns := rfl
    have e2 : evAll y (s :: ns) = evOf y s ++ evAll y ns := rfl
    rw [e1, e2, List.map_append, List.map_append] at h
    have hs1 := hs s (List.mem_cons_self ..)
    obtain ⟨h1, h2⟩ := List.append_inj h (by rw [List.length_map, List.length_map, evOf_one hs1, evOf_one hs1])
    rw [List.foldl_cons, List.foldl_cons, name_inj hx hy hs1 h1 z]
    exact fold_inj hx hy ns _ (fun t ht => hs t (List.mem_cons_of_mem _ ht)) h2
/-- Unlike entries have unlike lines. -/
theorem line_inj {x y : EntV} (hx : entB x = true) (hy : entB y = true) (rx : rgE x) (ry : rgE y) (h : lineX x = lineX y) : x = y := by
  have ox := okE_of hx rx
  have oy := okE_of hy ry
  obtain ⟨p, hp, _⟩ := entB_facts hx
  obtain ⟨q, hq, _⟩ := entB_facts hy
  unfold lineX at h
  rw [List.append_assoc, List.append_assoc] at h
  obtain ⟨h1, h2⟩ := cut_sp (.inr ⟨_, rfl⟩) (.inr ⟨_, rfl⟩) _ _ (itoa_nosp _) (itoa_nosp _) (show Lib.itoa x.at_ ++ (32 :: (wordL x.kind ++ lineB (evAll x (namesX x)))) = Lib.itoa y.at_ ++ (32 :: (wordL y.kind ++ lineB (evAll y (namesX y)))) from h)
  injection h2 with _ h2
  obtain ⟨h3, h4⟩ := cut_sp (lineB_form _) (lineB_form _) _ _ (wordL_nosp _) (wordL_nosp _) h2
  have ha := itoa_inj h1
  have hk := wordL_inj hp hq h3
  have hn : namesX x = namesX y := by unfold namesX; rw [hk]
  have hn2 : namesX x = p.2 := by unfold namesX; rw [hp]
  have h5 := lineB_inj _ _ h4
  rw [← hn] at h5
  have h6 := fold_inj ox oy (namesX x) (ent0 x.at_ x.kind) (by rw [hn2]; exact (has_names hp).2.1) h5
  rw [fold_all hx] at h6
  rw [h6, ha, hk, hn]
  exact fold_all hy
/-- Unlike entries have unlike bytes, of which none begin with the other's. -/
theorem bytes_inj {x y : EntV} (hx : entB x = true) (hy : entB y = true) (rx : rgE x) (ry : rgE y) {r : List UInt8} (h : bytesX y = bytesX x ++ r) : x = y ∧ r = [] := by
  have h1 := lawA hx rx r
  have h2 := lawA hy ry []
  rw [List.append_nil, h, h1] at h2
  injection h2 with h3 h4
  injection h4 with h4
  exact ⟨h3, h4⟩
end Go.Proofs.YtljfloopjgpaeabDoor
