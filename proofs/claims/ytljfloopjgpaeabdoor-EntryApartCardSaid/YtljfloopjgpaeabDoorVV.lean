/- tollbarlaw14.alive. -/
import Derived.Test.YtljfloopjgpaeabDoorVU
import Derived.Test.YtljfloopjgpaeabDoorVT
namespace Go.Proofs.YtljfloopjgpaeabDoor
set_option linter.unusedVariables false
set_option linter.unusedSimpArgs false
open Go.RowKit Go.Shelf
attribute [local go_sem] Oper.semAt_some
set_option maxRecDepth 100000
theorem decD {u : Nat} (h : u < 10) : Lib.decDigits u = [UInt8.ofNat (48 + u)] := by
  unfold Lib.decDigits
  rw [dif_pos h]
/-- What was put is got. -/
theorem get_put {l : List EntV} (hl : ∀ x ∈ l, entB x = true ∧ rgE x) {e : Ending} {w : World} (h : GetTo (bytesL l) e w) : ∃ A c, e = .returned (.tuple #[.slice A l.length c, .int .i64 0]) ∧ kEnt.R w (.slice A l.length c) l := by
  obtain ⟨xs, rest, h1, h2, h3⟩ := h
  obtain ⟨m, rfl, rfl⟩ := bytes_one xs l rest h2 hl h1
  rcases h3 with ⟨hr, A, c, he, hR⟩ | ⟨hr, hb, _⟩
  · cases m with
    | nil =>
      rw [List.append_nil]
      exact ⟨A, c, he, hR⟩
    | cons y m =>
      have e : bytesL (y :: m) = bytesX y ++ bytesL m := rfl
      rw [e] at hr
      have := bytesX_ne y
      simp [this] at hr
  · cases m with
    | nil => exact absurd rfl hr
    | cons y m =>
      have e : bytesL (y :: m) = bytesX y ++ bytesL m := rfl
      have hy := hl y (List.mem_append.2 (.inr (List.mem_cons_self ..)))
      rw [e, lawA hy.1 hy.2] at hb
      rcases hb with hb | hb
      · cases hb
      · rw [hy.1] at hb
        cases hb
def entA : EntV := ⟨7, 3, 0, 0, 2, 1, -1, -1, 5, 0, true, 0, 0⟩
theorem entA_ok : entB entA = true := by decide +kernel
theorem entA_rg : rgE entA := ⟨by decide, by decide, by decide, by decide⟩
theorem entA_ev : evAll entA (namesX entA) = [.small s_task 0, .small s_peer 2, .small s_ch 1, .small s_case (-1), .small s_peercase (-1), .wide 5, .plain 1] := by kernel_rfl
theorem itoaD {n : Nat} (h : n < 10) : Lib.itoa (n : Int) = [UInt8.ofNat (48 + n)] := by
  unfold Lib.itoa
  rw [if_neg (by omega), show ((n : Int)).toNat = n by omega]
  exact decD h
theorem itoaM1 : Lib.itoa (-1) = [45, 49] := by
  unfold Lib.itoa
  rw [if_pos (by decide), show (-1 : Int).natAbs = 1 by rfl, decD (by decide)]
  rfl
theorem entA_line : lineX entA = [55, 32, 109, 101, 101, 116, 32, 48, 32, 50, 32, 49, 32, 45, 49, 32, 45, 49, 32, 53, 32, 49] := by
  unfold lineX
  rw [entA_ev]
  have hw : wordL entA.kind = [109, 101, 101, 116] := by kernel_rfl
  have i7 : Lib.itoa 7 = [55] := itoaD (n := 7) (by decide)
  have i0 : Lib.itoa 0 = [48] := itoaD (n := 0) (by decide)
  have i2 : Lib.itoa 2 = [50] := itoaD (n := 2) (by decide)
  have i1 : Lib.itoa 1 = [49] := itoaD (n := 1) (by decide)
  have i5 : Lib.itoa 5 = [53] := itoaD (n := 5) (by decide)
  have d1 : Lib.decDigits 1 = [49] := decD (by decide)
  rw [hw]
  show Lib.itoa 7 ++ 32 :: [109, 101, 101, 116] ++ ((32 :: Lib.itoa 0) ++ ((32 :: Lib.itoa 2) ++ ((32 :: Lib.itoa 1) ++ ((32 :: Lib.itoa (-1)) ++ ((32 :: Lib.itoa (-1)) ++ ((32 :: Lib.itoa 5) ++ ((32 :: Lib.decDigits 1) ++ []))))))) = _
  rw [i7, i0, i2, i1, i5, d1, itoaM1]
  rfl
theorem entA_bytes : bytesL [entA] = [7, 3, 0, 3, 1, 0, 0, 10, 1] := by
  have hb : bytesX entA = rowL [7, 3] ++ evsB [.small s_task 0, .small s_peer 2, .small s_ch 1, .small s_case (-1), .small s_peercase (-1), .wide 5, .plain 1] := by
    unfold bytesX
    rw [entA_ev]
    rfl
  have k0 : shiftB s_task = 0 ∧ shiftB s_peer = 1 ∧ shiftB s_ch = 0 ∧ shiftB s_case = 1 ∧ shiftB s_peercase = 1 := by refine ⟨?_, ?_, ?_, ?_, ?_⟩ <;> kernel_rfl
  obtain ⟨k2, k3, k4, k5, k6⟩ := k0
  have n0 : numL 0 = [0] := numL_small (by decide)
  have n1 : numL 1 = [1] := numL_small (by decide)
  have n3 : numL 3 = [3] := numL_small (by decide)
  have n7 : numL 7 = [7] := numL_small (by decide)
  have n10 : numL 10 = [10] := numL_small (by decide)
  show bytesX entA ++ [] = _
  rw [hb, List.append_nil]
  show (numL 7 ++ (numL 3 ++ [])) ++ (numL (0 + shiftB s_task).toNat ++ (numL (2 + shiftB s_peer).toNat ++ (numL (1 + shiftB s_ch).toNat ++ (numL (-1 + shiftB s_case).toNat ++ (numL (-1 + shiftB s_peercase).toNat ++ (numL (zig 5) ++ (numL 1 ++ []))))))) = _
  rw [k2, k3, k4, k5, k6, show zig 5 = 10 by decide, show (0 + 0 : Int).toNat = 0 by rfl, show (2 + 1 : Int).toNat = 3 by rfl, show (1 + 0 : Int).toNat = 1 by rfl, show (-1 + 1 : Int).toNat = 0 by rfl, n0, n1, n3, n7, n10]
  rfl
/-- Too few bytes. -/
theorem get_short {e : Ending} {w : World} (h : GetTo [7] e w) : e = .returned (.tuple #[.slice none 0 0, .int .i64 7]) := by
  obtain ⟨xs, rest, h1, h2, h3⟩ := h
  cases xs with
  | nil =>
    have : rest = [7] := h1.symm
    rcases h3 with ⟨hr, _⟩ | ⟨_, _, he⟩
    · rw [hr] at this
      cases this
    · exact he
  | cons x xs =>
    exfalso
    have e : bytesL (x :: xs) = bytesX x ++ bytesL xs := rfl
    rw [e] at h1
    have h4 : (bytesX x).length ≥ 2 := by
      unfold bytesX rowL
      have a := List.length_pos_iff.2 (numL_ne x.at_.toNat)
      have b := List.length_pos_iff.2 (numL_ne x.kind.toNat)
      simp only [List.flatMap_cons, List.flatMap_nil, List.length_append, List.append_nil]
      omega
    have := congrArg List.length h1
    simp only [List.length_append, List.length_singleton] at this
    omega
end Go.Proofs.YtljfloopjgpaeabDoor
