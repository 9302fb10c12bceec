/-
  Layer 3: the upper end that Under tells (plain); a row's first items in memory; a text's bytes as new memory that may be written.
-/
import Derived.Test.YtdicelibjpmglaaGreatDoorBh
import Derived.Test.YtdicelibjpmglaaGreatDoorTx
namespace Go.Proofs.YtdicelibjpmglaaGreatDoor
open Go.RowKit
set_option linter.unusedVariables false
set_option linter.unusedSimpArgs false
attribute [local go_sem] run_store_float
open Tp (It)

namespace Tp
theorem byt_first {l : List It} (h : okB l = true) (hn : byt l ≠ []) : ∃ x r, byt l = x :: r ∧ x ≠ 255 := by
  cases l with
  | nil => exact (hn (by simp [byt])).elim
  | cons y l =>
    obtain ⟨k, b, n, f, t, ls⟩ := y
    simp only [okB, Bool.and_eq_true] at h
    have hk := mayB_kind h.1.1
    obtain ⟨r, hr⟩ := one_cons k b n f t (byt ls)
    have hb := tag_bounds k b n hk.1 hk.2
    refine ⟨UInt8.ofNat (tag k b n), r ++ byt l, by simp only [byt, hr, List.cons_append], ?_⟩
    intro e
    have := congrArg UInt8.toNat e
    simp at this
    omega
theorem strip {q : List UInt8} (h0 : ∃ x r, q = x :: r ∧ x ≠ 255) {j : Nat} (h : q[j]? = some 255) : 0 < j ∧ next (q.take (j + 1)) = next (q.take j) := by
  refine ⟨?_, by rw [take_snoc h, next_strip]⟩
  rcases Nat.eq_zero_or_pos j with hj | hj
  · subst hj
    obtain ⟨x, r, rfl, hx⟩ := h0
    simp at h
    exact absurd h hx
  · exact hj
theorem strip_end {q : List UInt8} {j : Nat} {x : UInt8} (h : q[j]? = some x) (hx : x ≠ 255) : next (q.take (j + 1)) = q.take j ++ [x + 1] := by
  rw [take_snoc h, next_ne _ _ hx]
end Tp
theorem Row.take {w : World} {B m cap : Nat} {A : Option Addr} {l : List It} (h : Row w B (.slice A m cap) l) {n : Nat} (hn : n ≤ l.length) : Row w B (.slice A n cap) (l.take n) := by
  cases h with
  | nil A cap hc1 =>
    obtain rfl : n = 0 := by simpa using hn
    exact .nil _ _ hc1
  | mk g off cap l vs hg hl hcap hc1 hin hcs hr =>
    have e : (l.take n).length = n := by rw [List.length_take]; omega
    have := Row.mk (w := w) (B := B) g off cap (l.take n) (vs.take n) hg (by rw [List.length_take, List.length_take, hl]) (by omega) (by omega)
      (fun k b n' f t ls hm => hin k b n' f t ls (List.mem_of_mem_take hm))
      (fun i k b n' f t ls v h1 h2 j u hu => by
        rw [List.getElem?_take] at h1 h2
        split at h1
        · rename_i hi; rw [if_pos hi] at h2; exact hcs i k b n' f t ls v h1 h2 j u hu
        · cases h1)
      (fun i k b n' f t ls v h1 h2 => by
        rw [List.getElem?_take] at h1 h2
        split at h1
        · rename_i hi; rw [if_pos hi] at h2; exact hr i k b n' f t ls v h1 h2
        · cases h1)
    rw [e] at this
    exact this
/-- a text's bytes as new memory that may be written -/
theorem bytes_own (w : World) (l : List UInt8) (hl : l.length ≤ 1000000) : ∃ (c : Nat) (wb : World), (convert 9 51 (S l)).run Tryz.prog w = .ok (.slice (some ⟨w.heap.size, 0, none⟩) l.length c) wb ∧
    (∀ j b, l[j]? = some b → wb.cell? ⟨w.heap.size, j, none⟩ = some (.int .u8 b.toNat)) ∧ (∀ j, j < l.length → wb.frozen? ⟨w.heap.size, j, none⟩ = false) ∧ l.length ≤ c ∧ c ≤ maxLen ∧ Chg (fun _ => False) w wb ∧ wb.heap.size = w.heap.size + 1 := by
  have e : (⟨l.toArray⟩ : ByteArray).size = l.length := by simp [ByteArray.size]
  have hr := run_bytes_of_string w 9 51 5 ⟨l.toArray⟩ Tryz.underlying9 Tryz.underlying51 Tryz.underlying5
  have hge := grownCap_ge w (⟨l.toArray⟩ : ByteArray).size 0 5
  have hle := grownCap_le_maxLen w (⟨l.toArray⟩ : ByteArray).size 0 5 (by rw [e]; unfold maxLen; omega)
  generalize grownCap w (⟨l.toArray⟩ : ByteArray).size 0 5 = c at hr hge hle
  rw [e] at hr hge
  have hg : ∀ j (h : j < l.length), (bytesRow ⟨l.toArray⟩ c)[j]? = some (.int .u8 (l[j].toNat : Int)) := by
    intro j h
    unfold bytesRow
    rw [Array.getElem?_append_left (by simpa using h)]
    simp [h]
  generalize bytesRow ⟨l.toArray⟩ c = R at hr hg
  have hh : (w.drew.alloc (.cells R 5 (R.size, R.size + 1))).heap[w.heap.size]? = some (.cells R 5 (R.size, R.size + 1)) := heap_alloc_new w.drew _
  refine ⟨_, _, hr, fun j b hb => ?_, fun j hj => ?_, hge, hle, ((Chg.refl _ w).drew).alloc _, by simp⟩
  · obtain ⟨hj, rfl⟩ := List.getElem?_eq_some_iff.1 hb
    rw [cell_of_row _ _ _ _ _ _ hh, hg j hj]
  · have hR : j < R.size := (Array.getElem?_eq_some_iff.1 (hg j hj)).1
    have e2 : (w.drew.alloc (.cells R 5 (R.size, R.size + 1))).frozen? ⟨w.heap.size, j, none⟩ = (decide (R.size ≤ j) && decide (j < R.size + 1)) := by unfold World.frozen?; simp only [hh]
    rw [e2, decide_eq_false (by omega)]; rfl
end Go.Proofs.YtdicelibjpmglaaGreatDoor
