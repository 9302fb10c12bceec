/-
  Layer 3: a row within lists, one in the other; the walk of TupleDeep.
-/
import Derived.Test.YtdicelibjpmglaaDoorLu
import Derived.Test.YtdicelibjpmglaaDoorTx
namespace Go.Proofs.YtdicelibjpmglaaDoor
open Go.RowKit
set_option linter.unusedVariables false
set_option linter.unusedSimpArgs false
attribute [local go_sem] run_store_float
open Tp (It)

namespace Tp
/-- a row within so many lists -/
def wrap : Nat → List It → List It
  | 0, l => l
  | d + 1, l => [.mk 6 false 0 0 [] (wrap d l)]
theorem wrap_add (a b : Nat) (l : List It) : wrap (a + b) l = wrap a (wrap b l) := by
  induction a with
  | zero => rw [Nat.zero_add]; rfl
  | succ a ih => rw [show a + 1 + b = (a + b) + 1 by omega]; simp only [wrap, ih]
theorem may_list (l : List It) : mayB 6 false 0 0 [] l = true := by simp [mayB, fitB, cleanB]
theorem look_wrap : ∀ (d : Nat) (l : List It) (dep i s : Nat), dep + d ≤ 8 → i + d ≤ 64 → look (wrap d l) dep i s = look l (dep + d) (i + d) (s + 2 * d)
  | 0, l, dep, i, s => by intro _ _; simp [wrap]
  | d + 1, l, dep, i, s => by
    intro h1 h2
    have ih := look_wrap d l (dep + 1) (i + 1) (s + 2) (by omega) (by omega)
    have hl : len1 6 0 [] = 2 := by simp [len1]
    rw [show dep + 1 + d = dep + (d + 1) by omega, show i + 1 + d = i + (d + 1) by omega, show s + 2 + 2 * d = s + 2 * (d + 1) by omega] at ih
    obtain ⟨R, hR⟩ : ∃ R, look l (dep + (d + 1)) (i + (d + 1)) (s + 2 * (d + 1)) = R := ⟨_, rfl⟩
    rw [hR] at ih ⊢
    unfold wrap
    unfold look
    rw [if_neg (by omega), if_neg (by rw [may_list]; decide), if_neg (by omega), hl, ih]
    dsimp only
    obtain ⟨p, q, r⟩ := R
    by_cases h : r = 0
    · subst h; simp [look]
    · simp [h]
theorem look_rep {k : Nat} {b : Bool} {z : Int} {f : Nat} {t : List UInt8} (hm : mayB k b z f t [] = true) (hk : k ≠ 6) : ∀ (n dep i s : Nat), i ≤ 64 →
    look (List.replicate n (.mk k b z f t [])) dep i s = if 64 < i + n then (64, s + (64 - i) * len1 k z t, 31) else (i + n, s + n * len1 k z t, 0)
  | 0, dep, i, s => by intro h; rw [if_neg (by omega)]; simp [look]
  | n + 1, dep, i, s => by
    intro h
    rw [List.replicate_succ]
    unfold look
    by_cases h64 : i = 64
    · subst h64
      rw [if_pos rfl, if_pos (by omega)]; simp
    · have ih := look_rep hm hk n dep (i + 1) (s + len1 k z t) (by omega)
      rw [if_neg h64, if_neg (by rw [hm]; decide), if_neg (by omega)]
      simp only [look, if_true]
      rw [ih]
      by_cases hc : 64 < i + 1 + n
      · rw [if_pos hc, if_pos (by omega)]
        obtain ⟨m, hm⟩ : ∃ m, 64 - i = m + 1 := ⟨63 - i, by omega⟩
        rw [hm, show 64 - (i + 1) = m by omega, Nat.succ_mul]
        congr 2; omega
      · rw [if_neg hc, if_neg (by omega), Nat.succ_mul]
        congr 1
        · omega
        · congr 1; omega
theorem sz_rep (k : Nat) (b : Bool) (z : Int) (f : Nat) (t : List UInt8) (n : Nat) : sz (List.replicate n (.mk k b z f t [])) = n * len1 k z t := by
  induction n with
  | zero => simp [sz]
  | succ n ih => rw [List.replicate_succ]; simp only [sz, ih, Nat.succ_mul]; omega
theorem sz_wrap (d : Nat) (l : List It) : sz (wrap d l) = 2 * d + sz l := by
  induction d with
  | zero => simp [wrap]
  | succ d ih => simp only [wrap, sz, ih]; simp [len1]; omega
/-- so many items within so many lists: what Check says -/
theorem deep_check {k : Nat} {b : Bool} {z : Int} {f : Nat} {t : List UInt8} (hm : mayB k b z f t [] = true) (hk : k ≠ 6) (n d : Nat) :
    check (wrap d (List.replicate n (.mk k b z f t []))) = if 8 < d then 32 else if 64 < n + d then 31 else if 4096 < n * len1 k z t + 2 * d then 4 else 0 := by
  by_cases h8 : 8 < d
  · obtain ⟨e, rfl⟩ : ∃ e, d = 8 + (e + 1) := ⟨d - 9, by omega⟩
    have h := look_wrap 8 (wrap (e + 1) (List.replicate n (.mk k b z f t []))) 0 0 0 (by omega) (by omega)
    have h2 : look (wrap (e + 1) (List.replicate n (.mk k b z f t []))) (0 + 8) (0 + 8) (0 + 2 * 8) = (8, 16, 32) := by
      unfold wrap
      unfold look
      rw [if_neg (by omega), if_neg (by rw [may_list]; decide), if_pos (by omega)]
    rw [h2] at h
    unfold check
    rw [wrap_add, h, if_pos (by decide), if_pos h8]
  · have h := look_wrap d (List.replicate n (.mk k b z f t [])) 0 0 0 (by omega) (by omega)
    rw [look_rep hm hk n (0 + d) (0 + d) (0 + 2 * d) (by omega)] at h
    rw [if_neg h8]
    unfold check
    rw [h]
    by_cases h64 : 64 < 0 + d + n
    · rw [if_pos h64, if_pos (by simp), if_pos (by omega)]
    · rw [if_neg h64, if_neg (by simp), if_neg (show ¬ 64 < n + d by omega)]
      dsimp only
      rw [show 0 + 2 * d + n * len1 k z t = n * len1 k z t + 2 * d by omega]
end Tp

theorem ics_rep_length (n : Nat) (x : It) (u : Value) : (ics (List.replicate n x) (List.replicate n u)).length = n * 6 := by
  induction n with
  | zero => simp [ics]
  | succ n ih =>
    have hy : (ic x u).length = 6 := by obtain ⟨k, b, n, f, t, ls⟩ := x; rfl
    simp only [List.replicate_succ, ics, List.length_append, ih, hy]; omega
theorem ics_rep_snoc (n : Nat) (x : It) (u : Value) : ics (List.replicate n x) (List.replicate n u) ++ ic x u = ics (List.replicate (n + 1) x) (List.replicate (n + 1) u) := by
  rw [List.replicate_succ', List.replicate_succ', ics_snoc _ _ (by simp)]
/-- a row of the program's own -/
theorem Row.own {w : World} {base : Nat} {v : Value} {l : List It} {vs : List Value} {n : Nat} (own : w.ownsRow base 37 6 v n (ics l vs)) (hn : n = l.length) (hl : vs.length = l.length) (hlen : l.length ≤ 10000)
    (hin : ∀ (k : Nat) (b : Bool) (n : Int) (f : Nat) (t : List UInt8) (ls : List It), It.mk k b n f t ls ∈ l → InIt k n f t)
    (hr : ∀ (i k : Nat) (b : Bool) (n : Int) (f : Nat) (t : List UInt8) (ls : List It) (v : Value), l[i]? = some (It.mk k b n f t ls) → vs[i]? = some v → Row w w.heap.size v ls) : Row w w.heap.size v l := by
  subst hn
  rcases own.2 with ⟨h, h0⟩ | ⟨g, cap, cur, h, hb, hh, hc, -⟩
  · subst h
    have : l = [] := List.length_eq_zero_iff.1 h0
    subst this
    exact .nil none 0 (fun _ => rfl)
  · subst h
    have hg := (own.lt g rfl).2
    refine .mk g 0 cap l vs hg hl (by omega) (by omega) hin ?_ hr
    intro i k b n f t ls v h1 h2 j u hu
    have h3 := ics_at l vs hl i _ v h1 h2 j u hu
    have h4 := own.cells (g := g) rfl (i * 6 + j) u h3
    have hadd : (⟨g, 0, none⟩ : Addr).add (i * 6 + j) = ⟨g, i * 6 + j, none⟩ := by unfold Addr.add; split <;> simp_all
    rw [hadd] at h4
    rw [Nat.zero_add]; exact h4
end Go.Proofs.YtdicelibjpmglaaDoor
