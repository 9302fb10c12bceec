/-
  heartwoodlaw01's own small helpers: begins, same.
-/
import Derived.Test.YtkajbpdhglaieaaRd
namespace Go.Proofs.Ytkajbpdhglaieaa
open Go.RowKit
set_option linter.unusedVariables false

/-- is a the beginning of b? -/
def pre (a b : List UInt8) : Bool := decide (a.length ≤ b.length) && (b.take a.length == a)

set_option maxHeartbeats 400000 in
set_option maxRecDepth 100000 in
theorem begins_calls (a b : List UInt8) (β : Bool) (hβ : pre a b = β) (w : World) (hb : b.length ≤ 140737488355328) :
    Calls Try.prog 15 #[S a, S b] w fun e w' => e = .returned (.bool β) ∧ w = w' := by
  by_cases hle : a.length ≤ b.length
  · have hsl := fun w => run_slice_S (P := Try.prog) 9 Try.underlying9 b 0 a.length (0 : Int) (a.length : Int) rfl rfl (by omega) hle w
    go_enter Try.func15, Try.ntmps15
    go_wp2_with fail
    go_ret
    refine ⟨?_, rfl⟩
    rw [← hβ, pre, decide_eq_true hle]
    show Ending.returned (.bool (((⟨b.toArray⟩ : ByteArray).extract 0 a.length).toList == a)) = _
    rw [extract_S]
    simp
  · go_enter Try.func15, Try.ntmps15
    go_wp2_with fail
    go_ret
    refine ⟨?_, rfl⟩
    rw [← hβ, pre, decide_eq_false hle]
    rfl

set_option maxHeartbeats 1000000 in
set_option maxRecDepth 100000 in
theorem same_calls (A B : Option Addr) (n m c d : Nat) (p q : List (List UInt8)) (β : Bool) (w : World) (hp : Lst w A n (strs p)) (hq : Lst w B m (strs q)) (hn : n ≤ 140737488355328) (hβ : decide (p = q) = β) :
    Calls Try.prog 17 #[.slice A n c, .slice B m d] w fun e w' => e = .returned (.bool β) ∧ ∃ n, w' = w.drewN n := by
  have hpl : p.length = n := by simpa [strs] using hp.1
  have hql : q.length = m := by simpa [strs] using hq.1
  by_cases hnm : n = m
  · subst hnm
    have Hpl := Lib.hid hpl
    have Hql := Lib.hid hql
    have Hβ := Lib.hid hβ
    clear hpl hql hβ
    go_enter Try.func17, Try.ntmps17
    go_wp2_with fail
    go_loopw [5] (fun iv wr => ∃ (k m : Nat), k ≤ n ∧ iv = .int .i64 k ∧ wr = w.drewN m ∧ p.take k = q.take k) (fun iv _ => n - (intOf iv).toNat)
    case atStart => exact ⟨0, 0, by omega, rfl, rfl, rfl⟩
    case round =>
      obtain ⟨k, m, hk, rfl, rfl, ht⟩ := hrel
      have Ht := Lib.hid ht
      clear ht
      by_cases hkn : k < n
      · obtain ⟨b1, o1, u1, rfl, hu1, hc1⟩ := hp.at_ hkn
        obtain ⟨b2, o2, u2, rfl, hu2, hc2⟩ := hq.at_ hkn
        simp only [strs, List.getElem?_map, Option.map_eq_some_iff] at hu1 hu2
        obtain ⟨x, hx, rfl⟩ := hu1
        obtain ⟨y, hy, rfl⟩ := hu2
        have Hx := Lib.hid hx
        have Hy := Lib.hid hy
        clear hx hy
        by_cases hxy : x = y
        · subst hxy
          go_wp2_with fail
          go_quiet (fail)
          go_wp2_with fail
          go_roundw
          case rel => exact ⟨k + 1, _, by omega, by go_num, rfl, by rw [List.take_add_one, List.take_add_one, Ht.out, Hx.out, Hy.out]⟩
          case measure => simp [intOf]; omega
        · have hxy' : (x == y) = false := by simpa using hxy
          clear hxy
          go_wp2_with fail
          go_quiet (fail)
          go_wp2_with fail
          go_ret
          refine ⟨?_, _, World.drewN_drewN _ _ _⟩
          rw [← Hβ.out, decide_eq_false]
          · rfl
          · rintro rfl
            have h1 := Hx.out.symm.trans Hy.out
            injection h1 with h1
            subst h1
            simp at hxy'
      · obtain rfl : k = n := by omega
        go_wp2_with fail
        go_ret
        have h1 := Ht.out
        rw [List.take_of_length_le (by rw [Hpl.out]; exact Nat.le_refl _), List.take_of_length_le (by rw [Hql.out]; exact Nat.le_refl _)] at h1
        exact ⟨by rw [← Hβ.out, decide_eq_true h1]; rfl, _, rfl⟩
  · have hne : p ≠ q := by rintro rfl; omega
    have hb : ((n : Int) != (m : Int)) = true := by simp; omega
    clear hpl hql
    go_enter Try.func17, Try.ntmps17
    go_wp2_with fail
    go_ret
    refine ⟨?_, 0, rfl⟩
    rw [← hβ, decide_eq_false hne]
    rfl
end Go.Proofs.Ytkajbpdhglaieaa
