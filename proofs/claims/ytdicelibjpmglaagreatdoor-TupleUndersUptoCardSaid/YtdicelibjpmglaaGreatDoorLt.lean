/-
  Layer 3: how many items there are (parts, vast); a row as new memory (lent).
-/
import Derived.Test.YtdicelibjpmglaaGreatDoorTx
namespace Go.Proofs.YtdicelibjpmglaaGreatDoor
open Go.RowKit
set_option linter.unusedVariables false
set_option linter.unusedSimpArgs false
attribute [local go_sem] run_store_float
open Tp (It)

/-- r is m, or above 10000 and not above m -/
def Nq (r m : Nat) : Prop := r ≤ m ∧ (r ≤ 10000 → r = m)
namespace Tp
theorem cnt_append (l m : List It) : cnt (l ++ m) = cnt l + cnt m := by
  induction l with
  | nil => simp [cnt]
  | cons x l ih => obtain ⟨k, b, n, f, t, ls⟩ := x; simp only [List.cons_append, cnt, ih]; omega
theorem cnt_ge (l : List It) : l.length ≤ cnt l := by
  induction l with
  | nil => simp
  | cons x l ih => obtain ⟨k, b, n, f, t, ls⟩ := x; simp only [cnt, List.length_cons]; omega
theorem cnt_snoc {l : List It} {j : Nat} {k : Nat} {b : Bool} {n : Int} {f : Nat} {t : List UInt8} {ls : List It} (h : l[j]? = some (.mk k b n f t ls)) : cnt (l.take (j + 1)) = cnt (l.take j) + (1 + cnt ls) := by
  rw [take_snoc h, cnt_append]; simp [cnt]
theorem cnt_sub {l : List It} {j : Nat} {k : Nat} {b : Bool} {n : Int} {f : Nat} {t : List UInt8} {ls : List It} (h : l[j]? = some (.mk k b n f t ls)) : cnt ls + 1 ≤ cnt l := by
  have h1 := cnt_snoc h
  have h2 := cnt_append (l.take (j + 1)) (l.drop (j + 1))
  rw [List.take_append_drop] at h2
  omega
theorem cnt_take_le (l : List It) (j : Nat) : cnt (l.take j) + (l.length - j) ≤ cnt l := by
  have h2 := cnt_append (l.take j) (l.drop j)
  have h3 := cnt_ge (l.drop j)
  rw [List.take_append_drop] at h2
  rw [List.length_drop] at h3
  omega
theorem cnt_take_ge (l : List It) (j : Nat) (hj : j ≤ l.length) : j ≤ cnt (l.take j) := by
  have := cnt_ge (l.take j)
  rw [List.length_take] at this
  omega
end Tp

set_option maxHeartbeats 4000000 in
set_option maxRecDepth 100000 in
theorem parts_calls : ∀ (N : Nat) {w0 : World} {B : Nat} {v : Value} {l : List It} (hrow : Row w0 B v l) (w : World), Keep w0 B w → Tp.cnt l ≤ N → Tp.cnt l ≤ 1048576 →
    Calls Tryz.prog 40 #[v] w fun e w' => ∃ r : Nat, e = .returned (.int .i64 r) ∧ Nq r (Tp.cnt l) ∧ Chg (fun _ => False) w w' := by
  intro N
  induction N with
  | zero =>
    intro w0 B v l hrow w hk hN hb
    have hl := Tp.cnt_ge l
    have hl0 : l = [] := List.eq_nil_of_length_eq_zero (by omega)
    subst hl0
    obtain ⟨A, cap, rfl, -, -⟩ := hrow.slice
    clear hrow hk hN hb hl
    go_enter Tryz.func40, Tryz.ntmps40
    go_wp2_with fail
    go_loopw [3, 4] (fun nv jv wr => nv = .int .i64 0 ∧ jv = .int .i64 0 ∧ wr = w) (fun _ _ _ => 0)
    case atStart => exact ⟨rfl, rfl, rfl⟩
    case round =>
      obtain ⟨rfl, rfl, rfl⟩ := hrel
      go_wp2_with fail
      go_ret
      exact ⟨0, rfl, by simp [Nq, Tp.cnt], Chg.refl _ _⟩
  | succ N ihN =>
    intro w0 B v l hrow w hk hN hb
    have hlb := Tp.cnt_ge l
    obtain ⟨A, cap, rfl, -, -⟩ := hrow.slice
    have Hrow := Lib.hid hrow
    clear hrow
    go_enter Tryz.func40, Tryz.ntmps40
    go_wp2_with fail
    go_loopw [3, 4] (fun nv jv wr => ∃ (j n : Nat), j ≤ l.length ∧ nv = .int .i64 n ∧ jv = .int .i64 j ∧ Nq n (Tp.cnt (l.take j) + (l.length - j)) ∧ Chg (fun _ => False) w wr) (fun _ jv _ => l.length - (intOf jv).toNat)
    case atStart => exact ⟨0, l.length, by omega, rfl, rfl, by simp [Nq, Tp.cnt], Chg.refl _ _⟩
    case round =>
      obtain ⟨j, n, hj, rfl, rfl, hn, hc'⟩ := hrel
      have hle := Tp.cnt_take_le l j
      have hn1 := hn.1
      rcases Nat.lt_or_ge j l.length with hlt | hge
      · rcases Nat.lt_or_ge 10000 n with hbig | hsm
        · have nb1 : decide ((n : Int) ≤ 10000) = false := by rw [decide_eq_false_iff_not]; omega
          have Hn := Lib.hid (show Nq n (Tp.cnt l) from ⟨by omega, fun h => by omega⟩)
          have Hc' := Lib.hid hc'
          clear hn hc' hk hle
          go_wp2_with fail
          go_ret
          exact ⟨n, rfl, Hn.out, Hc'.out⟩
        · have nb1 : decide ((n : Int) ≤ 10000) = true := by rw [decide_eq_true_iff]; omega
          obtain ⟨⟨xk, xb, xn, xf, xt, xl⟩, hx⟩ : ∃ x, l[j]? = some x := ⟨_, List.getElem?_eq_getElem hlt⟩
          obtain ⟨gr, off, cap2, xv, hA, hgr, hin, hcells, hr⟩ := Hrow.out.get hx
          obtain ⟨rfl, rfl⟩ : A = some ⟨gr, off, none⟩ ∧ cap = cap2 := by injection hA with a1 a2 a3; exact ⟨a1, a3⟩
          have hk' := hk.chg hc' (fun k hkB e => e)
          have c5 : wr.cell? ⟨gr, off + j * 6 + 5, none⟩ = some xv := by
            rw [hk'.1 _ hgr]; exact hcells 5 _ rfl
          have hs1 := Tp.cnt_sub hx
          have hs2 := Tp.cnt_snoc hx
          have hle2 := Tp.cnt_take_le l (j + 1)
          have HI := Lib.hid (fun wc (hcx : Chg (fun _ => False) wr wc) => ihN hr wc (hk'.chg hcx (fun k hkB e => e)) (by omega) (by omega))
          have hj6 : j * 6 + 5 = j * 6 + 5 := rfl
          have Hn := Lib.hid (hn.2 hsm)
          have Hs2 := Lib.hid hs2
          have Hc' := Lib.hid hc'
          have Hle2 := Lib.hid hle2
          clear hn hc' hk hk' hcells hin hA hs1 hs2 hle2 hle hr
          go_wp2_with fail
          refine (HI.out _ (Chg.refl _ _)).mono ?_
          rintro e w2 ⟨r, rfl, hr2, hc2⟩
          have Hr2 := Lib.hid hr2
          have hrb : n + r ≤ 1048576 := by have := Hn.out; have := Hs2.out; have := Hle2.out; have := hr2.1; omega
          have Hc2 := Lib.hid ((Hc'.out).trans hc2)
          have hwr : IntKind.i64.wrap ((n : Int) + (r : Int)) = ((n + r : Nat) : Int) := by rw [IntWalk.i64_in _ (by omega)]; rfl
          clear hr2 hc2
          go_wp2_with fail
          go_round
          case rel =>
            refine ⟨j + 1, n + r, by omega, by first | rfl | go_num, by go_num, ?_, Hc2.out⟩
            have h1 := Hn.out
            have h2 := Hs2.out
            have h3 := (Hr2.out).1
            have h4 := (Hr2.out).2
            unfold Nq
            omega
          case measure => simp [intOf]; omega
      · have hjl : j = l.length := by omega
        have Hn := Lib.hid (show Nq n (Tp.cnt l) by rw [hjl, List.take_length] at hn; simpa using hn)
        have Hc' := Lib.hid hc'
        have hnl : ¬ ((j : Int) < (l.length : Int)) := by omega
        have hnl2 : decide ((j : Int) < (l.length : Int)) = false := by rw [decide_eq_false_iff_not]; omega
        clear hn hc' hk hle
        go_wp2_with fail
        go_ret
        exact ⟨n, rfl, Hn.out, Hc'.out⟩

set_option maxHeartbeats 1000000 in
set_option maxRecDepth 100000 in
theorem vast_calls {w0 : World} {B : Nat} {v : Value} {l : List It} (hrow : Row w0 B v l) (w : World) (hk : Keep w0 B w) (hb : Tp.cnt l ≤ 1048576) :
    Calls Tryz.prog 18 #[v] w fun e w' => e = .returned (.bool (decide (10000 < Tp.cnt l))) ∧ Chg (fun _ => False) w w' := by
  have HP := Lib.hid (parts_calls _ hrow w hk (Nat.le_refl _) hb)
  obtain ⟨A, cap, rfl, -, -⟩ := hrow.slice
  clear hrow hk
  go_enter Tryz.func18, Tryz.ntmps18
  go_wp2_with fail
  refine HP.out.mono ?_
  rintro e w2 ⟨r, rfl, hr, hc2⟩
  have Hr := Lib.hid hr
  clear hr
  go_wp2_with fail
  go_ret
  refine ⟨ret_b ?_, hc2⟩
  have h1 := (Hr.out).1
  have h2 := (Hr.out).2
  by_cases h : 10000 < Tp.cnt l
  · rw [decide_eq_true h]; simp; omega
  · rw [decide_eq_false h]; simp; omega
end Go.Proofs.YtdicelibjpmglaaGreatDoor
