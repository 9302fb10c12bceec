/-
  Layer 3: the program's Print, what numbers, floats and texts are written as handed in; Print of true.
-/
import Derived.Test.YtdicelibjpmglaaGreatDoorTn
namespace Go.Proofs.YtdicelibjpmglaaGreatDoor
open Go.RowKit
set_option linter.unusedVariables false
set_option linter.unusedSimpArgs false
attribute [local go_sem] run_store_float
open Tp (It)

theorem own_one {w : World} {B g : Nat} {o : Value} (hb : Blk w g 5 #[o]) (hB : B ≤ g) : w.ownsRow B 5 1 (.slice (some ⟨g, 0, none⟩) 1 1) 1 [o] :=
  ⟨rfl, .inr ⟨g, 1, #[o], rfl, hB, hb, by omega, by unfold maxLen; omega, rfl, rfl⟩⟩
namespace Tp
def print (at_ : Nat → Int → Nat → List UInt8 → List UInt8) (l : List It) : List UInt8 := if check l = 0 then 40 :: (wc at_ true l ++ [41]) else []
end Tp

set_option maxHeartbeats 4000000 in
set_option maxRecDepth 100000 in
theorem print_calls (at_ : Nat → Int → Nat → List UInt8 → List UInt8) (P : Nat → Int → Nat → List UInt8 → Prop) {w0 : World} {B : Nat} {v : Value} {l : List It} (hrow : Row w0 B v l)
    (HA : ∀ (k : Nat) (b : Bool) (n : Int) (f : Nat) (t : List UInt8) (A : Option Addr) (m cap : Nat), P k n f t → InIt k n f t → k = 3 ∨ k = 4 ∨ k = 5 → Words w0 B (fun bv => #[bv, IV k b n f t (.slice A m cap)]) 66 (at_ k n f t))
    (w : World) (hk : Keep w0 B w) (hs : Tp.sz l ≤ 1000000000000) (hall : Tp.check l = 0 → Tp.All P l ∧ (Tp.wc at_ true l).length ≤ 900000) :
    Calls Tryz.prog 17 #[v] w fun e w' => e = .returned (.tuple #[S (Tp.print at_ l), .int .i64 (Tp.check l)]) ∧ Chg (fun _ => False) w w' := by
  obtain ⟨i0, hi, hz0, hz1, hz2⟩ := info_parts info_b8
  have HC := Lib.hid (check_calls hrow w hk hs)
  have HL := Lib.hid (fun (hok : Tp.okB l = true) (ha : Tp.All P l) => words_calls at_ P hrow HA hok ha)
  obtain ⟨A, cap, rfl, -, -⟩ := hrow.slice
  obtain ⟨c, hc⟩ : ∃ c, Tp.check l = c := ⟨_, rfl⟩
  have Hok := Lib.hid (fun h : c = 0 => Tp.check_ok (hc.trans h))
  have Hall := Lib.hid (fun h : c = 0 => hall (hc.trans h))
  have Hp := Lib.hid (show Tp.print at_ l = if c = 0 then 40 :: (Tp.wc at_ true l ++ [41]) else [] by unfold Tp.print; rw [hc])
  have Hk := Lib.hid hk
  have hB := hk.2
  rw [hc] at HC ⊢
  clear hrow hk hs hc hall HA
  by_cases h0 : c = 0
  · subst h0
    obtain ⟨-, -, hok, -⟩ := Hok.out rfl
    obtain ⟨ha, hbl⟩ := Hall.out rfl
    have HL := Lib.hid (HL.out hok ha)
    have Hp2 := Lib.hid (Hp.out.trans (if_pos rfl))
    clear hok ha Hp
    obtain ⟨wd, hwd⟩ : ∃ wd, Tp.wc at_ true l = wd := ⟨_, rfl⟩
    rw [hwd] at HL Hp2 hbl
    clear hwd
    go_enter Tryz.func17, Tryz.ntmps17
    go_wp2_with fail
    refine HC.out.mono ?_
    rintro e w2 ⟨rfl, hc2⟩
    have hs2 := hc2.size
    have hown2 := own_one (B := B) (Blk.new w2 5 #[.int .u8 40]) (by omega)
    go_wp2_with fail
    refine (HL.out _ [40] _ ((Hk.out).chg (hc2.alloc _) (fun k hkB e => e)) hown2 (by simp; omega)).mono ?_
    rintro e w3 ⟨v3, rfl, hg3⟩
    have hown3 := hg3.own
    have hs3 := hg3.chg.size
    simp at hs3
    go_wp2_with (at_builtin; refine wpList_append_any _ rfl (.tmp 12) (.tmp 13) _ rfl B 5 i0 _ 1 1 Tryz.underlying51 hi hz0 hz1 hz2 rfl (by omega) _ ([40] ++ wd).length (bys ([40] ++ wd)) rfl (hown3.alloc _) (w3.heap.size + 1) (some ⟨w3.heap.size, 0, none⟩) 1 1 [_] rfl (Reads.one _ _ _ _ rfl) (by simp [Value.oneCell']) (by simp; unfold maxLen; omega) (by simp; omega) (by simp; omega) ?_; intro v4 w4 hown4 hgr4 hat; have hg4 := Grew.step (zs := [41]) (Grew.refl hown3) ((Chg.refl _ _).alloc _) hown4 rfl hgr4 (fun k hk => (own_at hat k hk).imp id (fun h => by simp at h; omega)); have hcv := run_convert_own (P := Tryz.prog) w4 51 9 5 Tryz.underlying51 Tryz.underlying5 Tryz.underlying9 hg4.own)
    go_ret2
    have hgg := hg3.trans hg4
    rw [Hp2.out]
    refine ⟨by simp [S], ((hc2.alloc _).andThen hgg.chg ?_)⟩
    intro k hk he
    simp [Value.ownBlock] at he
    have := hc2.size
    omega
  · have c1 : (c != 0) = true := by simpa using h0
    have c2 : (c == 0) = false := by simpa using h0
    have Hp := Lib.hid (Hp.out.trans (if_neg h0))
    clear h0
    go_enter Tryz.func17, Tryz.ntmps17
    go_wp2_with fail
    refine HC.out.mono ?_
    rintro e w2 ⟨rfl, hc2⟩
    go_wp2_with fail
    go_ret2
    rw [Hp.out]
    exact ⟨rfl, hc2⟩
end Go.Proofs.YtdicelibjpmglaaGreatDoor
