/-
  Layer 3: the program's Pack; two closed calls of Print and Unpack; awake.
-/
import Derived.Test.YtdicelibjpmglaaGreatDoorTl
namespace Go.Proofs.YtdicelibjpmglaaGreatDoor
open Go.RowKit
set_option linter.unusedVariables false
set_option linter.unusedSimpArgs false
attribute [local go_sem] run_store_float
open Tp (It)

/-- the program's globals that a walk reads: block 1 holds a number -/
structure Glob (w : World) (B : Nat) : Prop where
  m : ∃ m : Int, w.cell? ⟨1, 0, none⟩ = some (.int .i64 m)
  lt : 1 < B
namespace Tp
/-- the bytes of a row, none where it may not be -/
def pack (l : List It) : List UInt8 := if check l = 0 then byt l else []
theorem check_ok {l : List It} (h : check l = 0) : (look l 0 0 0).2.2 = 0 ∧ sz l ≤ 4096 ∧ okB l = true ∧ (byt l).length ≤ 4096 := by
  unfold check at h
  by_cases h0 : (look l 0 0 0).2.2 = 0
  · rw [if_neg (by simpa using h0)] at h
    have h1 := look_ok l 0 0 0 h0
    have h2 : ¬ 4096 < (look l 0 0 0).2.1 := by intro hh; rw [if_pos hh] at h; exact absurd h (by decide)
    have h3 := byt_length l 0 0 0 h0
    exact ⟨h0, by omega, okB_look l 0 0 0 h0, by omega⟩
  · rw [if_pos (by simpa using h0)] at h
    exact absurd h h0
end Tp

set_option maxHeartbeats 2000000 in
set_option maxRecDepth 100000 in
theorem pack_calls {w0 : World} {B : Nat} {v : Value} {l : List It} (hrow : Row w0 B v l) (hG : Glob w0 B) (w : World) (hk : Keep w0 B w) (hs : Tp.sz l ≤ 1000000000000) :
    Calls Tryz.prog 29 #[v] w fun e w' => e = .returned (.tuple #[S (Tp.pack l), .int .i64 (Tp.check l)]) ∧ Chg (fun _ => False) w w' := by
  have HC := Lib.hid (check_calls hrow w hk hs)
  obtain ⟨⟨m, hm⟩, hB0⟩ := hG
  have HL := Lib.hid (fun (hok : Tp.okB l = true) (hl : (Tp.byt l).length ≤ 4096) w2 (hc : Chg (fun _ => False) w w2) => lay_calls hrow m hm hB0 (.slice none 0 0) [] w2 (hk.chg hc (fun k hkB e => e)) hok (World.ownsRow_nil _ _ _ _) (by simp; omega))
  obtain ⟨A, cap, rfl, -, -⟩ := hrow.slice
  obtain ⟨c, hc⟩ : ∃ c, Tp.check l = c := ⟨_, rfl⟩
  have Hok := Lib.hid (fun h : c = 0 => Tp.check_ok (hc.trans h))
  have Hp := Lib.hid (show Tp.pack l = if c = 0 then Tp.byt l else [] by unfold Tp.pack; rw [hc])
  rw [hc] at HC ⊢
  clear hrow hk hs hc hm hB0
  by_cases h0 : c = 0
  · subst h0
    obtain ⟨-, -, hok, hbl⟩ := Hok.out rfl
    have HL := Lib.hid (HL.out hok hbl)
    have Hp := Lib.hid (Hp.out.trans (if_pos rfl))
    clear hok hbl
    go_enter Tryz.func29, Tryz.ntmps29
    go_wp2_with fail
    refine HC.out.mono ?_
    rintro e w2 ⟨rfl, hc2⟩
    go_wp2_with fail
    refine (HL.out w2 hc2).mono ?_
    rintro e w3 ⟨v3, rfl, hg⟩
    have hcv := run_convert_own (P := Tryz.prog) w3 51 9 5 Tryz.underlying51 Tryz.underlying5 Tryz.underlying9 hg.own
    have hch := hc2.trans (hg.chg.mono (S' := fun _ => False) (fun k _ h => by simp [Value.ownBlock] at h))
    clear hg
    go_wp2_with fail
    go_ret2
    rw [Hp.out]
    exact ⟨rfl, hch⟩
  · have c1 : (c != 0) = true := by simpa using h0
    have c2 : (c == 0) = false := by simpa using h0
    have Hp := Lib.hid (Hp.out.trans (if_neg h0))
    clear h0
    go_enter Tryz.func29, Tryz.ntmps29
    go_wp2_with fail
    refine HC.out.mono ?_
    rintro e w2 ⟨rfl, hc2⟩
    go_wp2_with fail
    go_ret2
    rw [Hp.out]
    exact ⟨rfl, hc2⟩
end Go.Proofs.YtdicelibjpmglaaGreatDoor
