/-
  Layer 3: the program's big: a number's bytes laid behind what there is.
-/
import Derived.Test.YtdicelibjpmglaaGreatDoorTi
import Derived.Test.YtdicelibjpmglaaGreatDoorRead
import Derived.Deep.RegionHeld3
namespace Go.Proofs.YtdicelibjpmglaaGreatDoor
open Go.RowKit
set_option linter.unusedVariables false
set_option linter.unusedSimpArgs false
attribute [local go_sem] run_store_float
open Tp (It)

theorem info_b8 : (Tryz.prog.info? 5).map (fun i => (i.zero, i.size, i.bytes)) = some (some (.int .u8 0), 1, 1) := by kernel_rfl
/-- from w to w' the row of bytes v has become v', that holds ys -/
structure Grew (B : Nat) (w w' : World) (v v' : Value) (ys : List UInt8) : Prop where
  own : w'.ownsRow B 5 1 v' ys.length (bys ys)
  chg : Chg (fun k => v.ownBlock = some k) w w'
  at_ : ∀ k, v'.ownBlock = some k → v.ownBlock = some k ∨ w.heap.size ≤ k
theorem Grew.refl {B : Nat} {w : World} {v : Value} {ys : List UInt8} (h : w.ownsRow B 5 1 v ys.length (bys ys)) : Grew B w w v v ys := ⟨h, Chg.refl _ _, fun _ h => .inl h⟩
/-- more bytes behind -/
theorem Grew.step {B : Nat} {w wr wa w1 : World} {v v1 v2 : Value} {ys zs : List UInt8} {n : Nat} {news : List Value} (h : Grew B w wr v v1 ys) (ha : Chg (fun _ => False) wr wa) (hown : w1.ownsRow B 5 1 v2 (ys.length + n) (bys ys ++ news))
    (hz : news = bys zs) (hgr : wa.grownBy w1 v1.ownBlock) (hat : ∀ k, v2.ownBlock = some k → v1.ownBlock = some k ∨ wr.heap.size ≤ k) : Grew B w w1 v v2 (ys ++ zs) := by
  subst hz
  have hn : n = zs.length := by have := hown.1; simp [bys_length] at this; omega
  subst hn
  refine ⟨?_, ?_, ?_⟩
  · rw [List.length_append, bys_append]; exact hown
  · refine (h.chg.andThen ha (fun _ _ h => h.elim)).grown hgr fun k hk => ?_
    exact h.at_ k hk
  · intro k hk
    rcases hat k hk with h2 | h2
    · exact h.at_ k h2
    · have := h.chg.size; right; omega
theorem Grew.trans {B : Nat} {w w1 w2 : World} {v v1 v2 : Value} {xs ys : List UInt8} (h : Grew B w w1 v v1 xs) (k : Grew B w1 w2 v1 v2 ys) : Grew B w w2 v v2 ys := by
  refine ⟨k.own, h.chg.andThen k.chg fun j hj hs => ?_, fun j hj => ?_⟩
  · rcases h.at_ j hs with h2 | h2
    · exact h2
    · omega
  · rcases k.at_ j hj with h2 | h2
    · exact h.at_ j h2
    · have := h.chg.size; right; omega
theorem Grew.quiet {B : Nat} {w wr wa : World} {v v1 : Value} {ys : List UInt8} (h : Grew B w wr v v1 ys) (ha : Chg (fun _ => False) wr wa) : Grew B w wa v v1 ys :=
  ⟨own_chg h.own ha (fun _ _ h => h), h.chg.andThen ha (fun _ _ h => h.elim), h.at_⟩
theorem Grew.keep {B B0 : Nat} {w0 w w' : World} {v v' : Value} {xs ys : List UInt8} (h : Grew B w w' v v' ys) (hk : Keep w0 B0 w) (hB : B0 ≤ B) (ho : w.ownsRow B 5 1 v xs.length (bys xs)) : Keep w0 B0 w' :=
  hk.chg h.chg (fun k hkB e => by have := (ho.lt k e).1; omega)
theorem byte_shift (u r : Nat) : UInt8.ofNat ((u : Int) / 256 ^ r % 256).toNat = UInt8.ofNat (u / 256 ^ r % 256) := by
  have : (u : Int) / 256 ^ r = ((u / 256 ^ r : Nat) : Int) := by simp
  rw [this]; rfl
theorem shift_cell (u q : Nat) : [Value.int IntKind.u8 ((u : Int) / 2 ^ (8 * q) % 256)] = bys [UInt8.ofNat (u / 256 ^ q % 256)] := by
  have h : (u : Int) / 2 ^ (8 * q) % 256 = ((u / 256 ^ q % 256 : Nat) : Int) := by
    have e : (2 : Int) ^ (8 * q) = ((256 ^ q : Nat) : Int) := by
      rw [Int.pow_mul]; simp
    rw [e]; omega
  rw [h]
  simp [bys]

set_option maxHeartbeats 2000000 in
set_option maxRecDepth 100000 in
theorem big_calls (B : Nat) (u m : Nat) (v : Value) (xs : List UInt8) (w : World) (hu : U64 u) (hm : m ≤ 8) (hB : B ≤ w.heap.size) (hown : w.ownsRow B 5 1 v xs.length (bys xs)) (hroom : xs.length ≤ 1000000000) :
    Calls Tryz.prog 81 #[v, .int .u64 u, .int .i64 m] w fun e w' => ∃ v', e = .returned v' ∧ Grew B w w' v v' (xs ++ Pk.be m u) := by
  obtain ⟨i0, hi, hz0, hz1, hz2⟩ := info_parts info_b8
  have hw : IntKind.i64.wrap ((m : Int) - 1) = (m : Int) - 1 := IntWalk.i64_in _ (by omega)
  go_enter Tryz.func81, Tryz.ntmps81
  go_wp2_with fail
  go_loopw [0, 7] (fun bv iv wr => ∃ (r : Nat) (ys : List UInt8), r ≤ 8 ∧ iv = .int .i64 ((r : Int) - 1) ∧ ys.length + r ≤ 1000000008 ∧ ys ++ Pk.be r u = xs ++ Pk.be m u ∧ Grew B w wr v bv ys) (fun _ iv _ => (intOf iv + 1).toNat)
  case atStart => exact ⟨m, xs, hm, by go_num, by omega, rfl, Grew.refl hown⟩
  case round =>
    obtain ⟨r, ys, hr, rfl, hys, hcat, hg⟩ := hrel
    rcases Nat.eq_zero_or_pos r with h0 | h0
    · subst h0
      have Hcat := Lib.hid hcat
      have Hg := Lib.hid hg
      clear hcat hg hown
      go_wp2_with fail
      go_ret
      have hcat := Hcat.out
      simp only [Pk.be, List.append_nil] at hcat
      rw [← hcat]
      exact ⟨_, rfl, Hg.out⟩
    · obtain ⟨q, rfl⟩ : ∃ q, r = q + 1 := ⟨r - 1, by omega⟩
      have Hcat := Lib.hid hcat
      have hown1 := hg.own
      have hsz := hg.chg.size
      have Hg := Lib.hid hg
      have hB2 : B ≤ wr.heap.size := by omega
      clear hcat hg hown hw
      rw [show (((q + 1 : Nat) : Int) - 1) = (q : Int) by omega]
      go_wp2_with (at_builtin; refine wpList_append_any _ rfl (.tmp 14) (.tmp 20) _ rfl B 5 i0 _ 1 1 Tryz.underlying51 hi hz0 hz1 hz2 rfl (by omega) _ ys.length (bys ys) rfl (hown1.alloc _) (wr.heap.size + 1) (some ⟨wr.heap.size, 0, none⟩) 1 1 [_] rfl (Reads.one _ _ _ _ rfl) (by simp [Value.oneCell']) (by unfold maxLen; omega) (by omega) (by simp; omega) ?_; intro v3 w3 hown3 hgr hat)
      go_roundw
      case rel =>
        refine ⟨q, ys ++ [UInt8.ofNat (u / 256 ^ q % 256)], by omega, rfl, by simp; omega, ?_, ?_⟩
        · rw [← Hcat.out, show Pk.be (q + 1) (u : Int) = UInt8.ofNat (u / 256 ^ q % 256) :: Pk.be q u by rw [Pk.be, byte_shift]]
          simp
        · exact Grew.step Hg.out ((Chg.refl _ _).alloc _) hown3 (shift_cell u q) hgr (fun k hk => (own_at hat k hk).imp id (fun h => by simp at h; omega))
      case measure => simp [intOf]
end Go.Proofs.YtdicelibjpmglaaGreatDoor
