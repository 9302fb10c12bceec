/-
  Layer 27: the Reader's Push, Held, State.
-/
import Derived.Test.YthkfcfkkamffpaaGreatYo
import Derived.Test.YthkfcfkkamffpaaGreatZd
import Derived.Test.YthkfcfkkamffpaaGreatWk
import Derived.Deep.QuietTactic
import Derived.BigQuiet
namespace Go.Proofs.YthkfcfkkamffpaaGreat
open Go.RowKit
set_option linter.unusedVariables false
set_option linter.unusedSimpArgs false
open Wm (M)
/-- block b holds one of the lists -/
def LB (L : Ls) (b : Nat) : Prop := L.t.ownBlock = some b ∨ L.s.ownBlock = some b ∨ L.p.ownBlock = some b ∨ L.y.ownBlock = some b
theorem OwnL.lt {w : World} {lo : Nat} {m : M} {L : Ls} (h : OwnL w lo m L) {b : Nat} (hb : LB L b) : lo ≤ b ∧ b < w.heap.size := by
  rcases hb with e | e | e | e
  · exact h.t.lt b e
  · exact h.s.lt b e
  · exact h.p.lt b e
  · exact h.y.lt b e
theorem OwnL.keep {Q : Nat → Prop} {w w' : World} {lo : Nat} {m : M} {L : Ls} (h : OwnL w lo m L) (hc : Chg Q w w') (hq : ∀ b, LB L b → ¬ Q b) : OwnL w' lo m L :=
  ⟨own_chg h.t hc (fun b e => hq b (.inl e)), own_chg h.s hc (fun b e => hq b (.inr (.inl e))), own_chg h.p hc (fun b e => hq b (.inr (.inr (.inl e)))), own_chg h.y hc (fun b e => hq b (.inr (.inr (.inr e))))⟩
theorem OwnL.low {w : World} {lo lo' : Nat} {m : M} {L : Ls} (h : OwnL w lo m L) (hl : lo' ≤ lo) : OwnL w lo' m L := ⟨own_low h.t hl, own_low h.s hl, own_low h.p hl, own_low h.y hl⟩
/-- messages' lists, each message's in blocks above the ones before it -/
def Sep (w : World) : Nat → List (M × Ls) → Prop
  | _, [] => True
  | lo, x :: r => OwnL w lo x.1 x.2 ∧ ∃ mid, lo ≤ mid ∧ (∀ b, LB x.2 b → b < mid) ∧ Sep w mid r
theorem Sep.chg {Q : Nat → Prop} {w w' : World} (hc : Chg Q w w') : ∀ {l : List (M × Ls)} {lo : Nat}, Sep w lo l → (∀ x ∈ l, ∀ b, LB x.2 b → ¬ Q b) → Sep w' lo l
  | [], _, _, _ => trivial
  | x :: r, lo, ⟨h, mid, h1, h2, h3⟩, hq => ⟨h.keep hc (hq x (by simp)), mid, h1, h2, Sep.chg hc h3 (fun y hy => hq y (by simp [hy]))⟩
theorem Sep.low {w : World} : ∀ {l : List (M × Ls)} {lo lo' : Nat}, Sep w lo l → lo' ≤ lo → Sep w lo' l
  | [], _, _, _, _ => trivial
  | x :: r, lo, lo', ⟨h, mid, h1, h2, h3⟩, hl => ⟨h.low hl, mid, Nat.le_trans hl h1, h2, h3⟩
theorem Sep.mem {w : World} : ∀ {l : List (M × Ls)} {lo : Nat}, Sep w lo l → ∀ x ∈ l, OwnL w lo x.1 x.2
  | [], _, _, _, hx => by simp at hx
  | y :: r, lo, ⟨h, mid, h1, h2, h3⟩, x, hx => by
    rcases List.mem_cons.1 hx with e | e
    · subst e; exact h
    · exact (Sep.mem h3 x e).low h1
theorem Sep.append {w : World} {mid : Nat} {r : List (M × Ls)} (hr : Sep w mid r) : ∀ {l : List (M × Ls)} {lo : Nat}, Sep w lo l → lo ≤ mid → (∀ x ∈ l, ∀ b, LB x.2 b → b < mid) → Sep w lo (l ++ r)
  | [], lo, _, hl, _ => hr.low hl
  | x :: l, lo, ⟨h, m0, h1, h2, h3⟩, hl, hb => by
    refine ⟨h, min m0 mid, by omega, fun b hlb => ?_, ?_⟩
    · have := h2 b hlb
      have := hb x (by simp) b hlb
      omega
    · rcases Nat.le_total m0 mid with h4 | h4
      · rw [Nat.min_eq_left h4]; exact Sep.append hr h3 h4 (fun y hy => hb y (by simp [hy]))
      · rw [Nat.min_eq_right h4]
        exact Sep.append hr (h3.low h4) (Nat.le_refl _) (fun y hy => hb y (by simp [hy]))
/-- a row of another type of elements is not in these blocks -/
theorem own_type_ne {w : World} {base base' size size' n n' : Nat} {e e' : TypeId} {v v' : Value} {xs xs' : List Value} (h : w.ownsRow base e size v n xs) (h' : w.ownsRow base' e' size' v' n' xs') (hne : e ≠ e') {b : Nat} (hb : v.ownBlock = some b) : v'.ownBlock ≠ some b := by
  intro hb'
  obtain ⟨_, h2⟩ := h
  rcases h2 with ⟨rfl, _⟩ | ⟨g, cap, cur, rfl, hg, hblk, _⟩
  · cases hb
  · have : g = b := by injection hb
    subst this
    exact own_blk_ne h' hblk (fun e => hne e.symm) hb'
theorem LB.ne {w : World} {lo base n : Nat} {m : M} {L : Ls} {v : Value} {xs : List Value} (h : OwnL w lo m L) (hv : w.ownsRow base 36 84 v n xs) {b : Nat} (hb : LB L b) : v.ownBlock ≠ some b := by
  rcases hb with e | e | e | e
  · exact own_type_ne h.t hv (by decide) e
  · exact own_type_ne h.s hv (by decide) e
  · exact own_type_ne h.p hv (by decide) e
  · exact own_type_ne h.y hv (by decide) e
theorem info_msgz : (Tryz.prog.info? 36).map (fun i => (i.zero, i.size, i.bytes)) = some (some (.agg Tryz.zeroCells36), 84, 312) := by kernel_rfl
/-- a slice literal of one message -/
theorem bs_msgs (n : Nat) (ps : Array (Nat × Value)) : Instr.buildSlice 47 n ps = bslice 47 n ps := rfl
theorem bs_msg (m : M) (L : Ls) (hd : Dg m) (W3 : World) : (bslice 47 1 #[(0, .agg (mcells m L))]).run Tryz.prog W3 = .ok (.slice (some ⟨W3.heap.size, 0, none⟩) 1 1) (W3.alloc (.cells (mcells m L) 36)) := by
  obtain ⟨i0, hi0, hz0, hz1, hz2⟩ := info_parts info_msgz
  refine run_buildSlice W3 _ _ _ _ _ i0 _ Tryz.underlying47 hi0 hz0 (by rw [hz1]; omega) (by rw [hz1]; omega) ?_
  rw [hz1]
  have h := Great.fill_whole (s := 84) (by omega) [.agg (mcells m L)] ((Array.range (1 * 84)).map ((Value.agg Tryz.zeroCells36).cells[· % (Value.agg Tryz.zeroCells36).cells.size]!)) (by intro v hv; simp only [List.mem_singleton] at hv; subst hv; exact mc_len m L hd) (by simp)
  refine h.trans ?_
  simp [Value.cells]
/-- block g is a Reader of frames -/
def IsRd (w : World) (g : Nat) (held : List UInt8) (st : Nat) : Prop := Blk w g 54 #[S held, .int .i64 st]
set_option maxHeartbeats 2000000 in
set_option maxRecDepth 100000 in
theorem held_calls (g : Nat) (held : List UInt8) (st : Nat) (w : World) (h : IsRd w g held st) : Calls Tryz.prog 29 #[pt g] w fun e w' => e = .returned (.int .i64 held.length) ∧ w = w' := by
  have c0 : w.cell? ⟨g, 0, none⟩ = some (S held) := Blk.cell h 0
  clear h
  go_enter Tryz.func29, Tryz.ntmps29
  go_wp2_with fail
  go_ret
  exact ⟨rfl, rfl⟩
set_option maxHeartbeats 2000000 in
set_option maxRecDepth 100000 in
theorem held_nil (w : World) : Calls Tryz.prog 29 #[.pointer none] w fun e w' => e = .returned (.int .i64 0) ∧ w = w' := by
  go_enter Tryz.func29, Tryz.ntmps29
  go_wp2_with fail
  go_ret
  exact ⟨rfl, rfl⟩
set_option maxHeartbeats 2000000 in
set_option maxRecDepth 100000 in
theorem state_calls (g : Nat) (held : List UInt8) (st : Nat) (w : World) (h : IsRd w g held st) : Calls Tryz.prog 30 #[pt g] w fun e w' => e = .returned (.int .i64 st) ∧ w = w' := by
  have c1 : w.cell? ⟨g, 1, none⟩ = some (.int .i64 st) := Blk.cell h 1
  clear h
  go_enter Tryz.func30, Tryz.ntmps30
  go_wp2_with fail
  go_ret
  exact ⟨rfl, rfl⟩
set_option maxHeartbeats 2000000 in
set_option maxRecDepth 100000 in
theorem state_nil (w : World) : Calls Tryz.prog 30 #[.pointer none] w fun e w' => e = .returned (.int .i64 1) ∧ w = w' := by
  go_enter Tryz.func30, Tryz.ntmps30
  go_wp2_with fail
  go_ret
  exact ⟨rfl, rfl⟩
set_option maxHeartbeats 2000000 in
set_option maxRecDepth 100000 in
theorem push_nil (piece : List UInt8) (w : World) : Calls Tryz.prog 26 #[.pointer none, S piece] w fun e w' => e = .returned (.tuple #[.slice none 0 0, .int .i64 1]) ∧ w = w' := by
  go_enter Tryz.func26, Tryz.ntmps26
  go_wp2_with fail
  go_ret2
  exact ⟨rfl, rfl⟩
/-- what Push comes to -/
def PushE (g : Nat) (held : List UInt8) (st : Nat) (piece : List UInt8) (w w' : World) (e : Ending) : Prop :=
  ∃ (v : Value) (X : List (M × Ls)), e = .returned (.tuple #[v, .int .i64 ((pushW held st piece).2.1 : Nat)]) ∧ X.map Prod.fst = (pushW held st piece).1 ∧ w'.ownsRow w.heap.size 36 84 v X.length (X.flatMap fun x => mc x.1 x.2) ∧ Sep w' w.heap.size X ∧
    IsRd w' g (pushW held st piece).2.2.1 (pushW held st piece).2.2.2 ∧ Chg (fun k => k = g) w w'
set_option maxHeartbeats 2000000 in
set_option maxRecDepth 100000 in
theorem push_dead (g : Nat) (held : List UInt8) (st : Nat) (piece : List UInt8) (w : World) (h : IsRd w g held st) (hst : st ≠ 0) : Calls Tryz.prog 26 #[pt g, S piece] w fun e w' => PushE g held st piece w w' e := by
  have c1 : w.cell? ⟨g, 1, none⟩ = some (.int .i64 st) := Blk.cell h 1
  have q0 : ((st : Int) != 0) = true := by rw [bne_iff_ne]; omega
  have Hw := Lib.hid (show pushW held st piece = ([], st, held, st) by unfold pushW; rw [if_pos hst])
  have H := Lib.hid h
  clear h hst
  go_enter Tryz.func26, Tryz.ntmps26
  go_wp2_with fail
  go_quiet (fail)
  go_wp2_with fail
  go_ret2
  refine ⟨.slice none 0 0, [], by rw [Hw.out]; rfl, by rw [Hw.out]; rfl, World.ownsRow_nil _ _ _ _, trivial, ?_, (Chg.refl _ w).drewN _⟩
  rw [Hw.out]
  exact Blk.drewN H.out _
end Go.Proofs.YthkfcfkkamffpaaGreat
