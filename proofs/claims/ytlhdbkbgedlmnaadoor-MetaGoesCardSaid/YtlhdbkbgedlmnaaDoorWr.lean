/-
  pack.Writer: what its methods do to the memory, each once.
-/
import Derived.Test.YtlhdbkbgedlmnaaDoorRead
import Derived.Test.YtlhdbkbgedlmnaaDoorPk
namespace Go.Proofs.YtlhdbkbgedlmnaaDoor
open Go.RowKit
set_option linter.unusedVariables false

theorem info_u8 : (Tryd.prog.info? 5).map (fun i => (i.zero, i.size, i.bytes)) = some (some (.int .u8 0), 1, 1) := by kernel_rfl

/-- Block g is a Writer that holds the bytes xs; v is its slice. -/
structure IsW (w : World) (g : Nat) (v : Value) (xs : List UInt8) : Prop where
  blk : Blk w g 105 #[.bool true, v]
  own : w.ownsRow 0 5 1 v xs.length (bys xs)

/-- From w to w' the Writer g, whose slice was v, has come to hold xs. -/
def Wrote (w w' : World) (g : Nat) (v : Value) (xs : List UInt8) : Prop :=
  ∃ v', IsW w' g v' xs ∧ Chg (fun k => k = g ∨ v.ownBlock = some k) w w' ∧ ∀ k, v'.ownBlock = some k → v.ownBlock = some k ∨ w.heap.size ≤ k

theorem Wrote.refl {w : World} {g : Nat} {v : Value} {xs : List UInt8} (h : IsW w g v xs) : Wrote w w g v xs := ⟨v, h, Chg.refl _ _, fun _ h => .inl h⟩

/-- one byte appended, and the slice stored back -/
theorem wrote_step {w wr w1 : World} {g : Nat} {v v1 v2 : Value} {xs : List UInt8} {b : UInt8} {o : Obj} (h : IsW wr g v1 xs)
    (hc : Chg (fun k => k = g ∨ v.ownBlock = some k) w wr) (hv : ∀ k, v1.ownBlock = some k → v.ownBlock = some k ∨ w.heap.size ≤ k) (hg : g < w.heap.size)
    (hown : w1.ownsRow 0 5 1 v2 (xs.length + 1) (bys xs ++ [.int .u8 b.toNat])) (hgr : (wr.alloc o).grownBy w1 v1.ownBlock)
    (hne : ∀ k, v2.ownBlock = some k → v1.ownBlock = some k ∨ (wr.alloc o).heap.size ≤ k) :
    IsW (w1.setCell ⟨g, 1, none⟩ v2) g v2 (xs ++ [b]) ∧ Chg (fun k => k = g ∨ v.ownBlock = some k) w (w1.setCell ⟨g, 1, none⟩ v2) ∧
      ∀ k, v2.ownBlock = some k → v.ownBlock = some k ∨ w.heap.size ≤ k := by
  have hb1 : Blk w1 g _ _ := (h.blk.alloc o).grown hgr (Ne.symm (own_blk_ne h.own h.blk (by decide)))
  refine ⟨⟨hb1.set_ 1 v2, ?_⟩, ?_, ?_⟩
  · have := own_far (p := ⟨g, 1, none⟩) hown (own_blk_ne hown hb1 (by decide)) v2
    simpa [bys_append, bys] using this
  · refine ((hc.alloc o).grown hgr fun k hk => ?_).setCell (.inl (.inl rfl)) _
    rcases hv k hk with h | h
    · exact .inl (.inr h)
    · exact .inr h
  · intro k hk
    rcases hne k hk with h | h
    · exact hv k h
    · right; have := hc.size; simp at h; omega


/-- a string appended, and the slice stored back -/
theorem wrote_text {w wr w1 : World} {g : Nat} {v v1 v2 : Value} {xs l : List UInt8} (h : IsW wr g v1 xs)
    (hc : Chg (fun k => k = g ∨ v.ownBlock = some k) w wr) (hv : ∀ k, v1.ownBlock = some k → v.ownBlock = some k ∨ w.heap.size ≤ k)
    (hown : w1.ownsRow 0 5 1 v2 (xs.length + l.length) (bys xs ++ bys l)) (hgr : wr.grownBy w1 v1.ownBlock)
    (hne : ∀ k, v2.ownBlock = some k → v1.ownBlock = some k ∨ wr.heap.size ≤ k) :
    IsW (w1.setCell ⟨g, 1, none⟩ v2) g v2 (xs ++ l) ∧ Chg (fun k => k = g ∨ v.ownBlock = some k) w (w1.setCell ⟨g, 1, none⟩ v2) ∧
      ∀ k, v2.ownBlock = some k → v.ownBlock = some k ∨ w.heap.size ≤ k := by
  have hb1 : Blk w1 g _ _ := h.blk.grown hgr (Ne.symm (own_blk_ne h.own h.blk (by decide)))
  refine ⟨⟨hb1.set_ 1 v2, ?_⟩, ?_, ?_⟩
  · have := own_far (p := ⟨g, 1, none⟩) hown (own_blk_ne hown hb1 (by decide)) v2
    simpa [bys_append] using this
  · refine (hc.grown hgr fun k hk => ?_).setCell (.inl (.inl rfl)) _
    rcases hv k hk with h | h
    · exact .inl (.inr h)
    · exact .inr h
  · intro k hk
    rcases hne k hk with h | h
    · exact hv k h
    · right; have := hc.size; omega

theorem drop_at {α : Type} (l : List α) {k : Nat} (hk : k < l.length) : ∃ x, l[k]? = some x ∧ l.drop k = x :: l.drop (k + 1) :=
  ⟨l[k], List.getElem?_eq_getElem hk, List.drop_eq_getElem_cons hk⟩
def strs (parts : List (List UInt8)) : List Value := parts.map S

set_option maxHeartbeats 400000 in
set_option maxRecDepth 100000 in
theorem raw_calls (g : Nat) (A : Option Addr) (n c : Nat) (parts : List (List UInt8)) (v : Value) (xs : List UInt8) (w : World) (h : IsW w g v xs)
    (hl : Lst w A n (strs parts)) (hf : 0 < n → ∀ ad, A = some ad → ad.block ≠ g ∧ v.ownBlock ≠ some ad.block) (hn : n ≤ 140737488355328) (hroom : xs.length + parts.flatten.length ≤ 140737488355328) :
    Calls Tryd.prog 64 #[.pointer (some ⟨g, 0, none⟩), .slice A n c] w fun e w' => e = .returned (.tuple #[]) ∧ Wrote w w' g v (xs ++ parts.flatten) := by
  obtain ⟨i0, hi, hz0, hz1, hz2⟩ := info_parts info_u8
  have c0 : w.cell? ⟨g, 0, none⟩ = some (.bool true) := by rw [h.blk.cell]; rfl
  have c1 : w.cell? ⟨g, 1, none⟩ = some v := by rw [h.blk.cell]; rfl
  go_enter Tryd.func64, Tryd.ntmps64
  go_wp2_with fail
  go_loopw [17] (fun iv wr => ∃ (k : Nat) (ys : List UInt8) (v1 : Value), k ≤ n ∧ iv = .int .i64 k ∧ IsW wr g v1 ys ∧ ys ++ (parts.drop k).flatten = xs ++ parts.flatten ∧
      Chg (fun k => k = g ∨ v.ownBlock = some k) w wr ∧ ∀ k, v1.ownBlock = some k → v.ownBlock = some k ∨ w.heap.size ≤ k) (fun iv _ => n - (intOf iv).toNat)
  case atStart => exact ⟨0, xs, v, by omega, rfl, h, rfl, Chg.refl _ _, fun _ h => .inl h⟩
  case round =>
    obtain ⟨k, ys, v1, hk, rfl, h1, hcat, hchg, hv1⟩ := hrel
    have d1 : wr.cell? ⟨g, 1, none⟩ = some v1 := by rw [h1.blk.cell]; rfl
    have hpl : parts.length = n := by simpa [strs] using hl.1
    by_cases hp : k < n
    · obtain ⟨b, off, u, rfl, hu, hcell⟩ := (hl.chg hchg (fun hn0 ad ha hs => by have := hf hn0 ad ha; rcases hs with hs | hs; exact this.1 hs; exact this.2 hs)).at_ hp
      obtain ⟨l, hlk, hd⟩ := drop_at parts (show k < parts.length by omega)
      obtain rfl : u = S l := by
        simp [strs, List.getElem?_map, hlk] at hu
        exact hu.symm
      rw [hd] at hcat
      have hlen : ys.length + l.length ≤ 140737488355328 := by
        have := congrArg List.length hcat; simp at this; simp at hroom; omega
      have Hcat := Lib.hid hcat
      clear hcat hlk hd hu hpl
      go_wp2_with (at_builtin; refine wpList_append_string_at _ rfl (.tmp 25) (.tmp 26) _ _ rfl 0 5 i0 Tryd.underlying54 Tryd.underlying9 hi hz0 hz1 hz2 v1 ys.length (bys ys) rfl h1.own ⟨l.toArray⟩ rfl (by show ys.length + l.length ≤ maxLen; unfold maxLen; omega) (by show ys.length + l.length ≤ _; omega) (by omega) ?_; intro v2 w1 hown2 hgr hat; obtain ⟨ao2, cp2, rfl⟩ := own_form hown2; have hb1 := h1.blk.grown hgr (Ne.symm (own_blk_ne h1.own h1.blk (by decide))); have e1 := hb1.cell 1; have f1 := hb1.frozen 1)
      go_roundw
      case rel =>
        have st := wrote_text (l := l) h1 hchg hv1 (by rw [← strCells_S]; exact hown2) hgr (own_at hat)
        refine ⟨k + 1, ys ++ l, _, by omega, by go_num, st.1, ?_, st.2.1, st.2.2⟩
        have := Hcat.out
        simpa using this
      case measure => simp [intOf]; omega
    · obtain rfl : k = n := by omega
      have Hcat := Lib.hid hcat
      have Hpl := Lib.hid hpl
      clear hcat hpl
      go_wp2_with fail
      go_end0
      refine ⟨rfl, v1, ?_, hchg, hv1⟩
      have := Hcat.out
      rw [List.drop_of_length_le (by rw [Hpl.out]; exact Nat.le_refl _)] at this
      simp only [List.flatten_nil, List.append_nil] at this
      rw [← this]
      exact h1
end Go.Proofs.YtlhdbkbgedlmnaaDoor
