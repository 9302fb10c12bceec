/-
  Layer 3: the program's word and words; what numbers, floats and texts are written as is handed in.
-/
import Derived.Test.YtdicelibjpmglaaGreatDoorTm
namespace Go.Proofs.YtdicelibjpmglaaGreatDoor
open Go.RowKit
set_option linter.unusedVariables false
set_option linter.unusedSimpArgs false
attribute [local go_sem] run_store_float
open Tp (It)

namespace Tp
/-- an item's word: what its number, float or text is written as, and its list's words, given -/
def wrd (k : Nat) (b : Bool) (atom inner : List UInt8) : List UInt8 :=
  if k = 1 then [110, 117, 108, 108] else if k = 2 then (if b then [116, 114, 117, 101] else [102, 97, 108, 115, 101]) else if k = 3 ∨ k = 4 ∨ k = 5 then atom else 91 :: (inner ++ [93])
section
variable (at_ : Nat → Int → Nat → List UInt8 → List UInt8)
/-- items' words, commas between; 'first': nothing stands ahead -/
def wc : Bool → List It → List UInt8
  | _, [] => []
  | first, .mk k b n f t ls :: l => (if first then [] else [44]) ++ (wrd k b (at_ k n f t) (wc true ls) ++ wc false l)
end
/-- all items, those of lists too -/
def All (P : Nat → Int → Nat → List UInt8 → Prop) : List It → Prop
  | [] => True
  | .mk k b n f t ls :: l => P k n f t ∧ All P ls ∧ All P l
theorem All.mem {P : Nat → Int → Nat → List UInt8 → Prop} {l : List It} {k : Nat} {b : Bool} {n : Int} {f : Nat} {t : List UInt8} {ls : List It} (h : All P l) (hm : It.mk k b n f t ls ∈ l) : P k n f t ∧ All P ls := by
  induction l with
  | nil => cases hm
  | cons x l ih =>
    obtain ⟨k', b', n', f', t', ls'⟩ := x
    simp only [All] at h
    rcases List.mem_cons.1 hm with e | e
    · injection e with e1 e2 e3 e4 e5 e6
      subst e1 e2 e3 e4 e5 e6
      exact ⟨h.1, h.2.1⟩
    · exact ih h.2.2 e
end Tp

/-- what one item's word does, in whatever world that keeps w0 below B -/
def Words (w0 : World) (B : Nat) (args : Value → Array Value) (f : FuncId) (add : List UInt8) : Prop :=
  ∀ (bv : Value) (xs : List UInt8) (w : World), Keep w0 B w → w.ownsRow B 5 1 bv xs.length (bys xs) → xs.length + add.length ≤ 1000000 → Calls Tryz.prog f (args bv) w fun e w' => ∃ v', e = .returned v' ∧ Grew B w w' bv v' (xs ++ add)

set_option maxHeartbeats 8000000 in
set_option maxRecDepth 100000 in
theorem bool_word (w0 : World) (B : Nat) (b : Bool) : Words w0 B (fun bv => #[bv, .bool b]) 92 (if b then [116, 114, 117, 101] else [102, 97, 108, 115, 101]) := by
  intro bv xs w hk hown hroom
  have hB := hk.2
  obtain ⟨i0, hi, hz0, hz1, hz2⟩ := info_parts info_b8
  have key : Calls Tryz.prog 117 #[bv, .bool b] w fun e w' => ∃ v', e = .returned v' ∧ Grew B w w' bv v' (xs ++ (if b then [116, 114, 117, 101] else [102, 97, 108, 115, 101])) := by
    cases b
    · have hx : xs.length + 5 ≤ 1000000 := hroom
      go_enter Tryz.func117, Tryz.ntmps117
      go_wp2_with (at_builtin; refine wpList_append_string_at _ rfl (.tmp 8) _ _ _ rfl B 5 i0 Tryz.underlying51 Tryz.underlying9 hi hz0 hz1 hz2 bv xs.length (bys xs) rfl hown ⟨#[102, 97, 108, 115, 101]⟩ rfl (by show xs.length + 5 ≤ maxLen; unfold maxLen; omega) (by show xs.length + 5 ≤ _; omega) (by (try simp); omega) ?_; intro v6 w6 hown6 hgr6 hat6)
      go_ret
      exact ⟨v6, rfl, Grew.step (zs := [102, 97, 108, 115, 101]) (Grew.refl hown) (Chg.refl _ _) hown6 rfl hgr6 (fun k hk => own_at hat6 k hk)⟩
    · have hx : xs.length + 4 ≤ 1000000 := hroom
      go_enter Tryz.func117, Tryz.ntmps117
      go_wp2_with (at_builtin; refine wpList_append_string_at _ rfl (.tmp 6) _ _ _ rfl B 5 i0 Tryz.underlying51 Tryz.underlying9 hi hz0 hz1 hz2 bv xs.length (bys xs) rfl hown ⟨#[116, 114, 117, 101]⟩ rfl (by show xs.length + 4 ≤ maxLen; unfold maxLen; omega) (by show xs.length + 4 ≤ _; omega) (by (try simp); omega) ?_; intro v6 w6 hown6 hgr6 hat6)
      go_ret
      exact ⟨v6, rfl, Grew.step (zs := [116, 114, 117, 101]) (Grew.refl hown) (Chg.refl _ _) hown6 rfl hgr6 (fun k hk => own_at hat6 k hk)⟩
  obtain ⟨add, hadd⟩ : ∃ add : List UInt8, (if b then [116, 114, 117, 101] else [102, 97, 108, 115, 101]) = add := ⟨_, rfl⟩
  rw [hadd] at key ⊢
  clear hadd hroom
  go_enter Tryz.func92, Tryz.ntmps92
  go_wp2_with fail
  refine key.mono ?_
  rintro e w2 ⟨v2, rfl, hg⟩
  go_wp2_with fail
  go_ret
  exact ⟨v2, rfl, hg⟩

set_option maxHeartbeats 8000000 in
set_option maxRecDepth 100000 in
theorem word_of (w0 : World) (B : Nat) (k : Nat) (b : Bool) (n : Int) (f : Nat) (t : List UInt8) (A : Option Addr) (m cap : Nat) (atom inner : List UInt8) (hk16 : 1 ≤ k ∧ k ≤ 6)
    (HI : k = 6 → Words w0 B (fun bv => #[bv, .slice A m cap]) 39 inner)
    (HA : k = 3 ∨ k = 4 ∨ k = 5 → Words w0 B (fun bv => #[bv, IV k b n f t (.slice A m cap)]) 66 atom) :
    Words w0 B (fun bv => #[bv, IV k b n f t (.slice A m cap)]) 66 (Tp.wrd k b atom inner) := by
  obtain ⟨i0, hi, hz0, hz1, hz2⟩ := info_parts info_b8
  intro bv xs w hk hown1 hroom
  have hB2 := hk.2
  have Hk := Lib.hid hk
  have HA := Lib.hid HA
  have HI0 := Lib.hid HI
  have Hlt1 := Lib.hid (fun k hk => (hown1.lt k hk).2)
  clear hk HI
  rcases (show k = 1 ∨ k = 2 ∨ (k = 3 ∨ k = 4 ∨ k = 5) ∨ k = 6 by omega) with rfl | rfl | h345 | rfl
  · have hx : xs.length + 4 ≤ 1000000 := hroom
    clear hroom
    go_enter Tryz.func66, Tryz.ntmps66
    go_wp2_with (at_builtin; refine wpList_append_string_at _ rfl (.tmp 9) _ _ _ rfl B 5 i0 Tryz.underlying51 Tryz.underlying9 hi hz0 hz1 hz2 bv xs.length (bys xs) rfl (hown1.alloc _) ⟨#[110, 117, 108, 108]⟩ rfl (by show xs.length + 4 ≤ maxLen; unfold maxLen; omega) (by show xs.length + 4 ≤ _; omega) (by (try simp); omega) ?_; intro v6 w6 hown6 hgr6 hat6)
    go_ret
    exact ⟨v6, rfl, Grew.step (zs := [110, 117, 108, 108]) (Grew.refl hown1) ((Chg.refl _ _).alloc _) hown6 rfl hgr6 (fun k hk => (own_at hat6 k hk).imp id (fun h => by (try simp at h); omega))⟩
  · have HW := Lib.hid (bool_word w0 B b)
    have hroom' : xs.length + (if b then [116, 114, 117, 101] else [102, 97, 108, 115, 101] : List UInt8).length ≤ 1000000 := hroom
    clear hroom
    go_enter Tryz.func66, Tryz.ntmps66
    go_wp2_with fail
    refine (HW.out bv xs _ ((Hk.out).chg ((Chg.refl (fun _ => False) _).alloc _) (fun k _ e => e)) (hown1.alloc _) hroom').mono ?_
    rintro e w2 ⟨v2, rfl, hg⟩
    go_wp2_with fail
    go_ret
    exact ⟨v2, rfl, ((Grew.refl hown1).quiet ((Chg.refl _ _).alloc _)).trans hg⟩
  · have e : Tp.wrd k b atom inner = atom := by unfold Tp.wrd; rw [if_neg (by omega), if_neg (by omega), if_pos h345]
    rw [e] at hroom ⊢
    exact (HA.out h345) bv xs w (Hk.out) hown1 hroom
  · have HI := Lib.hid ((HI0.out) rfl)
    have hys : xs.length + inner.length + 2 ≤ 1000000 := by
      have : (Tp.wrd 6 b atom inner) = 91 :: (inner ++ [93]) := by simp [Tp.wrd]
      rw [this] at hroom
      simp at hroom; omega
    have Nb := Lib.hid (Blk.new w 40 #[.int .u8 6, .bool b, .int .i64 n, .float .f64 f, S t, .slice A m cap])
    have hne : some w.heap.size ≠ bv.ownBlock := fun h => absurd (Hlt1.out _ h.symm) (Nat.lt_irrefl _)
    clear hroom HA
    go_enter Tryz.func66, Tryz.ntmps66
    go_wp2_with fail
    go_region_held3 (fun w' => w'.cell? ⟨w.heap.size, 5, none⟩ = some (.slice A m cap))
            (first | assumption | go_keep)
            (first
              | (go_at_call 39; refine (HI.out v3 (xs ++ [91]) _ ((hg3.out).keep (Hk.out) (Nat.le_refl _) hown1) (hg3.out).own (by simp; omega)).mono ?_; rintro e w4 ⟨v4, rfl, hg4⟩; have hz4 := hz3.chg hg4.chg hnz3; have hg5 := Lib.hid ((hg3.out).trans hg4); have hb4 := hb3.chg hg4.chg hne3; have cb4 : w4.cell? ⟨w.heap.size, 5, none⟩ = some (.slice A m cap) := (by rw [hb4.cell]; rfl); have hown4 := hg4.own; have hs4 := hg4.chg.size; have hnb4 : ¬ (v4.ownBlock = some w.heap.size) := (fun e => by rcases hg4.at_ _ e with h | h; exact hne3 h; (try simp at h); omega))
              | (go_at_call 39; refine (HI.out v3 (xs ++ [91]) _ ((hg3.out).keep (Hk.out) (Nat.le_refl _) hown1) (hg3.out).own (by simp; omega)).mono ?_; rintro e w4 ⟨v4, rfl, hg4⟩; have hg5 := Lib.hid ((hg3.out).trans hg4); have hb4 := hb3.chg hg4.chg hne3; have cb4 : w4.cell? ⟨w.heap.size, 5, none⟩ = some (.slice A m cap) := (by rw [hb4.cell]; rfl); have hown4 := hg4.own; have hs4 := hg4.chg.size; have hnb4 : ¬ (v4.ownBlock = some w.heap.size) := (fun e => by rcases hg4.at_ _ e with h | h; exact hne3 h; (try simp at h); omega))
              | (go_at_call 39; refine (HI.out v3 (xs ++ [91]) _ (((hg3.out).keep (Hk.out) (Nat.le_refl _) hown1).chg ((Chg.refl (fun _ => False) _).alloc _) (fun k _ e => e)) (((hg3.out).own).alloc _) (by simp; omega)).mono ?_; rintro e w4 ⟨v4, rfl, hg4⟩; have hz4 := (Blk.new w3 5 #[.int .u8 93]).chg hg4.chg (fun e => by have := (((hg3.out).own).lt _ e).2; omega); have hg5 := Lib.hid (((hg3.out).quiet ((Chg.refl _ _).alloc _)).trans hg4); have hb4 := (hb3.alloc _).chg hg4.chg hne3; have cb4 : w4.cell? ⟨w.heap.size, 5, none⟩ = some (.slice A m cap) := (by rw [hb4.cell]; rfl); have hown4 := hg4.own; have hs4 := hg4.chg.size; simp at hs4; have hnb4 : ¬ (v4.ownBlock = some w.heap.size) := (fun e => by rcases hg4.at_ _ e with h | h; exact hne3 h; (try simp at h); omega))
              | (refine step_append_any _ (by rfl) _ _ _ (by rfl) B 5 i0 _ 1 1 Tryz.underlying51 hi hz0 hz1 hz2 rfl (by omega) v4 (xs ++ [91] ++ inner).length (bys (xs ++ [91] ++ inner)) (by rfl) (hown4.alloc _) _ (some ⟨w4.heap.size, 0, none⟩) 1 1 [.int .u8 93] (by rfl) (Reads.one w4 _ _ _ rfl) (by simp [Value.oneCell']) (by simp; unfold maxLen; omega) (by simp; omega) (by (try simp); omega) ?_; intro v8 w8 hown8 hgr8 hat8; have hg8 := Lib.hid (((hg5.out).trans (Grew.step (zs := [93]) (Grew.refl hown4) ((Chg.refl _ _).alloc _) hown8 rfl hgr8 (fun k hk => (own_at hat8 k hk).imp id (fun h => by (try simp at h); omega))))); have hb8 := (hb4.alloc _).grown hgr8 (fun h => hnb4 h.symm); have cb8 : w8.cell? ⟨w.heap.size, 5, none⟩ = some (.slice A m cap) := (by rw [hb8.cell]; rfl))
              | (refine step_append_any _ (by rfl) _ _ _ (by rfl) B 5 i0 _ 1 1 Tryz.underlying51 hi hz0 hz1 hz2 rfl (by omega) bv xs.length (bys xs) (by rfl) ((hown1.alloc _).alloc _).drew (w.heap.size + 1 + 1) (some ⟨w.heap.size + 1, 0, none⟩) 1 1 [.int .u8 91] (by rfl) (Reads.one1 w _ _ _ _ rfl).drew (by simp [Value.oneCell']) (by unfold maxLen; omega) (by omega) (by simp; omega) ?_; intro v3 w3 hown3 hgr3 hat; have hg3 := Lib.hid (Grew.step (zs := [91]) (Grew.refl hown1) (((Chg.refl _ _).alloc _).alloc _).drew hown3 rfl hgr3 (fun k hk => (own_at hat k hk).imp id (fun h => by (try simp at h); omega))); have hlt3 : w.heap.size + 1 < w3.heap.size := (by have := hgr3.size; simp at this; omega); have hb3 := (((Nb.out).alloc _).drew).grown hgr3 hne; have hne3 : ¬ (v3.ownBlock = some w.heap.size) := (fun e => by rcases own_at hat _ e with h | h; exact hne h.symm; (simp at h; omega)); have cb3 : w3.cell? ⟨w.heap.size, 5, none⟩ = some (.slice A m cap) := (by rw [hb3.cell]; rfl))
              | (refine step_append_any _ (by rfl) _ _ _ (by rfl) B 5 i0 _ 1 1 Tryz.underlying51 hi hz0 hz1 hz2 rfl (by omega) bv xs.length (bys xs) (by rfl) (((hown1.alloc _).alloc _).alloc _).drew (w.heap.size + 1 + 1) (some ⟨w.heap.size + 1, 0, none⟩) 1 1 [.int .u8 91] (by rfl) ((Reads.one1 w _ _ _ _ rfl).alloc (by simp) _).drew (by simp [Value.oneCell']) (by unfold maxLen; omega) (by omega) (by simp; omega) ?_; intro v3 w3 hown3 hgr3 hat; have hg3 := Lib.hid (Grew.step (zs := [91]) (Grew.refl hown1) ((((Chg.refl _ _).alloc _).alloc _).alloc _).drew hown3 rfl hgr3 (fun k hk => (own_at hat k hk).imp id (fun h => by (try simp at h); omega))); have hlt3 : w.heap.size + 1 < w3.heap.size := (by have := hgr3.size; simp at this; omega); have hb3 := ((((Nb.out).alloc _).alloc _).drew).grown hgr3 hne; have hne3 : ¬ (v3.ownBlock = some w.heap.size) := (fun e => by rcases own_at hat _ e with h | h; exact hne h.symm; (simp at h; omega)); have cb3 : w3.cell? ⟨w.heap.size, 5, none⟩ = some (.slice A m cap) := (by rw [hb3.cell]; rfl); have hz3 := (Blk.new2 w _ _ 5 #[.int .u8 93]).drew.grown hgr3 (fun h => absurd (Hlt1.out _ h.symm) (by omega)); have hnz3 : ¬ (v3.ownBlock = some (w.heap.size + 1 + 1)) := (fun e => by rcases own_at hat _ e with h | h; exact absurd (Hlt1.out _ h) (by omega); (simp at h; omega)))
              | (refine step_append_any _ (by rfl) _ _ _ (by rfl) B 5 i0 _ 1 1 Tryz.underlying51 hi hz0 hz1 hz2 rfl (by omega) bv xs.length (bys xs) (by rfl) (((hown1.alloc _).alloc _).alloc _).drew (w.heap.size + 1 + 1 + 1) (some ⟨w.heap.size + 1 + 1, 0, none⟩) 1 1 [.int .u8 91] (by rfl) (Reads.one2 w _ _ _ _ _ rfl).drew (by simp [Value.oneCell']) (by unfold maxLen; omega) (by omega) (by simp; omega) ?_; intro v3 w3 hown3 hgr3 hat; have hg3 := Lib.hid (Grew.step (zs := [91]) (Grew.refl hown1) ((((Chg.refl _ _).alloc _).alloc _).alloc _).drew hown3 rfl hgr3 (fun k hk => (own_at hat k hk).imp id (fun h => by (try simp at h); omega))); have hlt3 : w.heap.size + 1 < w3.heap.size := (by have := hgr3.size; simp at this; omega); have hb3 := ((((Nb.out).alloc _).alloc _).drew).grown hgr3 hne; have hne3 : ¬ (v3.ownBlock = some w.heap.size) := (fun e => by rcases own_at hat _ e with h | h; exact hne h.symm; (simp at h; omega)); have cb3 : w3.cell? ⟨w.heap.size, 5, none⟩ = some (.slice A m cap) := (by rw [hb3.cell]; rfl); have hz3 := ((Blk.new' w _ 5 #[.int .u8 93]).alloc _).drew.grown hgr3 (fun h => absurd (Hlt1.out _ h.symm) (by omega)); have hnz3 : ¬ (v3.ownBlock = some (w.heap.size + 1)) := (fun e => by rcases own_at hat _ e with h | h; exact absurd (Hlt1.out _ h) (by omega); (simp at h; omega)))
              | (refine step_append_any _ (by rfl) _ _ _ (by rfl) B 5 i0 _ 1 1 Tryz.underlying51 hi hz0 hz1 hz2 rfl (by omega) v4 (xs ++ [91] ++ inner).length (bys (xs ++ [91] ++ inner)) (by rfl) hown4 _ (some ⟨_, 0, none⟩) 1 1 [.int .u8 93] (by rfl) (Reads.of_blk hz4) (by simp [Value.oneCell']) (by simp; unfold maxLen; omega) (by simp; omega) (by (try simp); omega) ?_; intro v8 w8 hown8 hgr8 hat8; have hg8 := Lib.hid (((hg5.out).trans (Grew.step (zs := [93]) (Grew.refl hown4) (Chg.refl _ _) hown8 rfl hgr8 (fun k hk => (own_at hat8 k hk).imp id (fun h => by (try simp at h); omega))))); have hb8 := hb4.grown hgr8 (fun h => hnb4 h.symm); have cb8 : w8.cell? ⟨w.heap.size, 5, none⟩ = some (.slice A m cap) := (by rw [hb8.cell]; rfl)))
    all_goals
      have Hf := hg8
      clear hg8 hb8 cb8 hown8 hgr8 hat8 hg4 hg5 hb4 cb4 hgr3 hat hb3 hne3 cb3 hown3
      go_wp2_with fail
      go_ret
      have h2 := Hf.out
      have e : xs ++ [91] ++ inner ++ [93] = xs ++ Tp.wrd 6 b atom inner := by simp [Tp.wrd]
      rw [e] at h2
      exact ⟨_, rfl, h2⟩

theorem wc_cons (at_ : Nat → Int → Nat → List UInt8 → List UInt8) (first : Bool) (k : Nat) (b : Bool) (n : Int) (f : Nat) (t : List UInt8) (ls l : List It) :
    Tp.wc at_ first (.mk k b n f t ls :: l) = (if first then [] else [44]) ++ (Tp.wrd k b (at_ k n f t) (Tp.wc at_ true ls) ++ Tp.wc at_ false l) := by rw [Tp.wc]

set_option maxHeartbeats 8000000 in
set_option maxRecDepth 100000 in
theorem words_calls (at_ : Nat → Int → Nat → List UInt8 → List UInt8) (P : Nat → Int → Nat → List UInt8 → Prop) {w0 : World} {B : Nat} {v : Value} {l : List It} (hrow : Row w0 B v l)
    (HA : ∀ (k : Nat) (b : Bool) (n : Int) (f : Nat) (t : List UInt8) (A : Option Addr) (m cap : Nat), P k n f t → InIt k n f t → k = 3 ∨ k = 4 ∨ k = 5 → Words w0 B (fun bv => #[bv, IV k b n f t (.slice A m cap)]) 66 (at_ k n f t)) :
    Tp.okB l = true → Tp.All P l → Words w0 B (fun bv => #[bv, v]) 39 (Tp.wc at_ true l) := by
  obtain ⟨i0, hi, hz0, hz1, hz2⟩ := info_parts info_b8
  induction hrow with
  | nil A0 cap0 hcap0 =>
    intro hok hall bv xs w hk hown hroom
    go_enter Tryz.func39, Tryz.ntmps39
    go_wp2_with fail
    go_loopw [0, 9] (fun av jv wr => av = bv ∧ jv = .int .i64 0 ∧ wr = w) (fun _ _ _ => 0)
    case atStart => exact ⟨rfl, rfl, rfl⟩
    case round =>
      obtain ⟨rfl, rfl, rfl⟩ := hrel
      go_wp2_with fail
      go_ret
      exact ⟨_, rfl, by rw [Tp.wc, List.append_nil]; exact Grew.refl hown⟩
  | mk gr off cap l vs hgr hl hcap hc1 hin hcells hr ih =>
    intro hok hall bv xs w hk hown hroom
    have Hok := Lib.hid hok
    have Hall := Lib.hid hall
    have Hown0 := Lib.hid hown
    have hB := hk.2
    have HA0 := Lib.hid HA
    clear hok hown hall HA
    go_enter Tryz.func39, Tryz.ntmps39
    go_wp2_with fail
    go_loopw [0, 9] (fun av jv wr => ∃ (j : Nat) (ys : List UInt8), j ≤ l.length ∧ jv = .int .i64 j ∧ ys ++ Tp.wc at_ (decide (j = 0)) (l.drop j) = xs ++ Tp.wc at_ true l ∧ Grew B w wr bv av ys) (fun _ jv _ => l.length - (intOf jv).toNat)
    case atStart => exact ⟨0, xs, by omega, rfl, by simp, Grew.refl Hown0.out⟩
    case round =>
      obtain ⟨j, ys, hj, rfl, hcat, hg⟩ := hrel
      rcases Nat.lt_or_ge j l.length with hlt | hge
      · obtain ⟨⟨xk, xb, xn, xf, xt, xl⟩, hx⟩ : ∃ x, l[j]? = some x := ⟨_, List.getElem?_eq_getElem hlt⟩
        obtain ⟨xv, hxv⟩ : ∃ v, vs[j]? = some v := ⟨_, List.getElem?_eq_getElem (by omega)⟩
        have hin1 := hin xk xb xn xf xt xl (List.mem_of_getElem? hx)
        obtain ⟨hm, hokx⟩ := Tp.okB_mem (Hok.out) (List.mem_of_getElem? hx)
        obtain ⟨hPx, hallx⟩ := (Hall.out).mem (List.mem_of_getElem? hx)
        have hxk := Tp.mayB_kind hm
        have hk' := hg.keep hk (Nat.le_refl _) Hown0.out
        have hcell : ∀ q u, (icells xk xb xn xf xt xv)[q]? = some u → wr.cell? ⟨gr, off + j * 6 + q, none⟩ = some u := fun q u hq => by
          rw [hk'.1 _ hgr]; exact hcells j xk xb xn xf xt xl xv hx hxv q u hq
        have c0 := hcell 0 _ rfl
        have c1 := hcell 1 _ rfl
        have c2 := hcell 2 _ rfl
        have c3 := hcell 3 _ rfl
        have c4 := hcell 4 _ rfl
        have c5 := hcell 5 _ rfl
        obtain ⟨A, xcap, rfl, hxc1, hxc2⟩ := (hr j xk xb xn xf xt xl xv hx hxv).slice
        rw [Nat.add_zero] at c0
        rw [drop_get hx, wc_cons] at hcat
        have HW := Lib.hid (word_of w0 B xk xb xn xf xt A xl.length xcap (at_ xk xn xf xt) (Tp.wc at_ true xl) hxk (fun h6 => ih j xk xb xn xf xt xl _ hx hxv hokx hallx) (fun h => HA0.out xk xb xn xf xt A xl.length xcap hPx hin1 h))
        obtain ⟨wd, hwd⟩ : ∃ wd, Tp.wrd xk xb (at_ xk xn xf xt) (Tp.wc at_ true xl) = wd := ⟨_, rfl⟩
        rw [hwd] at hcat HW
        have hlen := congrArg List.length hcat
        simp only [List.length_append] at hlen
        have hown1 := hg.own
        have hsz := hg.chg.size
        have hB2 : B ≤ wr.heap.size := by omega
        have hlt1 := fun k hk => (hown1.lt k hk).2
        have Hcat := Lib.hid hcat
        have Hg := Lib.hid hg
        have Hk' := Lib.hid hk'
        have Hlt1 := Lib.hid hlt1
        clear hin1 hk' hk hin hcells hr ih hx hxv hg hl hcell hcat hm hokx hlt1 hwd hPx hallx
        by_cases hj0 : j = 0
        · have hjn : decide (0 < (j : Int)) = false := by rw [decide_eq_false_iff_not]; omega
          have hjm : decide (0 < j) = false := by rw [decide_eq_false_iff_not]; omega
          have hjo : ¬ 0 < j := by omega
          have hdj : decide (j = 0) = true := by simpa using hj0
          rw [hdj] at hlen
          have hys : ys.length + wd.length ≤ 1000000 := by simp at hlen; omega
          have Hdj := Lib.hid hdj
          have Hj0 := Lib.hid hj0
          clear hlen hroom hdj hj0
          go_wp2_with fail
          refine (HW.out _ ys _ ((Hk'.out).chg ((Chg.refl (fun _ => False) _).alloc _) (fun k _ e => e)) (hown1.alloc _) hys).mono ?_
          rintro e w2 ⟨v2, rfl, hg2⟩
          have Hf := Lib.hid (((Hg.out).quiet ((Chg.refl _ _).alloc _)).trans hg2)
          clear hg2
          go_wp2_with fail
          go_round
          case rel =>
            have h1 := Hcat.out
            rw [Hdj.out] at h1
            have hn : decide (j + 1 = 0) = false := by simp
            exact ⟨j + 1, _, by omega, by go_num, by rw [hn]; simpa using h1, Hf.out⟩
          case measure => simp [intOf]; omega
        · have hjn : decide (0 < (j : Int)) = true := by rw [decide_eq_true_iff]; omega
          have hjm : decide (0 < j) = true := by rw [decide_eq_true_iff]; omega
          have hdj : decide (j = 0) = false := by simpa using hj0
          rw [hdj] at hlen
          have hys : ys.length + 1 + wd.length ≤ 1000000 := by simp at hlen; omega
          have Hdj := Lib.hid hdj
          have Nb := Lib.hid (Blk.new wr 40 #[.int .u8 xk, .bool xb, .int .i64 xn, .float .f64 xf, S xt, .slice A xl.length xcap])
          have hne : some wr.heap.size ≠ u0.ownBlock := fun h => absurd (Hlt1.out _ h.symm) (Nat.lt_irrefl _)
          clear hlen hroom hdj
          go_wp2_with (at_builtin; refine wpList_append_any _ rfl (.tmp 16) (.tmp 17) _ rfl B 5 i0 _ 1 1 Tryz.underlying51 hi hz0 hz1 hz2 rfl (by omega) _ ys.length (bys ys) rfl ((hown1.alloc _).alloc _) (wr.heap.size + 1 + 1) (some ⟨wr.heap.size + 1, 0, none⟩) 1 1 [_] rfl (Reads.one1 _ _ _ _ _ rfl) (by simp [Value.oneCell']) (by unfold maxLen; omega) (by omega) (by simp; omega) ?_; intro v3 w3 hown3 hgr3 hat; have hb3 := ((Nb.out).alloc _).grown hgr3 hne; have d0 : w3.cell? ⟨wr.heap.size, 0, none⟩ = some (.int .u8 xk) := (by rw [hb3.cell]; rfl); have d1 : w3.cell? ⟨wr.heap.size, 1, none⟩ = some (.bool xb) := (by rw [hb3.cell]; rfl); have d2 : w3.cell? ⟨wr.heap.size, 2, none⟩ = some (.int .i64 xn) := (by rw [hb3.cell]; rfl); have d3 : w3.cell? ⟨wr.heap.size, 3, none⟩ = some (.float .f64 xf) := (by rw [hb3.cell]; rfl); have d4 : w3.cell? ⟨wr.heap.size, 4, none⟩ = some (S xt) := (by rw [hb3.cell]; rfl); have d5 : w3.cell? ⟨wr.heap.size, 5, none⟩ = some (.slice A xl.length xcap) := (by rw [hb3.cell]; rfl))
          have hg3 := Grew.step (zs := [44]) (Grew.refl hown1) (((Chg.refl _ _).alloc _).alloc _) hown3 rfl hgr3 (fun k hk => (own_at hat k hk).imp id (fun h => by simp at h; omega))
          refine (HW.out v3 (ys ++ [44]) _ (hg3.keep (Hk'.out) (Nat.le_refl _) hown1) hg3.own (by simp; omega)).mono ?_
          rintro e w2 ⟨v2, rfl, hg2⟩
          have Hf := Lib.hid ((Hg.out).trans (hg3.trans hg2))
          clear hg2 hg3 hown3 hgr3 hat hb3 d0 d1 d2 d3 d4 d5
          go_wp2_with fail
          go_round
          case rel =>
            have h1 := Hcat.out
            rw [Hdj.out] at h1
            exact ⟨j + 1, _, by omega, by go_num, by simpa using h1, Hf.out⟩
          case measure => simp [intOf]; omega
      · have hjl : j = l.length := by omega
        have Hg := Lib.hid hg
        have Hcat := Lib.hid hcat
        have hnl : ¬ ((j : Int) < (l.length : Int)) := by omega
        have hnl2 : decide ((j : Int) < (l.length : Int)) = false := by rw [decide_eq_false_iff_not]; omega
        have Hjl := Lib.hid hjl
        clear hk hin hcells hr ih hg hl hcat
        go_wp2_with fail
        go_ret
        have hcat := Hcat.out
        rw [Hjl.out, List.drop_length, Tp.wc, List.append_nil] at hcat
        rw [← hcat]
        exact ⟨_, rfl, Hg.out⟩
end Go.Proofs.YtdicelibjpmglaaGreatDoor
