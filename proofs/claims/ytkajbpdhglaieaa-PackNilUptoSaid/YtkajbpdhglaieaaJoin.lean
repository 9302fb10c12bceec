/-
  pack.Join, pack.Split; a small Fault's text.
-/
import Derived.Test.YtkajbpdhglaieaaEach
import Derived.Test.YtkajbpdhglaieaaList
import Derived.Test.YtkajbpdhglaieaaRend
namespace Go.Proofs.Ytkajbpdhglaieaa
open Go.RowKit
set_option linter.unusedVariables false

namespace Pk
def text (l : List UInt8) : List UInt8 := free l.length ++ l
def join (parts : List (List UInt8)) : List UInt8 := free parts.length ++ (parts.map text).flatten
/-- what Split reads -/
def split (s : List UInt8) : List (List UInt8) × Rd := Rd.list ⟨s, 0, 0⟩ 9223372036854775807 fun r => r.text 9223372036854775807
end Pk

theorem Chg.none_of {w w' : World} (h : Below w.heap.size w w') (S : Nat → Prop) : Chg S w w' := Chg.of_below h S

set_option maxHeartbeats 1000000 in
set_option maxRecDepth 100000 in
theorem join_calls (A : Option Addr) (n c : Nat) (parts : List (List UInt8)) (w : World) (hl : Lst w A n (strs parts)) (hn : n ≤ 140737488355328) (hroom : (Pk.join parts).length ≤ 140737488355328) :
    Calls Try.prog 14 #[.slice A n c] w fun e w' => e = .returned (S (Pk.join parts)) ∧ Chg (fun _ => False) w w' := by
  have hpl : parts.length = n := by simpa [strs] using hl.1
  go_enter Try.func14, Try.ntmps14
  go_wp2_with fail
  refine (new_calls w).mono ?_
  rintro e w1 ⟨rfl, h1, hb1, hz1⟩
  have hc1 := Chg.of_below hb1 (fun _ => False)
  have Hpl := Lib.hid hpl
  clear hpl
  have hroom' : 0 + (Pk.free n).length + (parts.map Pk.text).flatten.length ≤ 140737488355328 := by
    have := hroom; unfold Pk.join at this; rw [List.length_append, Hpl.out] at this; omega
  clear hroom
  go_wp2_with fail
  refine (each_string w.heap.size 13 A n c (strs parts) (parts.map Pk.text) _ [] w1 h1 (hl.chg hc1 (fun _ _ _ h => h)) (by simp [Hpl.out]) ?_ hn hroom' (fun _ _ => by kernel_rfl) ?_).mono ?_
  · intro hn0 ad ha
    have := hl.lt hn0 ad ha
    exact ⟨by omega, by simp [Value.ownBlock]⟩
  · intro i u l hu hl v xs w h hr
    simp only [strs, List.getElem?_map, Option.map_eq_some_iff] at hu hl
    obtain ⟨p, hp, rfl⟩ := hu
    obtain ⟨p', hp', rfl⟩ := hl
    rw [hp] at hp'
    injection hp' with hp'
    subst hp'
    refine (text_calls _ p v xs w h ?_)
    simp only [Pk.text, List.length_append] at hr
    omega
  rintro e w2 ⟨rfl, v2, h2, hc2, hv2⟩
  go_wp2_with (go_at_call 16; refine (string_calls _ _ _ _ h2).mono ?_; rintro e w' ⟨rfl, rfl⟩)
  go_ret
  refine ⟨?_, hc1.andThen hc2 ?_⟩
  · rw [Pk.join, Hpl.out]; rfl
  · rintro k hk (rfl | hs)
    · omega
    · simp [Value.ownBlock] at hs

theorem rraw_s (r : Pk.Rd) (n : Int) : (r.raw n).2.s = r.s := by
  unfold Pk.Rd.raw
  split
  · rfl
  · split <;> rfl
theorem rtext_s (r : Pk.Rd) (most : Int) : (r.text most).2.s = r.s := by
  unfold Pk.Rd.text
  have := rfree_s r most.toNat
  split
  · rfl
  · dsimp only
    split
    · exact this
    · split
      · exact this
      · rw [rraw_s]; exact this
theorem split_reads (g : Nat) : Reads1 (fun x : List UInt8 => S x) (fun r => r.text 9223372036854775807) (fun _ => False) (fun _ _ => True) g 89 #[] := by
  intro k r w h hf _
  show Calls _ _ #[.pointer (some ⟨g, 0, none⟩)] _ _
  go_enter Try.func89, Try.ntmps89
  go_wp2_with fail
  refine (rtext_calls g 9223372036854775807 r w h (by unfold I64; omega)).mono ?_
  rintro e w1 ⟨rfl, h1, hc1⟩
  go_wp2_with fail
  go_ret
  refine ⟨rfl, h1, ?_, hc1.mono fun _ _ h => .inl h, trivial⟩
  exact rtext_s r _

set_option maxHeartbeats 1000000 in
set_option maxRecDepth 100000 in
theorem split_ok (l : List UInt8) (w : World) (hl : l.length ≤ 4398046511104) (hf : (Pk.split l).2.f = 0) (hr : (Pk.split l).2.left = 0) :
    Calls Try.prog 45 #[S l] w fun e w' => ∃ v, e = .returned (.tuple #[v, .nilIface]) ∧
      w'.ownsRow w.heap.size 9 1 v (Pk.split l).1.length (strs (Pk.split l).1) ∧ Chg (fun _ => False) w w' := by
  have Hf := Lib.hid hf
  have Hr := Lib.hid hr
  clear hf hr
  go_enter Try.func45, Try.ntmps45
  go_wp2_with fail
  refine (open_calls l w (by omega)).mono ?_
  rintro e w1 ⟨rfl, h1, hb1, hz1⟩
  go_wp2_with fail
  refine (list_string (fun r => r.text 9223372036854775807) (fun _ => False) (fun _ _ => True) w.heap.size 89 #[] 9223372036854775807 ⟨l, 0, 0⟩ w1 h1 (by unfold I64; omega) hl trivial (fun _ h => h.elim) (fun _ _ _ _ _ _ => trivial) (fun _ _ => by kernel_rfl) (split_reads _)).mono ?_
  rintro e w2 ⟨v, rfl, hown, h2, hc2, -⟩
  have hc1 := Chg.of_below hb1 (fun _ => False)
  have hown' : w2.ownsRow w.heap.size 9 1 v (Pk.split l).1.length (strs (Pk.split l).1) := by
    refine ⟨hown.1, hown.2.imp id ?_⟩
    rintro ⟨g, cap, cur, hv, hg, r⟩
    exact ⟨g, cap, cur, hv, by omega, r⟩
  obtain ⟨ao, cp, rfl⟩ := own_form hown'
  have hown2 := Lib.hid hown'
  clear hown hown'
  go_wp2_with fail
  refine (end_none _ _ _ h2 Hf.out Hr.out).mono ?_
  rintro e w3 ⟨rfl, n3, rfl⟩
  go_wp2_with fail
  go_ret2
  refine ⟨_, rfl, hown2.out, (hc1.andThen hc2 ?_).drewN _⟩
  rintro k hk (rfl | hs)
  · omega
  · exact hs

set_option maxHeartbeats 1000000 in
set_option maxRecDepth 100000 in
theorem itoa_13 (w : World) : Calls Try.prog 120 #[.int .i64 13] w fun e w' => e = .returned (S [49, 51]) ∧ w' = w := by
  go_enter Try.func120, Try.ntmps120
  go_wp2
  go_ret
  exact ⟨rfl, rfl⟩
set_option maxHeartbeats 1000000 in
set_option maxRecDepth 100000 in
theorem itoa_8 (w : World) : Calls Try.prog 120 #[.int .i64 8] w fun e w' => e = .returned (S [56]) ∧ w' = w := by
  go_enter Try.func120, Try.ntmps120
  go_wp2
  go_ret
  exact ⟨rfl, rfl⟩
set_option maxHeartbeats 1000000 in
set_option maxRecDepth 100000 in
theorem error_13_8 (g : Nat) (w : World) (hb : Blk w g 111 #[.int .i64 13, .int .i64 8]) :
    Calls Try.prog 119 #[.pointer (some ⟨g, 0, none⟩)] w fun e w' => e = .returned (S [112, 97, 99, 107, 58, 32, 49, 51, 32, 97, 116, 32, 56]) ∧ ∃ n, w' = w.drewN n := by
  have c0 : w.cell? ⟨g, 0, none⟩ = some (.int .i64 13) := by rw [hb.cell]; rfl
  have c1 : w.cell? ⟨g, 1, none⟩ = some (.int .i64 8) := by rw [hb.cell]; rfl
  go_enter Try.func119, Try.ntmps119
  go_wp2_with fail
  go_quiet ((first | (go_at_call 120; exact Calls.quiet_of_same (itoa_13 _)) | (go_at_call 120; exact Calls.quiet_of_same (itoa_8 _))))
  go_wp2_with fail
  go_ret
  exact ⟨rfl, _, rfl⟩
end Go.Proofs.Ytkajbpdhglaieaa
