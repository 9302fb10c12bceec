/-
  Layer 6: strings.Trim by one byte 0, and blank.
-/
import Derived.Test.YtlhdbkbgedlmnaaDoorRd
import Derived.Test.YtlhdbkbgedlmnaaDoorCrc
import Derived.Test.YtlhdbkbgedlmnaaDoorMt
import Derived.Deep.RegionWith
namespace Go.Proofs.YtlhdbkbgedlmnaaDoor
open Go.RowKit
set_option linter.unusedVariables false

/-- how long a text is -/
def lenOf (v : Value) : Nat := match v with
  | .string b => b.size
  | _ => 0
theorem lenOf_S (l : List UInt8) : lenOf (S l) = l.length := by simp [lenOf, ByteArray.size]
/-- 's[:k]' -/
theorem run_slice_to {P : Program} (t : TypeId) (ht : P.underlying t = some .string) (l : List UInt8) (k : Nat) (j : Int) (hj : j = k) (hk : k ≤ l.length) (w : World) :
    (Instr.slice t (S l) none (some (.int .i64 j)) none).run P w = .ok (S (l.take k)) w := by
  subst hj
  have := run_slice_string_h (P := P) w t ⟨l.toArray⟩ ht .i64 (k : Int) (by omega) (by show (k : Int) ≤ (l.length : Int); omega)
  rw [Int.toNat_natCast, extract_S] at this
  simpa using this
/-- 's[k:]' -/
theorem run_slice_from {P : Program} (t : TypeId) (ht : P.underlying t = some .string) (l : List UInt8) (k : Nat) (j : Int) (hj : j = k) (hk : k ≤ l.length) (w : World) :
    (Instr.slice t (S l) (some (.int .i64 j)) none none).run P w = .ok (S (l.drop k)) w := by
  subst hj
  have := run_slice_string_l (P := P) w t ⟨l.toArray⟩ ht .i64 (k : Int) (by omega) (by show (k : Int) ≤ (l.length : Int); omega)
  rw [Int.toNat_natCast, extract_S] at this
  rw [this]
  congr 2
  have e : (⟨l.toArray⟩ : ByteArray).size = l.length := by simp [ByteArray.size]
  rw [e, List.take_of_length_le (by simp)]
theorem bz0 {b : UInt8} (h : b = 0) : ((b.toNat : Int) == 0) = true := by rw [h]; rfl
theorem bz1 {b : UInt8} (h : b ≠ 0) : ((b.toNat : Int) == 0) = false := by
  rw [beq_eq_false_iff_ne]
  intro e
  exact h (UInt8.toNat_inj.1 (by simpa using e))
theorem zs_snoc (z : Nat) : Mt.zs (z + 1) = Mt.zs z ++ [0] := by unfold Mt.zs; rw [List.replicate_succ']
theorem zs_cons (z : Nat) : Mt.zs (z + 1) = 0 :: Mt.zs z := rfl
theorem zs_add (a b : Nat) : Mt.zs (a + b) = Mt.zs a ++ Mt.zs b := by unfold Mt.zs; rw [List.replicate_append_replicate]

/-- u is s without the bytes 0 at its end -/
def IsTr (s u : List UInt8) : Prop := (∃ z, s = u ++ Mt.zs z) ∧ (u = [] ∨ ∃ v b, u = v ++ [b] ∧ b ≠ 0)
/-- u is s without some bytes 0 at its beginning -/
def IsTl (s u : List UInt8) : Prop := ∃ z, s = Mt.zs z ++ u

set_option maxHeartbeats 1000000 in
set_option maxRecDepth 100000 in
theorem trimR_calls (s : List UInt8) (w : World) (hs : s.length ≤ 140737488355328) :
    Calls Tryd.prog 69 #[S s, .int .u8 0] w fun e w' => ∃ u, e = .returned (S u) ∧ IsTr s u ∧ w = w' := by
  go_enter Tryd.func69, Tryd.ntmps69
  go_wp2_with fail
  go_loop [0] (fun sv => ∃ (u : List UInt8) (z : Nat), sv = S u ∧ s = u ++ Mt.zs z) (fun sv => lenOf sv)
  case atStart => exact ⟨s, 0, rfl, by simp [Mt.zs]⟩
  case round =>
    obtain ⟨u, z, rfl, hz⟩ := hrel
    have hlen := congrArg List.length hz
    rw [List.length_append] at hlen
    rcases List.eq_nil_or_concat u with rfl | ⟨v, b, hu⟩
    · have Hz := Lib.hid hz
      clear hz
      go_wp2_with fail
      go_ret
      exact ⟨[], rfl, ⟨⟨z, Hz.out⟩, .inl rfl⟩, rfl⟩
    · rw [List.concat_eq_append] at hu
      obtain ⟨k, hk⟩ : ∃ k : Nat, k = v.length := ⟨_, rfl⟩
      have hul : u.length = k + 1 := by rw [hu, hk]; simp
      have hku : k < u.length := by omega
      obtain ⟨b', hb', hbi, -⟩ := byte_at u hku
      obtain rfl : b = b' := by
        rw [hu, hk] at hb'
        simpa using hb'
      have hsl := fun w => run_slice_to (P := Tryd.prog) 9 Tryd.underlying9 u k (k : Int) rfl (by omega) w
      rw [show u.take k = v by rw [hu, hk]; simp] at hsl
      have hw2 : IntKind.i64.wrap (((k + 1 : Nat) : Int) - 1) = (k : Int) := by rw [IntWalk.i64_in _ (by omega)]; omega
      have Hu := Lib.hid hu
      have Hz := Lib.hid hz
      have Hk := Lib.hid hk
      clear hu hz hk hb'
      by_cases hb : b = 0
      · have hb0 := bz0 hb
        have Hb := Lib.hid hb
        clear hb
        go_wp2_with fail
        go_round
        case rel => exact ⟨v, z + 1, rfl, by rw [Hz.out, Hu.out, Hb.out, List.append_assoc, Nat.add_comm z 1, zs_add]; rfl⟩
        case measure => rw [lenOf_S, lenOf_S]; have := Hk.out; omega
      · have hb0 := bz1 hb
        have Hb := Lib.hid hb
        clear hb
        go_wp2_with fail
        go_ret
        exact ⟨u, rfl, ⟨⟨z, Hz.out⟩, .inr ⟨v, b, Hu.out, Hb.out⟩⟩, rfl⟩

set_option maxHeartbeats 1000000 in
set_option maxRecDepth 100000 in
theorem trimL_calls (s : List UInt8) (w : World) (hs : s.length ≤ 140737488355328) :
    Calls Tryd.prog 68 #[S s, .int .u8 0] w fun e w' => ∃ u, e = .returned (S u) ∧ IsTl s u ∧ w = w' := by
  go_enter Tryd.func68, Tryd.ntmps68
  go_wp2_with fail
  go_loop [0] (fun sv => ∃ (u : List UInt8) (z : Nat), sv = S u ∧ s = Mt.zs z ++ u) (fun sv => lenOf sv)
  case atStart => exact ⟨s, 0, rfl, by simp [Mt.zs]⟩
  case round =>
    obtain ⟨u, z, rfl, hz⟩ := hrel
    have hlen := congrArg List.length hz
    rw [List.length_append] at hlen
    cases hu : u with
    | nil =>
      subst hu
      have Hz := Lib.hid hz
      clear hz
      go_wp2_with fail
      go_ret
      exact ⟨[], rfl, ⟨z, Hz.out⟩, rfl⟩
    | cons b v =>
      rw [← hu]
      have hul : u.length = v.length + 1 := by rw [hu]; rfl
      have hku : 0 < u.length := by omega
      obtain ⟨b', hb', hbi, -⟩ := byte_at u hku
      obtain rfl : b = b' := by
        rw [hu] at hb'
        simpa using hb'
      have hsl := fun w => run_slice_from (P := Tryd.prog) 9 Tryd.underlying9 u 1 1 rfl (by omega) w
      rw [show u.drop 1 = v by rw [hu]; rfl] at hsl
      have Hu := Lib.hid hu
      have Hz := Lib.hid hz
      clear hu hz hb'
      by_cases hb : b = 0
      · have hb0 := bz0 hb
        have Hb := Lib.hid hb
        clear hb
        go_wp2_with fail
        go_round
        case rel => exact ⟨v, z + 1, rfl, by rw [Hz.out, Hu.out, Hb.out, zs_snoc, List.append_assoc]; rfl⟩
        case measure => rw [lenOf_S, lenOf_S]; omega
      · have hb0 := bz1 hb
        have Hb := Lib.hid hb
        clear hb
        go_wp2_with fail
        go_ret
        exact ⟨u, rfl, ⟨z, Hz.out⟩, rfl⟩

theorem IsTr.len {s u : List UInt8} (h : IsTr s u) {n : Nat} (hs : s.length ≤ n) : u.length ≤ n := by
  obtain ⟨⟨z, hz⟩, -⟩ := h
  have := congrArg List.length hz
  rw [List.length_append] at this
  omega
/-- what is left is nothing just where there were bytes 0 alone -/
theorem trim_blank {s u v : List UInt8} (h1 : IsTr s v) (h2 : IsTl v u) : decide (u = []) = decide (s = Mt.zs s.length) := by
  have all0 : ∀ {z y : Nat} {x : List UInt8}, x = Mt.zs z ++ Mt.zs y → x = Mt.zs x.length := by
    intro z y x h
    rw [← zs_add] at h
    have : x.length = z + y := by rw [h]; simp [Mt.zs]
    rw [this]; exact h
  have no : ∀ {n : Nat} {a c : List UInt8} {b : UInt8}, Mt.zs n = a ++ (b :: c) → b = 0 := by
    intro n a c b h
    have : b ∈ Mt.zs n := by rw [h]; simp
    exact List.eq_of_mem_replicate this
  rw [decide_eq_decide]
  obtain ⟨⟨z, hz⟩, hv⟩ := h1
  obtain ⟨y, hy⟩ := h2
  constructor
  · rintro rfl
    rw [List.append_nil] at hy
    rw [hy] at hz
    exact all0 hz
  · intro hs
    rcases hv with rfl | ⟨a, b, rfl, hb⟩
    · have := congrArg List.length hy
      simp at this
      exact List.eq_nil_of_length_eq_zero (by omega)
    · rw [hs, List.append_assoc] at hz
      exact absurd (no hz) hb

set_option maxHeartbeats 1000000 in
set_option maxRecDepth 100000 in
theorem trim_calls (s : List UInt8) (w : World) (hs : s.length ≤ 140737488355328) :
    Calls Tryd.prog 50 #[S s, S [0]] w fun e w' => ∃ u, e = .returned (S u) ∧ decide (u = []) = decide (s = Mt.zs s.length) ∧ ∃ n, w' = w.drewN n := by
  by_cases h0 : s = []
  · subst h0
    go_enter Tryd.func50, Tryd.ntmps50
    go_wp2_with fail
    go_ret
    exact ⟨[], rfl, rfl, 0, rfl⟩
  · have h0' : (s == []) = false := by simpa using h0
    clear h0
    have hi0 : ∀ h, ((⟨#[0]⟩ : ByteArray)[0]'h).toNat = 0 := fun _ => rfl
    go_enter Tryd.func50, Tryd.ntmps50
    go_wp2_with fail
    go_region_with (first
      | (go_at_call 69; refine (trimR_calls _ _ (by assumption)).mono ?_; rintro e w' ⟨u, rfl, hu, rfl⟩; have hul := hu.len (by assumption))
      | (go_at_call 68; refine (trimL_calls _ _ (by assumption)).mono ?_; rintro e w' ⟨v, rfl, hv, rfl⟩))
    all_goals
      go_wp2_with fail
      go_ret
      exact ⟨v, rfl, trim_blank hu hv, 1, rfl⟩

theorem ret_bool' {a b : Bool} (h : a = b) : Ending.returned (.bool a) = .returned (.bool b) := by rw [h]
set_option maxHeartbeats 1000000 in
set_option maxRecDepth 100000 in
theorem blank_calls (s : List UInt8) (w : World) (hs : s.length ≤ 140737488355328) :
    Calls Tryd.prog 33 #[S s] w fun e w' => e = .returned (.bool (decide (s = Mt.zs s.length))) ∧ ∃ n, w' = w.drewN n := by
  go_enter Tryd.func33, Tryd.ntmps33
  go_wp2_with fail
  refine (trim_calls s _ hs).mono ?_
  rintro e w' ⟨u, rfl, hu, n, rfl⟩
  have Hu := Lib.hid hu
  clear hu
  go_wp2_with fail
  go_ret
  refine ⟨ret_bool' ?_, n, rfl⟩
  rw [← Hu.out]
  cases u <;> rfl
end Go.Proofs.YtlhdbkbgedlmnaaDoor
