/-
  What was read without a fault stands there as the very bytes that lay it: the plain law.
-/
import Derived.Test.YtkajbpdhglaieaaRdig
import Derived.Test.YtkajbpdhglaieaaJoin
import Derived.Test.YtkajbpdhglaieaaFixed
import Derived.Test.YtkajbpdhglaieaaSt
namespace Go.Proofs.Ytkajbpdhglaieaa
set_option linter.unusedVariables false

/-- from r to r' just the bytes b were read, where r' has no fault -/
structure Fits (r r' : Pk.Rd) (b : List UInt8) : Prop where
  s : r'.s = r.s
  pos : r.pos ≤ r'.pos
  le : r'.pos ≤ r.s.length
  ok : r'.f = 0 → r.s.take r'.pos = r.s.take r.pos ++ b
theorem Fits.trans {r r1 r2 : Pk.Rd} {b1 b2 : List UInt8} (h1 : Fits r r1 b1) (h2 : Fits r1 r2 b2) (hf : r2.f = 0 → r1.f = 0) : Fits r r2 (b1 ++ b2) :=
  ⟨h2.s.trans h1.s, Nat.le_trans h1.pos h2.pos, by rw [← h1.s]; exact h2.le, fun h => by
    have a := h2.ok h
    rw [h1.s, h1.ok (hf h)] at a
    rw [a, List.append_assoc]⟩
theorem Fits.cast {r r' : Pk.Rd} {b c : List UInt8} (h : Fits r r' b) (e : r'.f = 0 → b = c) : Fits r r' c := ⟨h.s, h.pos, h.le, fun hf => by rw [h.ok hf, e hf]⟩
theorem Fits.fault {r r' : Pk.Rd} {b : List UInt8} (hs : r'.s = r.s) (hp : r.pos ≤ r'.pos) (hle : r'.pos ≤ r.s.length) (hf : r'.f ≠ 0) : Fits r r' b := ⟨hs, hp, hle, fun h => absurd h hf⟩
theorem Fits.refl {r : Pk.Rd} (hle : r.pos ≤ r.s.length) : Fits r r [] := ⟨rfl, Nat.le_refl _, hle, fun _ => by simp⟩
theorem fits_step {r : Pk.Rd} {k : Nat} {f : Nat} (hk : r.pos + k ≤ r.s.length) : Fits r ⟨r.s, r.pos + k, f⟩ ((r.s.drop r.pos).take k) :=
  ⟨rfl, by simp, hk, fun _ => by rw [List.take_add]⟩
theorem get_good {l : List UInt8} {v k : Nat} (h : Pk.get l 0 0 = .good v k) : k ≤ l.length ∧ l.take k = Pk.free v := by
  obtain ⟨m, hv, _, hk, ht, _⟩ := Pk.get_sound l 0 0 v k (by omega) h
  simp at hv hk ht
  subst hv
  exact ⟨hk, ht⟩
theorem get_bad {l : List UInt8} : ∀ {i n c : Nat}, Pk.get l i n = .bad c → c ≠ 0 := by
  induction l with
  | nil => intro i n c h; simp [Pk.get] at h; omega
  | cons b r ih =>
    intro i n c h
    simp only [Pk.get] at h
    split at h
    · injection h with h; omega
    · split at h
      · cases h
      · exact ih h
theorem fits_free (r : Pk.Rd) (most : Nat) (hf : r.f = 0) (hle : r.pos ≤ r.s.length) : Fits r (r.free most).2 (Pk.free (r.free most).1) := by
  cases hg : Pk.get (r.s.drop r.pos) 0 0 with
  | bad c => rw [Pk.Rd.free_bad most hf hg]; exact Fits.fault rfl (Nat.le_refl _) hle (get_bad hg)
  | good v k =>
    obtain ⟨hk, ht⟩ := get_good hg
    rw [List.length_drop] at hk
    by_cases hm : most < v
    · rw [Pk.Rd.free_most hf hg hm]; exact Fits.fault rfl (Nat.le_refl _) hle (by simp)
    · rw [Pk.Rd.free_good hf hg (by omega)]
      rw [← ht]
      exact fits_step (by omega)
theorem fits_raw (r : Pk.Rd) (n : Int) (hf : r.f = 0) (hle : r.pos ≤ r.s.length) : Fits r (r.raw n).2 (r.raw n).1 := by
  unfold Pk.Rd.raw
  split
  · exact Fits.refl hle
  · rename_i h
    have hn : 0 < n := by by_cases h1 : n ≤ 0; exact absurd (.inr h1) h; omega
    split
    · exact Fits.fault rfl (Nat.le_refl _) hle (by simp)
    · rename_i hl
      unfold Pk.Rd.left at hl
      exact fits_step (by omega)
theorem num_acc (l : List UInt8) : ∀ x : Nat, l.foldl (fun x b => x * 256 + b.toNat) x = x * 256 ^ l.length + Pk.num l := by
  induction l with
  | nil => intro x; simp [Pk.num]
  | cons b l ih =>
    intro x
    simp only [Pk.num, List.foldl_cons, List.length_cons]
    rw [ih (x * 256 + b.toNat), ih (0 * 256 + b.toNat), Nat.pow_succ, Nat.add_mul, Nat.zero_mul, Nat.zero_add, Nat.mul_comm (256 ^ l.length) 256, ← Nat.mul_assoc, Nat.add_assoc]
theorem num_cons (b : UInt8) (l : List UInt8) : Pk.num (b :: l) = b.toNat * 256 ^ l.length + Pk.num l := by
  have := num_acc l (0 * 256 + b.toNat)
  simp only [Pk.num, List.foldl_cons]
  rw [this]; simp [Pk.num]
theorem be_num (l : List UInt8) : ∀ n : Nat, l.length = n → Pk.be n (Pk.num l) = l := by
  induction l with
  | nil => intro n h; simp at h; subst h; rfl
  | cons b l ih =>
    intro n h
    simp at h
    subst h
    have hlt := num_lt l l.length (Nat.le_refl _)
    have hb := b.toNat_lt
    have hp : 0 < 256 ^ l.length := Nat.pow_pos (by omega)
    have e1 : ((Pk.num (b :: l) : Nat) : Int) / 256 ^ l.length % 256 = (b.toNat : Int) := by
      have h1 : Pk.num (b :: l) / 256 ^ l.length = b.toNat := by
        rw [num_cons, Nat.mul_comm, Nat.mul_add_div hp, Nat.div_eq_of_lt hlt]; rfl
      have h2 : ((Pk.num (b :: l) : Nat) : Int) / 256 ^ l.length = ((Pk.num (b :: l) / 256 ^ l.length : Nat) : Int) := by simp
      rw [h2, h1]; omega
    have e2 : Pk.be l.length (Pk.num (b :: l)) = Pk.be l.length (Pk.num l) := Pk.be_cong (b.toNat : Int) (by
      rw [num_cons, Int.natCast_add, Int.natCast_mul, Int.natCast_pow, Int.add_comm]; rfl)
    simp only [Pk.be]
    rw [e1, e2, ih _ rfl]
    simp
theorem fits_take (r : Pk.Rd) (n : Nat) (hf : r.f = 0) (hle : r.pos ≤ r.s.length) : Fits r (r.take n).2 (Pk.be n (r.take n).1) := by
  unfold Pk.Rd.take
  rw [if_neg (by omega)]
  split
  · exact Fits.fault rfl (Nat.le_refl _) hle (by simp)
  · rename_i hl
    unfold Pk.Rd.left at hl
    dsimp only
    rw [be_num _ n (by simp; omega)]
    exact fits_step (by omega)
theorem zig_unzig (n : Nat) : Pk.zig (unzig n) = n := by
  unfold Pk.zig unzig
  split <;> split <;> omega
theorem raw_full {r : Pk.Rd} {n : Nat} (hf : r.f = 0) (hn : n ≤ r.left) : (r.raw n).1.length = n ∧ (r.raw n).2.f = 0 := by
  unfold Pk.Rd.raw
  unfold Pk.Rd.left at hn
  split
  · rename_i h
    have : n = 0 := by rcases h with h | h; exact absurd hf h; omega
    subst this
    exact ⟨rfl, hf⟩
  · rw [if_neg (by unfold Pk.Rd.left; omega)]
    exact ⟨by simp; omega, hf⟩
theorem fits_text (r : Pk.Rd) (most : Int) (hf : r.f = 0) (hle : r.pos ≤ r.s.length) : Fits r (r.text most).2 (Pk.text (r.text most).1) := by
  have h1 := fits_free r most.toNat hf hle
  by_cases hf2 : (r.free most.toNat).2.f = 0
  · by_cases hl : (r.free most.toNat).1 ≤ (r.free most.toNat).2.left
    · rw [text_good hf hf2 hl]
      obtain ⟨e1, e2⟩ := raw_full hf2 hl
      have h2 := fits_raw (r.free most.toNat).2 (r.free most.toNat).1 hf2 (by rw [h1.s]; exact h1.le)
      refine (h1.trans h2 (fun _ => hf2)).cast fun _ => ?_
      unfold Pk.text
      rw [e1]
    · rw [text_ends hf hf2 (by omega)]
      exact Fits.fault h1.s (Nat.le_refl _) hle (by simp)
  · rw [text_bad hf hf2]
    exact Fits.fault h1.s h1.pos h1.le hf2
theorem loop_fits {α : Type} (step : Pk.Rd → α × Pk.Rd) (enc : α → List UInt8) (hs : ∀ r : Pk.Rd, r.f = 0 → r.pos ≤ r.s.length → Fits r (step r).2 (enc (step r).1)) :
    ∀ (n : Nat) (acc : List α) (r : Pk.Rd), r.f = 0 → r.pos ≤ r.s.length → ∃ l2 : List α, Fits r (Pk.Rd.loop step n acc r).2 (l2.map enc).flatten ∧ ((Pk.Rd.loop step n acc r).2.f = 0 → (Pk.Rd.loop step n acc r).1 = acc ++ l2 ∧ l2.length = n) := by
  intro n
  induction n with
  | zero => intro acc r hf hle; exact ⟨[], Fits.refl hle, fun _ => by simp [Pk.Rd.loop]⟩
  | succ n ih =>
    intro acc r hf hle
    have h1 := hs r hf hle
    by_cases hf2 : (step r).2.f = 0
    · obtain ⟨l2, h2, h3⟩ := ih (acc ++ [(step r).1]) (step r).2 hf2 (by rw [h1.s]; exact h1.le)
      rw [Pk.Rd.loop_good hf2]
      refine ⟨(step r).1 :: l2, (h1.trans h2 (fun _ => hf2)).cast (fun _ => by simp), fun h => ?_⟩
      obtain ⟨e1, e2⟩ := h3 h
      exact ⟨by rw [e1]; simp, by simp [e2]⟩
    · rw [Pk.Rd.loop_bad hf2]
      exact ⟨[], Fits.fault h1.s h1.pos h1.le hf2, fun h => absurd h hf2⟩
theorem fits_list {α : Type} (step : Pk.Rd → α × Pk.Rd) (enc : α → List UInt8) (hs : ∀ r : Pk.Rd, r.f = 0 → r.pos ≤ r.s.length → Fits r (step r).2 (enc (step r).1)) (r : Pk.Rd) (most : Int) (hf : r.f = 0) (hle : r.pos ≤ r.s.length) :
    Fits r (r.list most step).2 (Pk.free (r.list most step).1.length ++ ((r.list most step).1.map enc).flatten) := by
  have h1 := fits_free r most.toNat hf hle
  unfold Pk.Rd.list
  by_cases hf2 : (r.free most.toNat).2.f = 0
  · by_cases hl : (r.free most.toNat).1 ≤ (r.free most.toNat).2.left
    · rw [heads_of hf hf2 hl]
      obtain ⟨l2, h2, h3⟩ := loop_fits step enc hs (r.free most.toNat).1 [] (r.free most.toNat).2 hf2 (by rw [h1.s]; exact h1.le)
      refine (h1.trans h2 (fun _ => hf2)).cast fun h => ?_
      obtain ⟨e1, e2⟩ := h3 h
      rw [e1]; simp [e2]
    · rw [heads_most hf hf2 (by omega)]
      exact Fits.fault h1.s (Nat.le_refl _) hle (by simp [Pk.Rd.loop])
  · rw [heads_bad hf hf2]
    exact Fits.fault h1.s h1.pos h1.le hf2
end Go.Proofs.Ytkajbpdhglaieaa
