/-
  What was laid is read back: the plain law.
-/
import Derived.Test.YtkajbpdhglaieaaFits
namespace Go.Proofs.Ytkajbpdhglaieaa
set_option linter.unusedVariables false

/-- the Reader r, without a fault, stands in front of the bytes b, and t follows -/
structure At (r : Pk.Rd) (b t : List UInt8) : Prop where
  f : r.f = 0
  le : r.pos ≤ r.s.length
  eq : r.s.drop r.pos = b ++ t
theorem At.next {r : Pk.Rd} {b t : List UInt8} (h : At r b t) : At ⟨r.s, r.pos + b.length, 0⟩ [] t := by
  have hl := congrArg List.length h.eq
  rw [List.length_drop, List.length_append] at hl
  have := h.le
  refine ⟨rfl, by simp; omega, ?_⟩
  show r.s.drop (r.pos + b.length) = [] ++ t
  rw [← List.drop_drop, h.eq]; simp
theorem At.split {r : Pk.Rd} {a b t : List UInt8} (h : At r (a ++ b) t) : At r a (b ++ t) := ⟨h.f, h.le, by rw [h.eq, List.append_assoc]⟩
theorem At.then {s : List UInt8} {p : Nat} {a t : List UInt8} (h : At ⟨s, p, 0⟩ [] (a ++ t)) : At ⟨s, p, 0⟩ a t := ⟨h.f, h.le, by simpa using h.eq⟩
theorem At.room {r : Pk.Rd} {b t : List UInt8} (h : At r b t) : r.left = b.length + t.length := by
  have := congrArg List.length h.eq
  rw [List.length_drop, List.length_append] at this
  exact this
theorem At.free {r : Pk.Rd} {n most : Nat} {t : List UInt8} (h : At r (Pk.free n) t) (hn : n < 18446744073709551616) (hm : n ≤ most) : r.free most = (n, ⟨r.s, r.pos + (Pk.free n).length, 0⟩) := by
  have hg : Pk.get (r.s.drop r.pos) 0 0 = .good n (Pk.free n).length := by rw [h.eq]; exact Pk.get_free hn t
  rw [Pk.Rd.free_good h.f hg hm, h.f]
theorem At.raw {r : Pk.Rd} {b t : List UInt8} (h : At r b t) : r.raw b.length = (b, ⟨r.s, r.pos + b.length, 0⟩) := by
  have hr := h.room
  unfold Pk.Rd.raw
  by_cases hb : b.length = 0
  · have hn := List.length_eq_zero_iff.1 hb
    subst hn
    rw [if_pos (.inr (by simp))]
    have := h.f
    obtain ⟨s, p, f⟩ := r
    simp at this ⊢
    exact this
  · rw [if_neg (by rintro (e | e); exact e h.f; omega), if_neg (by omega)]
    simp [h.eq, h.f]
theorem At.text {r : Pk.Rd} {l t : List UInt8} {most : Int} (h : At r (Pk.text l) t) (hl : l.length < 18446744073709551616) (hm : (l.length : Int) ≤ most) : r.text most = (l, ⟨r.s, r.pos + (Pk.text l).length, 0⟩) := by
  unfold Pk.text at h
  have h1 := h.split
  have hf := h1.free (most := most.toNat) hl (by omega)
  have h2 := h1.next.then
  have hroom := h2.room
  rw [text_good h.f (by rw [hf]) (by rw [hf]; dsimp only; omega), hf]
  dsimp only
  rw [h2.raw]
  simp [Pk.text, Nat.add_assoc]
theorem num_be (n : Nat) : ∀ x : Nat, Pk.num (Pk.be n x) = x % 256 ^ n := by
  induction n with
  | zero => intro x; simp [Pk.be, Pk.num, Nat.mod_one]
  | succ n ih =>
    intro x
    simp only [Pk.be]
    have e : (((x : Int) / 256 ^ n) % 256).toNat = x / 256 ^ n % 256 := by
      have h2 : (x : Int) / 256 ^ n = ((x / 256 ^ n : Nat) : Int) := by simp
      rw [h2]; omega
    rw [e, num_cons, Pk.be_length, ih]
    have hb : (UInt8.ofNat (x / 256 ^ n % 256)).toNat = x / 256 ^ n % 256 := by simp
    rw [hb, Nat.pow_succ, Nat.mod_mul]
    rw [Nat.mul_comm, Nat.add_comm]
theorem At.take {r : Pk.Rd} {n : Nat} {x : Nat} {t : List UInt8} (h : At r (Pk.be n x) t) : r.take n = (x % 256 ^ n, ⟨r.s, r.pos + n, 0⟩) := by
  have hr := h.room
  rw [Pk.be_length] at hr
  unfold Pk.Rd.take
  rw [if_neg (by have := h.f; omega), if_neg (by omega), h.eq]
  have : (Pk.be n x ++ t).take n = Pk.be n x := by rw [List.take_append_of_le_length (by rw [Pk.be_length]; omega), List.take_of_length_le (by rw [Pk.be_length]; omega)]
  rw [this, num_be, h.f]
theorem At.list {α : Type} (step : Pk.Rd → α × Pk.Rd) (enc : α → List UInt8) (P : α → Prop) (hs : ∀ (x : α) (r : Pk.Rd) (t : List UInt8), P x → At r (enc x) t → step r = (x, ⟨r.s, r.pos + (enc x).length, 0⟩)) :
    ∀ (l : List α) (acc : List α) (r : Pk.Rd) (t : List UInt8), (∀ x ∈ l, P x) → At r ((l.map enc).flatten) t → Pk.Rd.loop step l.length acc r = (acc ++ l, ⟨r.s, r.pos + ((l.map enc).flatten).length, 0⟩) := by
  intro l
  induction l with
  | nil =>
    intro acc r t _ h
    have := h.f
    obtain ⟨s, p, f⟩ := r
    simp at this
    subst this
    simp [Pk.Rd.loop]
  | cons x l ih =>
    intro acc r t hP h
    simp only [List.map_cons, List.flatten_cons] at h ⊢
    have h1 := hs x r _ (hP x (by simp)) h.split
    have h2 := h.split.next.then
    rw [List.length_cons, Pk.Rd.loop_good (by rw [h1]), h1]
    dsimp only
    rw [ih _ _ _ (fun y hy => hP y (by simp [hy])) h2]
    simp [Nat.add_assoc]
theorem At.lists {α : Type} (step : Pk.Rd → α × Pk.Rd) (enc : α → List UInt8) (P : α → Prop) (hs : ∀ (x : α) (r : Pk.Rd) (t : List UInt8), P x → At r (enc x) t → step r = (x, ⟨r.s, r.pos + (enc x).length, 0⟩)) (hpos : ∀ x, 0 < (enc x).length)
    (l : List α) (r : Pk.Rd) (t : List UInt8) (most : Int) (hP : ∀ x ∈ l, P x) (hl : l.length < 18446744073709551616) (hm : (l.length : Int) ≤ most) (h : At r (Pk.free l.length ++ (l.map enc).flatten) t) :
    r.list most step = (l, ⟨r.s, r.pos + (Pk.free l.length ++ (l.map enc).flatten).length, 0⟩) := by
  have h1 := h.split
  have hf := h1.free (most := most.toNat) hl (by omega)
  have h2 := h1.next.then
  have hlen : l.length ≤ ((l.map enc).flatten).length := by
    clear h h1 h2 hf hP hl hm
    induction l with
    | nil => simp
    | cons x l ih => have := hpos x; simp only [List.length_cons, List.map_cons, List.flatten_cons, List.length_append]; omega
  have hroom := h2.room
  unfold Pk.Rd.list
  rw [heads_of h.f (by rw [hf]) (by rw [hf]; dsimp only; omega), hf]
  dsimp only
  rw [At.list step enc P hs l [] _ t hP h2]
  simp [Nat.add_assoc]
end Go.Proofs.Ytkajbpdhglaieaa
