/-
  Layer 27 in plain Lean: what reading a message's fields leaves: the bytes, the numbers' bounds.
-/
import Derived.Test.YthkfcfkkamffpaaGreatZb
namespace Go.Proofs.YthkfcfkkamffpaaGreat
set_option linter.unusedVariables false
set_option linter.unusedSimpArgs false
open Wm (M)
theorem ztake_s (r : Pk.Rd) (n : Nat) : (r.take n).2.s = r.s := by
  unfold Pk.Rd.take
  split
  · rfl
  · split <;> rfl
theorem zheads_s (r : Pk.Rd) (most : Int) : (r.heads most).2.s = r.s := by
  have := rfree_s r most.toNat
  unfold Pk.Rd.heads
  split
  · rfl
  split
  · exact this
  split
  · exact this
  · exact this
theorem zloop_s {α : Type} (step : Pk.Rd → α × Pk.Rd) (hs : ∀ r, (step r).2.s = r.s) : ∀ (n : Nat) (acc : List α) (r : Pk.Rd), (Pk.Rd.loop step n acc r).2.s = r.s
  | 0, _, _ => rfl
  | n + 1, acc, r => by
    unfold Pk.Rd.loop
    split
    · exact hs r
    · rw [zloop_s step hs n, hs]
theorem zlist_s {α : Type} (step : Pk.Rd → α × Pk.Rd) (hs : ∀ r, (step r).2.s = r.s) (r : Pk.Rd) (most : Int) : (r.list most step).2.s = r.s := by
  unfold Pk.Rd.list
  rw [zloop_s step hs, zheads_s]
theorem zfree_le (r : Pk.Rd) (most : Nat) : (r.free most).1 ≤ most := by
  unfold Pk.Rd.free
  split
  · exact Nat.zero_le _
  split
  · exact Nat.zero_le _
  · split
    · exact Nat.zero_le _
    · dsimp only; omega
theorem ztext_le (r : Pk.Rd) (most : Int) : (r.text most).1.length ≤ most.toNat := by
  unfold Pk.Rd.text
  split
  · exact Nat.zero_le _
  dsimp only
  split
  · exact Nat.zero_le _
  split
  · exact Nat.zero_le _
  · exact Nat.le_trans (rraw_len _ _) (zfree_le r _)
theorem zheads_le (r : Pk.Rd) (most : Int) : (r.heads most).1 ≤ most.toNat := by
  unfold Pk.Rd.heads
  split
  · exact Nat.zero_le _
  split
  · exact Nat.zero_le _
  split
  · exact Nat.zero_le _
  · exact zfree_le r _
theorem zloop_le {α : Type} (step : Pk.Rd → α × Pk.Rd) : ∀ (n : Nat) (acc : List α) (r : Pk.Rd), (Pk.Rd.loop step n acc r).1.length ≤ acc.length + n
  | 0, _, _ => Nat.le_refl _
  | n + 1, acc, r => by
    unfold Pk.Rd.loop
    split
    · exact Nat.zero_le _
    · have := zloop_le step n (acc ++ [(step r).1]) (step r).2
      simp only [List.length_append, List.length_singleton] at this
      omega
theorem zlist_le {α : Type} (step : Pk.Rd → α × Pk.Rd) (r : Pk.Rd) (most : Int) : (r.list most step).1.length ≤ most.toNat := by
  unfold Pk.Rd.list
  have := zloop_le step (r.heads most).1 [] (r.heads most).2
  have := zheads_le r most
  simp only [List.length_nil] at *
  omega
theorem zloop_all {α : Type} (P : α → Prop) (step : Pk.Rd → α × Pk.Rd) (hs : ∀ r, P (step r).1) : ∀ (n : Nat) (acc : List α) (r : Pk.Rd), (∀ x ∈ acc, P x) → ∀ x ∈ (Pk.Rd.loop step n acc r).1, P x
  | 0, _, _, h => h
  | n + 1, acc, r, h => by
    unfold Pk.Rd.loop
    split
    · intro x hx; simp at hx
    · refine zloop_all P step hs n _ _ fun x hx => ?_
      rcases List.mem_append.1 hx with hx | hx
      · exact h x hx
      · rw [List.mem_singleton.1 hx]; exact hs r
theorem zlist_all {α : Type} (P : α → Prop) (step : Pk.Rd → α × Pk.Rd) (hs : ∀ r, P (step r).1) (r : Pk.Rd) (most : Int) : ∀ x ∈ (r.list most step).1, P x := zloop_all P step hs _ _ _ (fun x hx => by simp at hx)
theorem digS_s (r : Pk.Rd) : (digS r).2.s = r.s := rraw_s r 32
theorem pairS_s (r : Pk.Rd) : (pairS r).2.s = r.s := by unfold pairS; dsimp only; rw [rtext_s, rtext_s]
theorem stepS_s (r : Pk.Rd) : (stepS r).2.s = r.s := rfree_s r _
theorem takeM_s (m : M) (r : Pk.Rd) (c : Wm.Fd) : (takeM m r c).2.s = r.s := by
  cases c <;> simp only [takeM]
  case K => exact rtext_s _ _
  case T => exact rtext_s _ _
  case V => exact rtext_s _ _
  case L => exact rfree_s _ _
  case F => exact rfree_s _ _
  case S => exact rfree_s _ _
  case f => exact ztake_s _ _
  case m => exact ztake_s _ _
  case C => exact rfree_s _ _
  case H => rw [rraw_s, rfree_s]
  case E => rw [rtext_s, rraw_s, rfree_s, rfree_s]
  case t => exact zlist_s _ digS_s _ _
  case s => exact zlist_s _ digS_s _ _
  case P => exact zlist_s _ pairS_s _ _
  case W => exact zlist_s _ stepS_s _ _
  case B => exact rtext_s _ _
theorem takeM_nm {m : M} (h : Nm m) (r : Pk.Rd) (c : Wm.Fd) : Nm (takeM m r c).1 := by
  obtain ⟨⟨a1, a2⟩, a3, a4, a5, a6, a7, a8, a9, a10, a11, a12, a13, a14, a15, a16, a17, a18, a19⟩ := h
  cases c <;> simp only [takeM]
  case L =>
    have := zfree_le r 256
    exact ⟨⟨a1, a2⟩, a3, a4, a5, ⟨by dsimp only; omega, by dsimp only; omega⟩, a7, a8, a9, a10, a11, a12, a13, a14, a15, a16, a17, a18, a19⟩
  case F => exact ⟨⟨a1, a2⟩, a3, a4, a5, a6, rfree_lt _ _, a8, a9, a10, a11, a12, a13, a14, a15, a16, a17, a18, a19⟩
  case S => exact ⟨⟨a1, a2⟩, a3, a4, a5, a6, a7, rfree_lt _ _, a9, a10, a11, a12, a13, a14, a15, a16, a17, a18, a19⟩
  case C =>
    have := zfree_le r 65535
    exact ⟨⟨a1, a2⟩, a3, a4, ⟨by dsimp only; omega, by dsimp only; omega⟩, a6, a7, a8, a9, a10, a11, a12, a13, a14, a15, a16, a17, a18, a19⟩
  case H => exact ⟨⟨dig_length _, a2⟩, a3, a4, a5, a6, a7, a8, rfree_lt _ _, a10, a11, a12, a13, a14, a15, a16, a17, a18, a19⟩
  case E => exact ⟨⟨a1, dig_length _⟩, a3, a4, a5, a6, a7, a8, a9, rfree_lt _ _, rfree_lt _ _, a12, a13, a14, a15, a16, a17, a18, Nat.le_trans (ztext_le _ _) (by decide)⟩
  case t => exact ⟨⟨a1, a2⟩, a3, a4, a5, a6, a7, a8, a9, a10, a11, zlist_all _ _ (fun r => dig_length _) _ _, a13, a14, Nat.le_trans (zlist_le _ _ _) (by decide), a16, a17, a18, a19⟩
  case s => exact ⟨⟨a1, a2⟩, a3, a4, a5, a6, a7, a8, a9, a10, a11, a12, zlist_all _ _ (fun r => dig_length _) _ _, a14, a15, Nat.le_trans (zlist_le _ _ _) (by decide), a17, a18, a19⟩
  case P => exact ⟨⟨a1, a2⟩, a3, a4, a5, a6, a7, a8, a9, a10, a11, a12, a13, a14, a15, a16, Nat.le_trans (zlist_le _ _ _) (by decide), a18, a19⟩
  case W =>
    exact ⟨⟨a1, a2⟩, a3, a4, a5, a6, a7, a8, a9, a10, a11, a12, a13, zlist_all _ _ (fun r => by
      have := zfree_le r 65535
      unfold stepS
      exact ⟨by dsimp only; omega, by dsimp only; omega⟩) _ _, a15, a16, a17, Nat.le_trans (zlist_le _ _ _) (by decide), a19⟩
  all_goals exact ⟨⟨a1, a2⟩, a3, a4, a5, a6, a7, a8, a9, a10, a11, a12, a13, a14, a15, a16, a17, a18, a19⟩
theorem takes_s : ∀ (l : List Wm.Fd) (m : M) (r : Pk.Rd), (takes l m r).2.s = r.s
  | [], _, _ => rfl
  | c :: l, m, r => (takes_s l _ _).trans (takeM_s m r c)
theorem takes_nm : ∀ (l : List Wm.Fd) {m : M} (r : Pk.Rd), Nm m → Nm (takes l m r).1
  | [], _, _, h => h
  | c :: l, m, r, h => takes_nm l _ (takeM_nm h r c)
theorem takes_snoc {α : Type} {Q : List (Wm.Fd × α)} {k : Nat} {x : Wm.Fd × α} (h : Q[k]? = some x) (m : M) (r : Pk.Rd) :
    takes ((Q.take (k + 1)).map Prod.fst) m r = takeM (takes ((Q.take k).map Prod.fst) m r).1 (takes ((Q.take k).map Prod.fst) m r).2 x.1 := by
  unfold takes
  rw [List.take_add_one, h]
  simp [List.foldl_append]
theorem num1 {r : Pk.Rd} : (r.take 1).1 < 256 := by
  unfold Pk.Rd.take
  split
  · dsimp only; omega
  split
  · dsimp only; omega
  · have := num_lt ((r.s.drop r.pos).take 1) 1 (by simp; omega)
    simpa using this
theorem numId {r : Pk.Rd} : (r.take 4).1 < 4294967296 := by
  unfold Pk.Rd.take
  split
  · dsimp only; omega
  split
  · dsimp only; omega
  · have := num_lt ((r.s.drop r.pos).take 4) 4 (by simp; omega)
    simpa using this
theorem dec_len {s : List UInt8} (h4 : 4 ≤ s.length) (hf : (foll s).2 = 0) (hl : ¬ s.length - 4 < (foll s).1) (hn : s.length ≠ (foll s).1 + 4) : decW s = (zeroM, 271) := by
  unfold decW; rw [if_neg (by omega), if_neg (by omega), if_neg hl, if_pos hn]
theorem dec_body {s : List UInt8} (h4 : 4 ≤ s.length) (hf : (foll s).2 = 0) (hn : s.length = (foll s).1 + 4) : decW s = bodyW s := by
  unfold decW; rw [if_neg (by omega), if_neg (by omega), if_neg (by omega), if_neg (by omega)]
theorem body_crc {s : List UInt8} (h : ¬ Crc.crc (s.take (s.length - 4)) = Pk.num (s.drop (s.length - 4))) : bodyW s = (zeroM, 271) := by unfold bodyW; rw [if_neg h]
theorem body_kind {s : List UInt8} (h : Crc.crc (s.take (s.length - 4)) = Pk.num (s.drop (s.length - 4))) (hk : Wm.fields (kindB s) = none) : bodyW s = (zeroM, 271) := by unfold bodyW; rw [if_pos h, hk]
theorem body_end {s : List UInt8} {l : List Wm.Fd} (h : Crc.crc (s.take (s.length - 4)) = Pk.num (s.drop (s.length - 4))) (hk : Wm.fields (kindB s) = some l) (he : ¬ ((partsB l s).2.f = 0 ∧ (partsB l s).2.left = 0)) : bodyW s = (zeroM, 271) := by
  unfold bodyW; rw [if_pos h, hk]; dsimp only; rw [if_neg he]
theorem body_enc {s : List UInt8} {l : List Wm.Fd} (h : Crc.crc (s.take (s.length - 4)) = Pk.num (s.drop (s.length - 4))) (hk : Wm.fields (kindB s) = some l) (he : (partsB l s).2.f = 0 ∧ (partsB l s).2.left = 0) (hx : encW (partsB l s).1 ≠ (s, 0)) : bodyW s = (zeroM, 271) := by
  unfold bodyW; rw [if_pos h, hk]; dsimp only; rw [if_pos he, if_neg hx]
theorem body_ok {s : List UInt8} {l : List Wm.Fd} (h : Crc.crc (s.take (s.length - 4)) = Pk.num (s.drop (s.length - 4))) (hk : Wm.fields (kindB s) = some l) (he : (partsB l s).2.f = 0 ∧ (partsB l s).2.left = 0) (hx : encW (partsB l s).1 = (s, 0)) : bodyW s = ((partsB l s).1, 0) := by
  unfold bodyW; rw [if_pos h, hk]; dsimp only; rw [if_pos he, if_pos hx]
end Go.Proofs.YthkfcfkkamffpaaGreat
