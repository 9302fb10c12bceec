/-
  Layer 27 in plain Lean: a message that has a frame is read back from it.
-/
import Derived.Test.YthkfcfkkamffpaaGreatZa
namespace Go.Proofs.YthkfcfkkamffpaaGreat
set_option linter.unusedVariables false
set_option linter.unusedSimpArgs false
open Wm (M)
theorem dig_id {l : List UInt8} (h : l.length = 32) : dig l = l := by
  unfold dig
  rw [h, List.take_of_length_le (by omega)]
  simp
theorem map_id_of {α : Type} (f : α → α) : ∀ l : List α, (∀ x ∈ l, f x = x) → l.map f = l
  | [], _ => rfl
  | x :: l, h => by rw [List.map_cons, h x (by simp), map_id_of f l (fun y hy => h y (by simp [hy]))]
theorem At.raw32 {r : Pk.Rd} {d t : List UInt8} (h : At r d t) (hd : d.length = 32) : r.raw 32 = (d, ⟨r.s, r.pos + 32, 0⟩) := by
  have := h.raw
  rw [hd] at this
  exact this
theorem At.bit {r : Pk.Rd} {b : Bool} {t : List UInt8} (h : At r (Wm.bit b) t) : (tk .u8 (r.take 1).1 == 1) = b ∧ (r.take 1).2 = ⟨r.s, r.pos + 1, 0⟩ := by
  have e : Wm.bit b = Pk.be 1 ((if b then 1 else 0 : Nat) : Int) := by cases b <;> rfl
  rw [e] at h
  rw [h.take]
  cases b <;> exact ⟨rfl, rfl⟩
theorem At.digs {r : Pk.Rd} {l : List (List UInt8)} {t : List UInt8} (h : At r (Pk.free l.length ++ l.flatten) t) (hl : l.length ≤ 64) (hd : ∀ d ∈ l, d.length = 32) : r.list 64 digS = (l, ⟨r.s, r.pos + (Pk.free l.length ++ l.flatten).length, 0⟩) := by
  have e : l.map dig = l := map_id_of dig l (fun d h => dig_id (hd d h))
  have := At.lists digS dig (fun d => d.length = 32) (fun d r t hd h => by
    rw [dig_id hd] at h ⊢
    unfold digS
    rw [h.raw32 hd]
    simp only [dig_id hd, hd]) (fun d => by rw [dig_length]; omega) l r t 64 hd (by omega) (by omega) (by rw [e]; exact h)
  rw [this, e]
def encP (p : List UInt8 × List UInt8) : List UInt8 := (Pk.free p.1.length ++ p.1) ++ (Pk.free p.2.length ++ p.2)
theorem At.pairs {r : Pk.Rd} {l : List (List UInt8 × List UInt8)} {t : List UInt8} (h : At r (Pk.free l.length ++ l.flatMap encP) t) (hl : l.length ≤ 256) (hd : ∀ p ∈ l, p.1.length ≤ 1024 ∧ p.2.length ≤ 1024) :
    r.list 256 pairS = (l, ⟨r.s, r.pos + (Pk.free l.length ++ l.flatMap encP).length, 0⟩) := by
  have e : (l.map encP).flatten = l.flatMap encP := by rw [List.flatMap_def]
  have := At.lists pairS encP (fun p => p.1.length ≤ 1024 ∧ p.2.length ≤ 1024) (fun p r t hd h => by
    have h1 := (At.split (a := Pk.text p.1) (b := Pk.text p.2) h)
    have h2 := h1.next.then
    unfold pairS
    rw [h1.text (by omega) (by omega)]
    dsimp only
    rw [h2.text (by omega) (by omega)]
    simp [encP, Pk.text, Nat.add_assoc]) (fun p => by have := Pk.free_length_pos p.1.length; unfold encP; simp only [List.length_append]; omega) l r t 256 hd (by omega) (by omega) (by rw [e]; exact h)
  rw [this, e]
theorem At.ways {r : Pk.Rd} {l : List Int} {t : List UInt8} (h : At r (Pk.free l.length ++ l.flatMap fun n => Pk.free n.toNat) t) (hl : l.length ≤ 33) (hd : ∀ n ∈ l, 0 ≤ n ∧ n ≤ 65535) :
    r.list 33 stepS = (l, ⟨r.s, r.pos + (Pk.free l.length ++ l.flatMap fun n => Pk.free n.toNat).length, 0⟩) := by
  have e : (l.map fun n : Int => Pk.free n.toNat).flatten = l.flatMap fun n => Pk.free n.toNat := by rw [List.flatMap_def]
  have := At.lists stepS (fun n : Int => Pk.free n.toNat) (fun n => 0 ≤ n ∧ n ≤ 65535) (fun n r t hd h => by
    unfold stepS
    rw [h.free (most := 65535) (by omega) (by omega)]
    have : ((n.toNat : Nat) : Int) = n := by omega
    simp only [this]) (fun n => Pk.free_length_pos _) l r t 33 hd (by omega) (by omega) (by rw [e]; exact h)
  rw [this, e]
/-- a field is read back -/
theorem At.fd {r : Pk.Rd} {m : M} {c : Wm.Fd} {t : List UInt8} (n : M) (h : At r (Wm.fb m c) t) (hf : Wm.fit m c = true) (ho : Ok m) : takeM n r c = (Wm.put n m c, ⟨r.s, r.pos + (Wm.fb m c).length, 0⟩) := by
  have a1 := ho.frm; have a2 := ho.size; have a3 := ho.hsize; have a4 := ho.ever; have a5 := ho.ecnt; have a6 := ho.code; have a7 := ho.limit
  have a8 := ho.hlog; have a9 := ho.esum; have a10 := ho.trail; have a11 := ho.since
  have eM : MAX = 18446744073709551615 := rfl
  cases c <;> simp only [Wm.fit, Wm.short, Bool.and_eq_true, decide_eq_true_eq, List.all_eq_true] at hf <;> simp only [Wm.fb] at h ⊢ <;> simp only [takeM, Wm.put]
  case K => rw [At.text (l := m.key) h (by omega) (by omega)]; rfl
  case T => rw [At.text (l := m.to) h (by omega) (by omega)]; rfl
  case V => rw [At.text (l := m.val) h (by omega) (by omega)]; rfl
  case L =>
    rw [h.free (most := 256) (by omega) (by omega)]
    have : ((m.limit.toNat : Nat) : Int) = m.limit := by omega
    simp only [this]
  case F => rw [h.free (by omega) (by omega)]
  case S => rw [h.free (by omega) (by omega)]
  case f => obtain ⟨e1, e2⟩ := h.bit; rw [e1, e2]; cases m.found <;> rfl
  case m => obtain ⟨e1, e2⟩ := h.bit; rw [e1, e2]; cases m.more <;> rfl
  case C =>
    rw [h.free (most := 65535) (by omega) (by omega)]
    have : ((m.code.toNat : Nat) : Int) = m.code := by omega
    simp only [this]
  case H =>
    have h1 := h.split
    have h2 := h1.next.then
    rw [h1.free (most := MAX) (by omega) (by omega)]
    dsimp only
    rw [h2.raw32 a8]
    simp only [dig_id a8, List.length_append, a8, Nat.add_assoc]
  case E =>
    have h1 := h.split
    have h2 := h1.next.then.split
    have h3 := h2.next.then.split
    have h4 := h3.next.then
    rw [h1.free (most := MAX) (by omega) (by omega)]
    dsimp only
    rw [h2.free (most := MAX) (by omega) (by omega)]
    dsimp only
    rw [h3.raw32 a9]
    dsimp only
    rw [a9] at h4
    rw [At.text (l := m.enote) (most := 32) h4 (by omega) (by omega)]
    simp only [dig_id a9, List.length_append, a9, Nat.add_assoc, Pk.text]
  case t => rw [h.digs hf a10]
  case s => rw [h.digs hf a11]
  case P => rw [At.pairs h hf.1 hf.2]; rfl
  case W => rw [h.ways hf.1 hf.2]
  case B => rw [At.text (l := m.bytes) h (by omega) (by omega)]; rfl
theorem At.fds {m : M} (ho : Ok m) : ∀ (l : List Wm.Fd) (n : M) (r : Pk.Rd) (t : List UInt8), At r (l.flatMap (Wm.fb m)) t → (∀ c ∈ l, Wm.fit m c = true) → takes l n r = (l.foldl (fun n c => Wm.put n m c) n, ⟨r.s, r.pos + (l.flatMap (Wm.fb m)).length, 0⟩)
  | [], n, r, t, h, _ => by
    have := h.f
    obtain ⟨s, p, f⟩ := r
    simp at this
    subst this
    rfl
  | c :: l, n, r, t, h, hf => by
    rw [List.flatMap_cons] at h ⊢
    have h1 := h.split.fd n (hf c (by simp)) ho
    have h2 := h.split.next.then
    have h3 := At.fds ho l (Wm.put n m c) _ t h2 (fun d hd => hf d (by simp [hd]))
    unfold takes at h3 ⊢
    rw [List.foldl_cons, List.foldl_cons, h1]
    rw [h3]
    simp [Nat.add_assoc]
/-- what Encode lays -/
theorem encW_ok {m : M} {s : List UInt8} (h : encW m = (s, 0)) : ∃ l, Wm.fields m.kind = some l ∧ Wm.tooLong m = false ∧ (∀ c ∈ l, Wm.fit m c = true) ∧ Wm.sel l m = m ∧ (Wm.body l m).length + 8 ≤ 1048576 ∧ s = frame (Wm.body l m) := by
  unfold encW at h
  split at h
  · cases h
  · rename_i l hl
    split at h
    · rename_i hm
      split at h
      · cases h
      · rename_i ht
        split at h
        · cases h
        · rename_i hb
          injection h with h1 h2
          have ht' : Wm.tooLong m = false := by simpa using ht
          unfold Wm.mayF at hm
          rw [ht'] at hm
          simp only [Bool.false_or, Bool.and_eq_true, List.all_eq_true, decide_eq_true_eq] at hm
          exact ⟨l, hl, ht', hm.1, hm.2, by omega, h1.symm⟩
    · cases h
theorem encW_of {m : M} {l : List Wm.Fd} (h1 : Wm.fields m.kind = some l) (h2 : Wm.tooLong m = false) (h3 : ∀ c ∈ l, Wm.fit m c = true) (h4 : Wm.sel l m = m) (h5 : (Wm.body l m).length + 8 ≤ 1048576) : encW m = (frame (Wm.body l m), 0) := by
  unfold encW
  rw [h1]
  dsimp only
  have hm : Wm.mayF l m = true := by
    unfold Wm.mayF
    rw [h2]
    simp only [Bool.false_or, Bool.and_eq_true, List.all_eq_true, decide_eq_true_eq]
    exact ⟨h3, h4⟩
  rw [if_pos hm, if_neg (by rw [h2]; simp), if_neg (by omega)]
/-- a frame's head -/
theorem foll_frame {b : List UInt8} (t : List UInt8) (h5 : 5 ≤ b.length) (hb : b.length + 8 ≤ 1048576) : foll (frame b ++ t) = (b.length + 4, 0) := by
  have e : (frame b ++ t).take 4 = Pk.be 4 ((b.length + 4 : Nat) : Int) := by
    unfold frame fore
    rw [List.append_assoc, List.append_assoc, List.take_append_of_le_length (by rw [Pk.be_length]; omega), List.take_of_length_le (by rw [Pk.be_length]; omega)]
  unfold foll
  rw [e, num_be, Nat.mod_eq_of_lt (by omega), if_neg (by omega), if_neg (by omega)]
theorem frame_crc (b : List UInt8) : (frame b).take ((frame b).length - 4) = fore b ∧ Pk.num ((frame b).drop ((frame b).length - 4)) = Crc.crc (fore b) := by
  have hl := frame_len b
  have hf := fore_len b
  have e : (frame b).length - 4 = (fore b).length := by omega
  rw [e]
  unfold frame
  refine ⟨List.take_left, ?_⟩
  rw [List.drop_left, num_be]
  exact Nat.mod_eq_of_lt (Crc.u32_crc _)
theorem rdB_frame (b : List UInt8) : rdB (frame b) = ⟨b, 0, 0⟩ := by
  unfold rdB
  rw [frame_len]
  unfold frame fore
  rw [List.append_assoc, List.drop_append_of_le_length (by rw [Pk.be_length]; omega), List.drop_of_length_le (by rw [Pk.be_length]; omega), List.nil_append,
    List.take_append_of_le_length (by omega), List.take_of_length_le (by omega)]
/-- a body is read back -/
theorem body_back {m : M} {l : List Wm.Fd} (ho : Ok m) (r : Pk.Rd) (t : List UInt8) (h : At r (Wm.body l m) t) (hf : ∀ c ∈ l, Wm.fit m c = true) (hs : Wm.sel l m = m) :
    (r.take 1).1 = m.kind ∧ ((r.take 1).2.take 4).1 = m.id ∧ takes l (Wm.only m.kind m.id) ((r.take 1).2.take 4).2 = (m, ⟨r.s, r.pos + (Wm.body l m).length, 0⟩) := by
  unfold Wm.body at h ⊢
  rw [List.append_assoc] at h ⊢
  have h1 := h.split
  have h2 := h1.next.then.split
  rw [Pk.be_length] at h2
  have h3 := h2.next.then
  have e1 := h1.take
  have e2 := h2.take
  have k := ho.kind
  have i := ho.id
  rw [e1]
  dsimp only
  rw [e2]
  dsimp only at *
  rw [Pk.be_length] at h3
  refine ⟨Nat.mod_eq_of_lt (by omega), Nat.mod_eq_of_lt (by omega), ?_⟩
  rw [At.fds ho l _ _ t h3 hf]
  unfold Wm.sel at hs
  rw [hs]
  simp only [List.length_append, Pk.be_length, Nat.add_assoc]
theorem at_all (b : List UInt8) : At ⟨b, 0, 0⟩ b [] := ⟨rfl, Nat.zero_le _, by simp⟩
/-- what is encoded is decoded again -/
theorem dec_enc {m : M} {s : List UInt8} (ho : Ok m) (h : encW m = (s, 0)) : decW s = (m, 0) := by
  obtain ⟨l, hl, ht, hf, hs, hb, rfl⟩ := encW_ok h
  have h5 := body_len l m
  have hfo : foll (frame (Wm.body l m)) = ((Wm.body l m).length + 4, 0) := by
    have := foll_frame [] h5 hb
    rwa [List.append_nil] at this
  have hlen := frame_len (Wm.body l m)
  obtain ⟨e1, e2, e3⟩ := body_back ho ⟨Wm.body l m, 0, 0⟩ [] (at_all _) hf hs
  have hbw : bodyW (frame (Wm.body l m)) = (m, 0) := by
    obtain ⟨c1, c2⟩ := frame_crc (Wm.body l m)
    unfold bodyW
    rw [if_pos (by rw [c1, c2])]
    have ek : kindB (frame (Wm.body l m)) = m.kind := by unfold kindB; rw [rdB_frame]; exact e1
    have ep : partsB l (frame (Wm.body l m)) = (m, ⟨Wm.body l m, 0 + (Wm.body l m).length, 0⟩) := by
      unfold partsB kindB idB restB
      rw [rdB_frame, e1, e2]
      exact e3
    rw [ek, hl]
    dsimp only
    rw [ep, if_pos ⟨rfl, by simp [Pk.Rd.left]⟩, if_pos h]
  unfold decW
  rw [hfo, if_neg (by omega), if_neg (by simp), if_neg (by dsimp only; omega), if_neg (by dsimp only; omega)]
  exact hbw
/-- what is decoded is encoded again as it was -/
theorem enc_dec {m : M} {s : List UInt8} (h : decW s = (m, 0)) : encW m = (s, 0) := by
  unfold decW at h
  split at h
  · cases h
  split at h
  · rename_i h0; injection h with h1 h2; exact absurd h2 h0
  split at h
  · cases h
  split at h
  · cases h
  unfold bodyW at h
  split at h
  case isFalse => cases h
  split at h
  · cases h
  split at h
  case isFalse => cases h
  split at h
  case isFalse => cases h
  rename_i he
  injection h with h1 h2
  rw [← h1]
  exact he
/-- what Decode gives up with -/
theorem decW_err (s : List UInt8) (h : (decW s).2 ≠ 0) : (decW s).1 = zeroM ∧ ((decW s).2 = 272 ∨ (decW s).2 = 271 ∨ (decW s).2 = 4) := by
  have hf : (foll s).2 ≠ 0 → (foll s).2 = 271 ∨ (foll s).2 = 4 := by unfold foll; split; simp; split <;> simp
  unfold decW at h ⊢
  split
  · exact ⟨rfl, .inl rfl⟩
  split
  · rename_i h0; exact ⟨rfl, .inr (hf h0)⟩
  split
  · exact ⟨rfl, .inl rfl⟩
  split
  · exact ⟨rfl, .inr (.inl rfl)⟩
  rename_i h1 h2 h3 h4
  rw [if_neg h1, if_neg h2, if_neg h3, if_neg h4] at h
  unfold bodyW at h ⊢
  split
  case isFalse => exact ⟨rfl, .inr (.inl rfl)⟩
  rename_i h5
  rw [if_pos h5] at h
  split
  · exact ⟨rfl, .inr (.inl rfl)⟩
  rename_i l hl
  rw [hl] at h
  dsimp only at h
  split
  case isFalse => exact ⟨rfl, .inr (.inl rfl)⟩
  rename_i h6
  rw [if_pos h6] at h
  split
  case isFalse => exact ⟨rfl, .inr (.inl rfl)⟩
  rename_i h7
  rw [if_pos h7] at h
  exact absurd rfl h
/-- something behind a frame -/
theorem dec_more {m : M} {s t : List UInt8} (h : encW m = (s, 0)) (ht : t ≠ []) : (decW (s ++ t)).2 = 271 := by
  obtain ⟨l, hl, hto, hf, hs, hb, rfl⟩ := encW_ok h
  have h5 := body_len l m
  have hlen := frame_len (Wm.body l m)
  have htl : 0 < t.length := List.length_pos_iff.2 ht
  unfold decW
  rw [foll_frame t h5 hb, List.length_append, if_neg (by omega), if_neg (by simp), if_neg (by dsimp only; omega), if_pos (by dsimp only; omega)]
/-- one byte turned behind the first four -/
theorem dec_turned {m : M} {s : List UInt8} {i : Nat} {b : UInt8} (h : encW m = (s, 0)) (hi : 4 ≤ i) (hb : ∀ c, s[i]? = some c → c ≠ b) (hil : i < s.length) : (decW (s.set i b)).2 = 271 := by
  obtain ⟨l, hl, hto, hf, hs, hbl, rfl⟩ := encW_ok h
  have h5 := body_len l m
  have hlen := frame_len (Wm.body l m)
  have hfl := fore_len (Wm.body l m)
  have hfo : foll ((frame (Wm.body l m)).set i b) = ((Wm.body l m).length + 4, 0) := by
    have := foll_frame [] h5 hbl
    rw [List.append_nil] at this
    unfold foll at this ⊢
    rw [List.take_set_of_le (by omega)]
    exact this
  unfold decW
  rw [hfo, List.length_set, if_neg (by omega), if_neg (by simp), if_neg (by dsimp only; omega), if_neg (by dsimp only; omega)]
  unfold bodyW
  rw [if_neg]
  rw [List.length_set, hlen, show (Wm.body l m).length + 8 - 4 = (fore (Wm.body l m)).length by omega]
  generalize Wm.body l m = B at *
  unfold frame at hb ⊢
  have h4 : (Pk.be 4 ((Crc.crc (fore B) : Nat) : Int)).length = 4 := Pk.be_length 4 _
  have hu : Crc.crc (fore B) < 256 ^ 4 := Crc.u32_crc _
  by_cases hlt : i < (fore B).length
  · rw [List.set_append_left _ _ hlt, List.take_append_of_le_length (by simp), List.take_of_length_le (by simp), List.drop_append_of_le_length (by simp), List.drop_of_length_le (by simp), List.nil_append, num_be, Nat.mod_eq_of_lt hu]
    intro e
    have e1 : fore B = (fore B).take i ++ (fore B)[i] :: (fore B).drop (i + 1) := by rw [← List.drop_eq_getElem_cons hlt, List.take_append_drop]
    have e2 : (fore B).set i b = (fore B).take i ++ b :: (fore B).drop (i + 1) := List.set_eq_take_append_cons_drop .. |>.trans (if_pos hlt)
    rw [e2] at e
    have e3 := Crc.crc_turned _ _ _ _ (e.trans (congrArg Crc.crc e1))
    exact hb _ (by rw [List.getElem?_append_left hlt, List.getElem?_eq_getElem hlt]) e3.symm
  · have hge : (fore B).length ≤ i := by omega
    rw [List.set_append_right _ _ hge, List.take_left, List.drop_left]
    intro e
    have hk : i - (fore B).length < (Pk.be 4 ((Crc.crc (fore B) : Nat) : Int)).length := by rw [h4]; omega
    have e1 : Pk.be 4 ((Pk.num ((Pk.be 4 ((Crc.crc (fore B) : Nat) : Int)).set (i - (fore B).length) b) : Nat) : Int) = (Pk.be 4 ((Crc.crc (fore B) : Nat) : Int)).set (i - (fore B).length) b := be_num _ 4 (by simp [h4])
    rw [← e] at e1
    have e2 := congrArg (fun l => l[i - (fore B).length]?) e1
    rw [List.getElem?_set_self hk, List.getElem?_eq_getElem hk] at e2
    injection e2 with e2
    refine hb _ ?_ e2
    rw [List.getElem?_append_right hge, List.getElem?_eq_getElem hk]
end Go.Proofs.YthkfcfkkamffpaaGreat
