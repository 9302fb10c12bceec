/-
  Layer 6 in plain Lean: what the laws say of encoded pages: read back, one byte turned, sectors mixed, a greater record laid.
-/
import Derived.Test.YtlhdbkbgedlmnaaDoorMslot
namespace Go.Proofs.YtlhdbkbgedlmnaaDoor
set_option linter.unusedVariables false

theorem ok_may {f : Mt.F} {m : Mt.M} (h : Mt.ok f m = true) : Mt.mayF f = true := (ok_iff.1 h).1
theorem may_page {f : Mt.F} (h : Mt.mayF f = true) : ∃ q : Nat, f.page = 8 * (q : Int) ∧ 128 ≤ q ∧ q ≤ 1024 := by
  obtain ⟨hp, -, -⟩ := Mt.mayF_iff.1 h
  exact ⟨(f.page / 8).toNat, by omega, by omega, by omega⟩
theorem enc_length {f : Mt.F} {m : Mt.M} (hm : m.Ok) (h : Mt.ok f m = true) : ((Mt.enc f m).length : Int) = f.page := by
  obtain ⟨q, h1, h2, h3⟩ := may_page (ok_may h)
  unfold Mt.enc
  rw [List.length_append, Mt.rec_length f m hm.sum]
  simp [Mt.zs]; omega
theorem fit_of {f : Mt.F} {s : List UInt8} (hf : Mt.mayF f = true) (h : (s.length : Int) = f.page) : Mt.fit f s = true := by
  unfold Mt.fit; rw [hf]; simpa using h
theorem take_pad {R : List UInt8} (hR : R.length = 80) {k n : Nat} (h : n ≤ k) : (R ++ Mt.zs k).take (80 + n) = R ++ Mt.zs n := by
  rw [← hR, List.take_length_add_append]
  unfold Mt.zs
  rw [List.take_replicate, show min n k = n by omega]
theorem sect_enc {f : Mt.F} {m : Mt.M} (hm : m.Ok) (h : Mt.ok f m = true) {q : Nat} (hq : f.page = 8 * (q : Int)) (hq2 : 128 ≤ q) : Mt.sect f (Mt.enc f m) = Mt.rec f m ++ Mt.zs (q - 80) := by
  unfold Mt.sect Mt.enc
  have hr := Mt.rec_length f m hm.sum
  generalize Mt.rec f m = R at *
  rw [show f.page.toNat / 8 = 80 + (q - 80) by omega]
  exact take_pad hr (by omega)
theorem rec_ne {f : Mt.F} {m : Mt.M} : (Mt.rec f m)[0]? = some 104 ∧ (Mt.rec f m)[1]? = some 119 := by
  unfold Mt.rec Mt.body
  simp only [List.append_assoc]
  rw [show Pk.be 4 1752657201 = [104, 119, 109, 49] by decide]
  exact ⟨rfl, rfl⟩
theorem zs_get {n i : Nat} {b : UInt8} (h : (Mt.zs n)[i]? = some b) : b = 0 := by
  unfold Mt.zs at h
  rw [List.getElem?_replicate] at h
  split at h
  · injection h with h; exact h.symm
  · cases h
/-- an encoded page is told as its record -/
theorem kind_enc {f : Mt.F} {m : Mt.M} (hm : m.Ok) (h : Mt.ok f m = true) {t : List UInt8} {k : Nat} (ht : t = Mt.rec f m ++ Mt.zs k) : Mt.kind f t = 1 ∧ Mt.told f t = m := by
  have hr := Mt.rec_length f m hm.sum
  have e1 : t.take 80 = Mt.rec f m := by rw [ht, ← hr, List.take_left]
  have e2 : t.drop 80 = Mt.zs k := by rw [ht, ← hr, List.drop_left]
  obtain ⟨a, b⟩ := Mt.rec_fields hm (ok_may h)
  have := kind_1 (f := f) (t := t) (by
    rw [decide_eq_false_iff_not]; intro e
    have h0 := (rec_ne (f := f) (m := m)).1
    have h1 : t[0]? = some 104 := by rw [ht, List.getElem?_append_left (by omega)]; exact h0
    rw [e] at h1
    exact absurd (zs_get h1) (by decide)) (by rw [e1]; exact Mt.good_rec hm h) (by rw [e2]; simp [Mt.zs]) (by rw [e1]; exact a)
  rw [e1, b] at this
  exact this
theorem back {f : Mt.F} {m : Mt.M} (hm : m.Ok) (h : Mt.ok f m = true) : Mt.fit f (Mt.enc f m) = true ∧ Mt.kind f (Mt.sect f (Mt.enc f m)) = 1 ∧ Mt.told f (Mt.sect f (Mt.enc f m)) = m := by
  obtain ⟨q, h1, h2, h3⟩ := may_page (ok_may h)
  obtain ⟨a, b⟩ := kind_enc hm h (sect_enc hm h h1 h2)
  exact ⟨fit_of (ok_may h) (enc_length hm h), a, b⟩
theorem dc_back {f : Mt.F} {m : Mt.M} (hm : m.Ok) (h : Mt.ok f m = true) : dcM f (Mt.enc f m) = m ∧ dcK f (Mt.enc f m) = 1 ∧ dcE f (Mt.enc f m) = 0 := by
  obtain ⟨a, b, c⟩ := back hm h
  obtain ⟨d, e, g⟩ := dc_yes a
  exact ⟨d.trans c, e.trans b, g⟩
theorem pick_back {f : Mt.F} {m : Mt.M} (hm : m.Ok) (h : Mt.ok f m = true) (n : Int) (hn : (m.pages : Int) ≤ n) (hn2 : 2 ≤ n) : pick f (Mt.enc f m) (Mt.enc f m) n = (m, 1, 0) := by
  obtain ⟨a, b, c⟩ := back hm h
  unfold pick
  rw [if_neg (by rw [ok_may h]; simp), if_neg (by omega), if_pos ⟨a, a⟩, b, c]
  unfold pickC
  rw [if_pos ⟨⟨rfl, hn⟩, .inr (Nat.le_refl _)⟩]
/-- one byte turned -/
def turned (s : List UInt8) (i : Nat) (b : UInt8) : List UInt8 := s.set i b
theorem turned_far {f : Mt.F} {s : List UInt8} {i : Nat} {b : UInt8} {q : Nat} (hq : f.page = 8 * (q : Int)) (hi : q ≤ i) : Mt.sect f (s.set i b) = Mt.sect f s := by
  unfold Mt.sect
  rw [show f.page.toNat / 8 = q by omega, List.take_set_of_le hi]
theorem turned_near {f : Mt.F} {m : Mt.M} (hm : m.Ok) (h : Mt.ok f m = true) {q : Nat} (hq : f.page = 8 * (q : Int)) (hq2 : 128 ≤ q) {i : Nat} {b : UInt8} (hi : i < q) (hb : ∀ c, (Mt.enc f m)[i]? = some c → c ≠ b) :
    Mt.kind f (Mt.sect f ((Mt.enc f m).set i b)) = 3 ∧ Mt.told f (Mt.sect f ((Mt.enc f m).set i b)) = Mt.zero := by
  have hr := Mt.rec_length f m hm.sum
  have hs := sect_enc hm h hq hq2
  have hse : Mt.sect f ((Mt.enc f m).set i b) = (Mt.rec f m ++ Mt.zs (q - 80)).set i b := by
    rw [← hs]; unfold Mt.sect; rw [List.take_set]
  have hget : ∀ c, (Mt.rec f m ++ Mt.zs (q - 80))[i]? = some c → c ≠ b := by
    intro c hc
    apply hb
    rw [← hs] at hc
    unfold Mt.sect at hc
    rw [List.getElem?_take] at hc
    split at hc
    · exact hc
    · cases hc
  rw [hse]
  generalize hT : (Mt.rec f m ++ Mt.zs (q - 80)).set i b = T
  have hTl : T.length = q := by rw [← hT]; simp [Mt.zs, hr]; omega
  apply kind_3
  · rw [decide_eq_false_iff_not]; intro e
    obtain ⟨r0, r1⟩ := rec_ne (f := f) (m := m)
    by_cases hi0 : i = 0
    · have : T[1]? = some 119 := by
        rw [← hT, List.getElem?_set_ne (by omega), List.getElem?_append_left (by omega)]; exact r1
      rw [e] at this
      exact absurd (zs_get this) (by decide)
    · have : T[0]? = some 104 := by
        rw [← hT, List.getElem?_set_ne (by omega), List.getElem?_append_left (by omega)]; exact r0
      rw [e] at this
      exact absurd (zs_get this) (by decide)
  · rcases Nat.lt_or_ge i 80 with hi8 | hi8
    · left
      have e1 : T.take 80 = (Mt.rec f m).set i b := by
        rw [← hT, List.set_append_left _ _ (by omega), ← hr]
        rw [show (Mt.rec f m).length = ((Mt.rec f m).set i b).length by simp, List.take_left]
      rw [e1]
      rw [List.getElem?_append_left (by omega)] at hget
      cases hg : Mt.good ((Mt.rec f m).set i b)
      · rfl
      · exfalso
        unfold Mt.good at hg
        simp only [Bool.and_eq_true, decide_eq_true_iff] at hg
        have hg2 := hg.2
        have hok' : (Mt.fM ((Mt.rec f m).set i b)).sum.length = 32 := (Mt.fM_ok (by simp [hr])).sum
        generalize Mt.fM ((Mt.rec f m).set i b) = m' at hg2 hok'
        generalize Mt.fF ((Mt.rec f m).set i b) = f' at hg2
        unfold Mt.rec at hg2 hget
        have hb1 := Mt.body_length f m hm.sum
        have hb2 := Mt.body_length f' m' hok'
        generalize Mt.body f m = B at hg2 hget hb1
        generalize Mt.body f' m' = B' at hg2 hb2
        rcases Nat.lt_or_ge i 76 with hi7 | hi7
        · rw [List.set_append_left _ _ (by omega)] at hg2
          obtain ⟨e3, e4⟩ := List.append_inj hg2 (by simp [hb1, hb2])
          rw [List.getElem?_append_left (by omega)] at hget
          have e5 : Crc.crc B' = Crc.crc B := by
            have u1 := Crc.u32_crc B
            have u2 := Crc.u32_crc B'
            have := congrArg Pk.num e4
            rw [Mt.num_be', Mt.num_be'] at this
            unfold Crc.U32 at u1 u2
            rw [show (256 : Nat) ^ 4 = 4294967296 from by decide] at this
            omega
          have hsp : B = B.take i ++ B[i]'(by omega) :: B.drop (i + 1) := by rw [List.getElem_cons_drop, List.take_append_drop]
          have hsp2 : B.set i b = B.take i ++ b :: B.drop (i + 1) := by rw [List.set_eq_take_append_cons_drop, if_pos (by omega)]
          rw [e3, hsp2] at e5
          have hx := Crc.crc_turned (B.take i) (B.drop (i + 1)) b (B[i]'(by omega)) (e5.trans (congrArg Crc.crc hsp))
          exact hget _ (List.getElem?_eq_getElem (by omega)) hx.symm
        · rw [List.set_append_right _ _ (by omega)] at hg2
          obtain ⟨e3, e4⟩ := List.append_inj hg2 (by simp [hb1, hb2])
          subst e3
          rw [List.getElem?_append_right (by omega), e4] at hget
          have hl : i - B'.length < ((Pk.be 4 (Crc.crc B' : Nat)).set (i - B'.length) b).length := by simp [Pk.be_length]; omega
          exact hget b (by rw [List.getElem?_set_self (by simpa using hl)]) rfl
    · right
      have e2 : T.drop 80 = (Mt.zs (q - 80)).set (i - 80) b := by
        rw [← hT, List.set_append_right _ _ (by omega), ← hr, List.drop_left]
      rw [decide_eq_false_iff_not, e2]
      intro e
      rw [List.getElem?_append_right (by omega), hr] at hget
      have hl : i - 80 < (Mt.zs (q - 80)).length := by simp [Mt.zs]; omega
      have h1 : ((Mt.zs (q - 80)).set (i - 80) b)[i - 80]? = some b := by rw [List.getElem?_set_self hl]
      rw [e] at h1
      have := zs_get h1
      subst this
      obtain ⟨c, hc⟩ : ∃ c, (Mt.zs (q - 80))[i - 80]? = some c := ⟨_, List.getElem?_eq_getElem hl⟩
      exact hget c hc (zs_get hc)

/-- what two told slots and a greater record give -/
theorem pick_fit {f : Mt.F} {x y : List UInt8} {n : Int} (hf : Mt.mayF f = true) (hn : 2 ≤ n) (h : Mt.fit f x = true ∧ Mt.fit f y = true) : pick f x y n = pickC (Mt.told f (Mt.sect f x)) (Mt.told f (Mt.sect f y)) (Mt.kind f (Mt.sect f x)) (Mt.kind f (Mt.sect f y)) n := by
  unfold pick; rw [if_neg (by rw [hf]; simp), if_neg (by omega), if_pos h]
theorem pick_same {f : Mt.F} {x y x' y' : List UInt8} {n : Int} (hf : Mt.mayF f = true) (hn : 2 ≤ n) (h : Mt.fit f x = true ∧ Mt.fit f y = true) (h' : Mt.fit f x' = true ∧ Mt.fit f y' = true) (hx : Mt.sect f x' = Mt.sect f x) (hy : Mt.sect f y' = Mt.sect f y) : pick f x' y' n = pick f x y n := by
  rw [pick_fit hf hn h, pick_fit hf hn h', hx, hy]
/-- where something is picked without an error, the two pages fit -/
theorem pick_ok_fit {f : Mt.F} {x y : List UInt8} {n : Int} (hf : Mt.mayF f = true) (hn : 2 ≤ n) (h : (pick f x y n).2.2 = 0) : Mt.fit f x = true ∧ Mt.fit f y = true := by
  apply Decidable.byContradiction
  intro hc
  unfold pick at h
  rw [if_neg (by rw [hf]; simp), if_neg (by omega), if_neg hc] at h
  exact absurd h (by decide)
/-- which of the slots is next -/
theorem pickC_next (a b : Mt.M) (j k n : Int) (h : (pickC a b j k n).2.2 = 0) : ((pickC a b j k n).2.1 = 1 ∧ (pickC a b j k n).1 = a ∧ j = 1 ∧ (a.pages : Int) ≤ n) ∨ ((pickC a b j k n).2.1 = 0 ∧ ((k = 1 ∧ (b.pages : Int) ≤ n ∧ (pickC a b j k n).1 = b) ∨ (¬ (k = 1 ∧ (b.pages : Int) ≤ n)))) := by
  unfold pickC at h ⊢
  split
  · rename_i hc
    exact .inl ⟨rfl, rfl, hc.1.1, hc.1.2⟩
  · split
    · rename_i hc
      exact .inr ⟨rfl, .inl ⟨hc.1, hc.2, rfl⟩⟩
    · rename_i h1 h2
      rw [if_neg h1, if_neg h2] at h
      split
      · rename_i h3; rw [if_pos h3] at h; exact absurd h (by decide)
      · rename_i h3
        rw [if_neg h3] at h
        split
        · exact .inr ⟨rfl, .inr h2⟩
        · rename_i h4; rw [if_neg h4] at h; exact absurd h (by decide)
/-- a greater record in the slot next is picked -/
theorem goes_zero {f : Mt.F} {x x' y : List UInt8} {m : Mt.M} {n : Int} (hf : Mt.mayF f = true) (hn : 2 ≤ n) (h0 : (pick f x y n).2.2 = 0) (h1 : (pick f x y n).2.1 = 0) (hm : (m.pages : Int) ≤ n) (hv : (pick f x y n).1.ver < m.ver)
    (hx' : Mt.fit f x' = true) (hk : Mt.kind f (Mt.sect f x') = 1 ∧ Mt.told f (Mt.sect f x') = m) : pick f x' y n = (m, 1, 0) := by
  have hfit := pick_ok_fit hf hn h0
  rw [pick_fit hf hn ⟨hx', hfit.2⟩, hk.1, hk.2]
  rw [pick_fit hf hn hfit] at h0 h1 hv
  have hc := pickC_next _ _ _ _ _ h0
  unfold pickC
  rw [if_pos]
  refine ⟨⟨rfl, hm⟩, ?_⟩
  rcases hc with ⟨a, -⟩ | ⟨-, ⟨-, -, e⟩ | e⟩
  · rw [h1] at a; exact absurd a (by decide)
  · rw [e] at hv; exact .inr (by omega)
  · exact .inl e
theorem goes_one {f : Mt.F} {x y y' : List UInt8} {m : Mt.M} {n : Int} (hf : Mt.mayF f = true) (hn : 2 ≤ n) (h0 : (pick f x y n).2.2 = 0) (h1 : (pick f x y n).2.1 ≠ 0) (hm : (m.pages : Int) ≤ n) (hv : (pick f x y n).1.ver < m.ver)
    (hy' : Mt.fit f y' = true) (hk : Mt.kind f (Mt.sect f y') = 1 ∧ Mt.told f (Mt.sect f y') = m) : pick f x y' n = (m, 0, 0) ∧ (pick f x y n).2.1 = 1 := by
  have hfit := pick_ok_fit hf hn h0
  rw [pick_fit hf hn ⟨hfit.1, hy'⟩, hk.1, hk.2]
  rw [pick_fit hf hn hfit] at h0 h1 hv ⊢
  have hc := pickC_next _ _ _ _ _ h0
  rcases hc with ⟨a, e, -, -⟩ | ⟨a, -⟩
  · refine ⟨?_, a⟩
    rw [e] at hv
    unfold pickC
    rw [if_neg (by rintro ⟨-, h | h⟩; exact h ⟨rfl, hm⟩; omega), if_pos ⟨rfl, hm⟩]
  · exact absurd a h1
theorem pick_01 {f : Mt.F} {x y : List UInt8} {n : Int} (hf : Mt.mayF f = true) (hn : 2 ≤ n) (h0 : (pick f x y n).2.2 = 0) : (pick f x y n).2.1 = 0 ∨ (pick f x y n).2.1 = 1 := by
  have hfit := pick_ok_fit hf hn h0
  rw [pick_fit hf hn hfit] at h0 ⊢
  rcases pickC_next _ _ _ _ _ h0 with ⟨a, -⟩ | ⟨a, -⟩
  · exact .inr a
  · exact .inl a
/-- a page of the sectors of two -/
def mixb (c : Nat) (i : Nat) : Bool := c / 2 ^ i % 2 = 1
def mixed (n : Nat) (a b : List UInt8) (c : Nat) : Nat → List UInt8
  | 0 => []
  | i + 1 => mixed n a b c i ++ ((if mixb c i = true then b else a).drop (i * n)).take n
theorem mixed_len (n : Nat) (a b : List UInt8) (c : Nat) (ha : a.length = 8 * n) (hb : b.length = 8 * n) : ∀ i, i ≤ 8 → (mixed n a b c i).length = i * n := by
  intro i
  induction i with
  | zero => intro _; simp [mixed]
  | succ i ih =>
    intro hi
    have e : (if mixb c i = true then b else a).length = 8 * n := by split <;> assumption
    have h3 : (i + 1) * n = i * n + n := Nat.succ_mul i n
    have h2 : i * n + n ≤ 8 * n := by
      have := Nat.mul_le_mul_right n hi
      omega
    rw [mixed, List.length_append, ih (by omega), List.length_take, List.length_drop, e, h3]
    omega
theorem mixed_first (n : Nat) (a b : List UInt8) (c : Nat) (ha : a.length = 8 * n) (hb : b.length = 8 * n) : ∀ i, 1 ≤ i → i ≤ 8 → (mixed n a b c i).take n = (if mixb c 0 = true then b else a).take n := by
  intro i
  induction i with
  | zero => intro h; omega
  | succ i ih =>
    intro _ hi
    by_cases h0 : i = 0
    · subst h0
      simp only [mixed, Nat.zero_mul, List.drop_zero, List.nil_append, List.take_take, Nat.min_self]
    · have hl := mixed_len n a b c ha hb i (by omega)
      have : n ≤ (mixed n a b c i).length := by rw [hl]; exact Nat.le_mul_of_pos_left n (by omega)
      rw [mixed, List.take_append_of_le_length this]
      exact ih (by omega) (by omega)
theorem mixed_sect {f : Mt.F} {a b : List UInt8} {c q : Nat} (hq : f.page = 8 * (q : Int)) (ha : a.length = 8 * q) (hb : b.length = 8 * q) : Mt.sect f (mixed q a b c 8) = if mixb c 0 = true then Mt.sect f b else Mt.sect f a := by
  unfold Mt.sect
  rw [show f.page.toNat / 8 = q by omega, mixed_first q a b c ha hb 8 (by omega) (by omega)]
  split <;> rfl
theorem mixed_fit {f : Mt.F} {a b : List UInt8} {c q : Nat} (hf : Mt.mayF f = true) (hq : f.page = 8 * (q : Int)) (ha : a.length = 8 * q) (hb : b.length = 8 * q) : Mt.fit f (mixed q a b c 8) = true :=
  fit_of hf (by rw [mixed_len q a b c ha hb 8 (by omega)]; omega)
end Go.Proofs.YtlhdbkbgedlmnaaDoor
