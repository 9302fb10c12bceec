/-
  Layer 6 in plain Lean: what stands at a record's places, which 80 bytes are a record, what a slot's page is, which record counts.
-/
import Derived.Test.YtlhdbkbgedlmnaaDoorMt
namespace Go.Proofs.YtlhdbkbgedlmnaaDoor.Mt
set_option linter.unusedVariables false

theorem num_acc' (l : List UInt8) : ∀ x : Nat, l.foldl (fun x b => x * 256 + b.toNat) x = x * 256 ^ l.length + Pk.num l := by
  induction l with
  | nil => intro x; simp [Pk.num]
  | cons b l ih =>
    intro x
    simp only [Pk.num, List.foldl_cons, List.length_cons]
    rw [ih (x * 256 + b.toNat), ih (0 * 256 + b.toNat), Nat.pow_succ, Nat.add_mul, Nat.zero_mul, Nat.zero_add, Nat.mul_comm (256 ^ l.length) 256, ← Nat.mul_assoc, Nat.add_assoc]
theorem num_cons' (b : UInt8) (l : List UInt8) : Pk.num (b :: l) = b.toNat * 256 ^ l.length + Pk.num l := by
  have := num_acc' l (0 * 256 + b.toNat)
  simp only [Pk.num, List.foldl_cons]
  rw [this]; simp [Pk.num]
theorem num_be' (n : Nat) : ∀ x : Nat, Pk.num (Pk.be n x) = x % 256 ^ n := by
  induction n with
  | zero => intro x; simp [Pk.be, Pk.num, Nat.mod_one]
  | succ n ih =>
    intro x
    simp only [Pk.be]
    have e : (((x : Int) / 256 ^ n) % 256).toNat = x / 256 ^ n % 256 := by
      have h2 : (x : Int) / 256 ^ n = ((x / 256 ^ n : Nat) : Int) := by simp
      rw [h2]; omega
    rw [e, num_cons', Pk.be_length, ih]
    have hb : (UInt8.ofNat (x / 256 ^ n % 256)).toNat = x / 256 ^ n % 256 := by simp
    rw [hb, Nat.pow_succ, Nat.mod_mul]
    rw [Nat.mul_comm, Nat.add_comm]
theorem num_lt' (l : List UInt8) (n : Nat) (h : l.length ≤ n) : Pk.num l < 256 ^ n := by
  have key : ∀ (l : List UInt8) (x : Nat), l.foldl (fun x b => x * 256 + b.toNat) x < (x + 1) * 256 ^ l.length := by
    intro l
    induction l with
    | nil => intro x; simp
    | cons b l ih =>
      intro x
      have h1 := ih (x * 256 + b.toNat)
      have h2 := b.toNat_lt
      have h3 : (x * 256 + b.toNat + 1) * 256 ^ l.length ≤ ((x + 1) * 256) * 256 ^ l.length := Nat.mul_le_mul_right _ (by omega)
      simp only [List.foldl_cons, List.length_cons, Nat.pow_succ]
      rw [Nat.mul_comm (256 ^ l.length) 256, ← Nat.mul_assoc]
      omega
  have := key l 0
  rw [Nat.zero_add, Nat.one_mul] at this
  exact Nat.lt_of_lt_of_le this (Nat.pow_le_pow_right (by decide) h)

/-- the number in n bytes from place p on -/
def fld (s : List UInt8) (p n : Nat) : Nat := Pk.num ((s.drop p).take n)
theorem fld_lt (s : List UInt8) (p n : Nat) : fld s p n < 256 ^ n := num_lt' _ n (by simp; omega)
/-- the record at a record's places -/
def fM (s : List UInt8) : M := ⟨fld s 8 8, fld s 32 4, (s.drop 44).take 32, fld s 16 8, fld s 24 8, fld s 36 4, fld s 40 4⟩
/-- the frame at a record's places -/
def fF (s : List UInt8) : F := ⟨(2 ^ (fld s 4 1 % 32) : Nat), (fld s 5 1 : Nat)⟩
theorem fM_ok {s : List UInt8} (h : 76 ≤ s.length) : (fM s).Ok := by
  have e8 : (256 : Nat) ^ 8 = 18446744073709551616 := by decide
  have e4 : (256 : Nat) ^ 4 = 4294967296 := by decide
  have a := fld_lt s 8 8
  have b := fld_lt s 32 4
  have c := fld_lt s 16 8
  have d := fld_lt s 24 8
  have e := fld_lt s 36 4
  have f := fld_lt s 40 4
  rw [e8] at a c d
  rw [e4] at b e f
  exact ⟨a, b, by simp [fM]; omega, c, d, e, f⟩
/-- are 80 bytes a record of any frame? -/
def good (s : List UInt8) : Bool := ok (fF s) (fM s) && decide (rec (fF s) (fM s) = s)
/-- a slot's kind, by its first sector: 0 blank, 1 a record, 2 foreign, 3 spoilt -/
def kind (f : F) (t : List UInt8) : Nat :=
  if t = zs t.length then 0 else if ¬ (good (t.take 80) = true ∧ t.drop 80 = zs (t.length - 80)) then 3 else if fF (t.take 80) ≠ f then 2 else 1
/-- the record told of a slot -/
def told (f : F) (t : List UInt8) : M := if kind f t = 1 then fM (t.take 80) else zero
/-- a page's first sector -/
def sect (f : F) (page : List UInt8) : List UInt8 := page.take (f.page.toNat / 8)
/-- may the page be asked? -/
def fit (f : F) (page : List UInt8) : Bool := mayF f && decide ((page.length : Int) = f.page)

theorem fld_at {a b c : List UInt8} {p n x : Nat} (ha : a.length = p) (hb : b = Pk.be n x) (hx : x < 256 ^ n) : fld (a ++ (b ++ c)) p n = x := by
  unfold fld
  subst ha hb
  rw [List.drop_left, List.take_append_of_le_length (by rw [Pk.be_length]; omega), List.take_of_length_le (by rw [Pk.be_length]; omega), num_be', Nat.mod_eq_of_lt hx]
theorem rec_fields {f : F} {m : M} (hm : m.Ok) (hf : mayF f = true) : fF (rec f m) = f ∧ fM (rec f m) = m := by
  have e8 : (256 : Nat) ^ 8 = 18446744073709551616 := by decide
  have e4 : (256 : Nat) ^ 4 = 4294967296 := by decide
  have e1 : (256 : Nat) ^ 1 = 256 := by decide
  obtain ⟨hp, hw1, hw2⟩ := mayF_iff.1 hf
  obtain ⟨p, wd⟩ := f
  dsimp only at hp hw1 hw2
  obtain ⟨n, rfl⟩ := Int.eq_ofNat_of_zero_le (by omega : 0 ≤ wd)
  obtain ⟨h1, h2, h3, h4, h5, h6, h7⟩ := hm
  obtain ⟨ver, page, sum, cnt, rver, list, pages⟩ := m
  dsimp only at h1 h2 h3 h4 h5 h6 h7
  have hlg : lg p < 256 ∧ ((2 ^ (lg p % 32) : Nat) : Int) = p := by
    rcases hp with rfl | rfl | rfl | rfl <;> exact ⟨by decide, by decide⟩
  have hl := fun (k : Nat) (x : Int) => Pk.be_length k x
  constructor
  · unfold fF
    have a : fld (rec ⟨p, (n : Int)⟩ ⟨ver, page, sum, cnt, rver, list, pages⟩) 4 1 = lg p := by
      unfold rec body
      simp only [List.append_assoc]
      exact fld_at (by simp [hl]) rfl (by rw [e1]; exact hlg.1)
    have b : fld (rec ⟨p, (n : Int)⟩ ⟨ver, page, sum, cnt, rver, list, pages⟩) 5 1 = n := by
      unfold rec body
      simp only [List.append_assoc]
      rw [← List.append_assoc]
      exact fld_at (by simp [hl]) rfl (by rw [e1]; omega)
    rw [a, b, hlg.2]
  · unfold fM
    have key : ∀ {k x : Nat} {A C : List UInt8} {q : Nat}, rec ⟨p, (n : Int)⟩ ⟨ver, page, sum, cnt, rver, list, pages⟩ = A ++ (Pk.be k (x : Int) ++ C) → A.length = q → x < 256 ^ k →
        fld (rec ⟨p, (n : Int)⟩ ⟨ver, page, sum, cnt, rver, list, pages⟩) q k = x := fun {k x A C q} h hq hx => by rw [h]; exact fld_at hq rfl hx
    have a1 := key (k := 8) (x := ver) (q := 8) (A := Pk.be 4 1752657201 ++ Pk.be 1 (lg p) ++ Pk.be 1 n ++ Pk.be 2 0) (by unfold rec body; simp only [List.append_assoc]; rfl) (by simp [hl]) (by omega)
    have a2 := key (k := 8) (x := cnt) (q := 16) (A := Pk.be 4 1752657201 ++ Pk.be 1 (lg p) ++ Pk.be 1 n ++ Pk.be 2 0 ++ Pk.be 8 ver) (by unfold rec body; simp only [List.append_assoc]; rfl) (by simp [hl]) (by omega)
    have a3 := key (k := 8) (x := rver) (q := 24) (A := Pk.be 4 1752657201 ++ Pk.be 1 (lg p) ++ Pk.be 1 n ++ Pk.be 2 0 ++ Pk.be 8 ver ++ Pk.be 8 cnt) (by unfold rec body; simp only [List.append_assoc]; rfl) (by simp [hl]) (by omega)
    have a4 := key (k := 4) (x := page) (q := 32) (A := Pk.be 4 1752657201 ++ Pk.be 1 (lg p) ++ Pk.be 1 n ++ Pk.be 2 0 ++ Pk.be 8 ver ++ Pk.be 8 cnt ++ Pk.be 8 rver) (by unfold rec body; simp only [List.append_assoc]; rfl) (by simp [hl]) (by omega)
    have a5 := key (k := 4) (x := list) (q := 36) (A := Pk.be 4 1752657201 ++ Pk.be 1 (lg p) ++ Pk.be 1 n ++ Pk.be 2 0 ++ Pk.be 8 ver ++ Pk.be 8 cnt ++ Pk.be 8 rver ++ Pk.be 4 page) (by unfold rec body; simp only [List.append_assoc]; rfl) (by simp [hl]) (by omega)
    have a6 := key (k := 4) (x := pages) (q := 40) (A := Pk.be 4 1752657201 ++ Pk.be 1 (lg p) ++ Pk.be 1 n ++ Pk.be 2 0 ++ Pk.be 8 ver ++ Pk.be 8 cnt ++ Pk.be 8 rver ++ Pk.be 4 page ++ Pk.be 4 list) (by unfold rec body; simp only [List.append_assoc]; rfl) (by simp [hl]) (by omega)
    have a7 : ((rec ⟨p, (n : Int)⟩ ⟨ver, page, sum, cnt, rver, list, pages⟩).drop 44).take 32 = sum := by
      have hb : (Pk.be 4 1752657201 ++ Pk.be 1 (lg p) ++ Pk.be 1 n ++ Pk.be 2 0 ++ Pk.be 8 ver ++ Pk.be 8 cnt ++ Pk.be 8 rver ++ Pk.be 4 page ++ Pk.be 4 list ++ Pk.be 4 pages).length = 44 := by simp [hl]
      unfold rec body
      rw [List.append_assoc _ sum, ← hb, List.drop_left, List.take_append_of_le_length (by omega), List.take_of_length_le (by omega)]
    rw [a1, a2, a3, a4, a5, a6, a7]
theorem good_rec {f : F} {m : M} (hm : m.Ok) (h : ok f m = true) : good (rec f m) = true := by
  have hf : mayF f = true := by unfold ok at h; simp at h; exact h.1
  obtain ⟨a, b⟩ := rec_fields hm hf
  unfold good
  rw [a, b, h]; simp
end Go.Proofs.YtlhdbkbgedlmnaaDoor.Mt
