/-
  Layer 27: the document's Encode. Printed by gen_vb.py.
-/
import Derived.Test.YthkfcfkkamffpaaGreatYk
import Derived.Test.YthkfcfkkamffpaaGreatZw
import Derived.Test.YthkfcfkkamffpaaGreatZs
import Derived.BigRegion
import Derived.Deep.RegionHeld3
import Derived.Test.YthkfcfkkamffpaaGreatCrc
namespace Go.Proofs.YthkfcfkkamffpaaGreat
open Go.RowKit
set_option linter.unusedVariables false
set_option linter.unusedSimpArgs false
open Wm (M)
def limA (m : M) : Bool := Wm.short m.key && (Wm.short m.to && (Wm.short m.val && (decide (0 ≤ m.limit ∧ m.limit ≤ 256) && (decide (m.trail.length ≤ 64) && (decide (m.since.length ≤ 64) && (decide (m.pairs.length ≤ 256) && (decide (m.way.length ≤ 33) && decide (m.enote.length ≤ 32))))))))
def limB (m : M) : Bool := m.pairs.all fun p => Wm.short p.1 && Wm.short p.2
def limC (m : M) : Bool := m.way.all fun n => decide (0 ≤ n ∧ n ≤ 65535)
def limD (m : M) : Bool := decide (m.kind ≠ 22) || decide (1 ≤ m.code ∧ m.code ≤ 65535)
/-- what the document's May answers -/
def rmay (m : M) : Bool := match Wm.fields m.kind with
  | none => false
  | some l => decide (Wm.sel l m = m) && (limA m && (limB m && (limC m && limD m)))
theorem selq_key (m : M) : ∀ (l : List Wm.Fd) (n : M), Wm.Fd.K ∈ l ∨ (l.foldl (fun n c => Wm.put n m c) n).key = n.key
  | [], n => .inr rfl
  | c :: l, n => by
    rw [List.foldl_cons]
    rcases selq_key m l (Wm.put n m c) with h | h
    · exact .inl (List.mem_cons_of_mem _ h)
    · by_cases hc : c = .K
      · subst hc; exact .inl (List.mem_cons_self ..)
      · right; rw [h]; cases c <;> first | rfl | exact absurd rfl hc
theorem selo_key {m : M} {l : List Wm.Fd} (hs : Wm.sel l m = m) : Wm.Fd.K ∈ l ∨ m.key = [] := by
  rcases selq_key m l (Wm.only m.kind m.id) with h | h
  · exact .inl h
  · right
    have h2 : (Wm.sel l m).key = [] := h
    rwa [hs] at h2
theorem selq_to (m : M) : ∀ (l : List Wm.Fd) (n : M), Wm.Fd.T ∈ l ∨ (l.foldl (fun n c => Wm.put n m c) n).to = n.to
  | [], n => .inr rfl
  | c :: l, n => by
    rw [List.foldl_cons]
    rcases selq_to m l (Wm.put n m c) with h | h
    · exact .inl (List.mem_cons_of_mem _ h)
    · by_cases hc : c = .T
      · subst hc; exact .inl (List.mem_cons_self ..)
      · right; rw [h]; cases c <;> first | rfl | exact absurd rfl hc
theorem selo_to {m : M} {l : List Wm.Fd} (hs : Wm.sel l m = m) : Wm.Fd.T ∈ l ∨ m.to = [] := by
  rcases selq_to m l (Wm.only m.kind m.id) with h | h
  · exact .inl h
  · right
    have h2 : (Wm.sel l m).to = [] := h
    rwa [hs] at h2
theorem selq_val (m : M) : ∀ (l : List Wm.Fd) (n : M), Wm.Fd.V ∈ l ∨ (l.foldl (fun n c => Wm.put n m c) n).val = n.val
  | [], n => .inr rfl
  | c :: l, n => by
    rw [List.foldl_cons]
    rcases selq_val m l (Wm.put n m c) with h | h
    · exact .inl (List.mem_cons_of_mem _ h)
    · by_cases hc : c = .V
      · subst hc; exact .inl (List.mem_cons_self ..)
      · right; rw [h]; cases c <;> first | rfl | exact absurd rfl hc
theorem selo_val {m : M} {l : List Wm.Fd} (hs : Wm.sel l m = m) : Wm.Fd.V ∈ l ∨ m.val = [] := by
  rcases selq_val m l (Wm.only m.kind m.id) with h | h
  · exact .inl h
  · right
    have h2 : (Wm.sel l m).val = [] := h
    rwa [hs] at h2
theorem selq_limit (m : M) : ∀ (l : List Wm.Fd) (n : M), Wm.Fd.L ∈ l ∨ (l.foldl (fun n c => Wm.put n m c) n).limit = n.limit
  | [], n => .inr rfl
  | c :: l, n => by
    rw [List.foldl_cons]
    rcases selq_limit m l (Wm.put n m c) with h | h
    · exact .inl (List.mem_cons_of_mem _ h)
    · by_cases hc : c = .L
      · subst hc; exact .inl (List.mem_cons_self ..)
      · right; rw [h]; cases c <;> first | rfl | exact absurd rfl hc
theorem selo_limit {m : M} {l : List Wm.Fd} (hs : Wm.sel l m = m) : Wm.Fd.L ∈ l ∨ m.limit = 0 := by
  rcases selq_limit m l (Wm.only m.kind m.id) with h | h
  · exact .inl h
  · right
    have h2 : (Wm.sel l m).limit = 0 := h
    rwa [hs] at h2
theorem selq_enote (m : M) : ∀ (l : List Wm.Fd) (n : M), Wm.Fd.E ∈ l ∨ (l.foldl (fun n c => Wm.put n m c) n).enote = n.enote
  | [], n => .inr rfl
  | c :: l, n => by
    rw [List.foldl_cons]
    rcases selq_enote m l (Wm.put n m c) with h | h
    · exact .inl (List.mem_cons_of_mem _ h)
    · by_cases hc : c = .E
      · subst hc; exact .inl (List.mem_cons_self ..)
      · right; rw [h]; cases c <;> first | rfl | exact absurd rfl hc
theorem selo_enote {m : M} {l : List Wm.Fd} (hs : Wm.sel l m = m) : Wm.Fd.E ∈ l ∨ m.enote = [] := by
  rcases selq_enote m l (Wm.only m.kind m.id) with h | h
  · exact .inl h
  · right
    have h2 : (Wm.sel l m).enote = [] := h
    rwa [hs] at h2
theorem selq_trail (m : M) : ∀ (l : List Wm.Fd) (n : M), Wm.Fd.t ∈ l ∨ (l.foldl (fun n c => Wm.put n m c) n).trail = n.trail
  | [], n => .inr rfl
  | c :: l, n => by
    rw [List.foldl_cons]
    rcases selq_trail m l (Wm.put n m c) with h | h
    · exact .inl (List.mem_cons_of_mem _ h)
    · by_cases hc : c = .t
      · subst hc; exact .inl (List.mem_cons_self ..)
      · right; rw [h]; cases c <;> first | rfl | exact absurd rfl hc
theorem selo_trail {m : M} {l : List Wm.Fd} (hs : Wm.sel l m = m) : Wm.Fd.t ∈ l ∨ m.trail = [] := by
  rcases selq_trail m l (Wm.only m.kind m.id) with h | h
  · exact .inl h
  · right
    have h2 : (Wm.sel l m).trail = [] := h
    rwa [hs] at h2
theorem selq_since (m : M) : ∀ (l : List Wm.Fd) (n : M), Wm.Fd.s ∈ l ∨ (l.foldl (fun n c => Wm.put n m c) n).since = n.since
  | [], n => .inr rfl
  | c :: l, n => by
    rw [List.foldl_cons]
    rcases selq_since m l (Wm.put n m c) with h | h
    · exact .inl (List.mem_cons_of_mem _ h)
    · by_cases hc : c = .s
      · subst hc; exact .inl (List.mem_cons_self ..)
      · right; rw [h]; cases c <;> first | rfl | exact absurd rfl hc
theorem selo_since {m : M} {l : List Wm.Fd} (hs : Wm.sel l m = m) : Wm.Fd.s ∈ l ∨ m.since = [] := by
  rcases selq_since m l (Wm.only m.kind m.id) with h | h
  · exact .inl h
  · right
    have h2 : (Wm.sel l m).since = [] := h
    rwa [hs] at h2
theorem selq_pairs (m : M) : ∀ (l : List Wm.Fd) (n : M), Wm.Fd.P ∈ l ∨ (l.foldl (fun n c => Wm.put n m c) n).pairs = n.pairs
  | [], n => .inr rfl
  | c :: l, n => by
    rw [List.foldl_cons]
    rcases selq_pairs m l (Wm.put n m c) with h | h
    · exact .inl (List.mem_cons_of_mem _ h)
    · by_cases hc : c = .P
      · subst hc; exact .inl (List.mem_cons_self ..)
      · right; rw [h]; cases c <;> first | rfl | exact absurd rfl hc
theorem selo_pairs {m : M} {l : List Wm.Fd} (hs : Wm.sel l m = m) : Wm.Fd.P ∈ l ∨ m.pairs = [] := by
  rcases selq_pairs m l (Wm.only m.kind m.id) with h | h
  · exact .inl h
  · right
    have h2 : (Wm.sel l m).pairs = [] := h
    rwa [hs] at h2
theorem selq_way (m : M) : ∀ (l : List Wm.Fd) (n : M), Wm.Fd.W ∈ l ∨ (l.foldl (fun n c => Wm.put n m c) n).way = n.way
  | [], n => .inr rfl
  | c :: l, n => by
    rw [List.foldl_cons]
    rcases selq_way m l (Wm.put n m c) with h | h
    · exact .inl (List.mem_cons_of_mem _ h)
    · by_cases hc : c = .W
      · subst hc; exact .inl (List.mem_cons_self ..)
      · right; rw [h]; cases c <;> first | rfl | exact absurd rfl hc
theorem selo_way {m : M} {l : List Wm.Fd} (hs : Wm.sel l m = m) : Wm.Fd.W ∈ l ∨ m.way = [] := by
  rcases selq_way m l (Wm.only m.kind m.id) with h | h
  · exact .inl h
  · right
    have h2 : (Wm.sel l m).way = [] := h
    rwa [hs] at h2
theorem selq_bytes (m : M) : ∀ (l : List Wm.Fd) (n : M), Wm.Fd.B ∈ l ∨ (l.foldl (fun n c => Wm.put n m c) n).bytes = n.bytes
  | [], n => .inr rfl
  | c :: l, n => by
    rw [List.foldl_cons]
    rcases selq_bytes m l (Wm.put n m c) with h | h
    · exact .inl (List.mem_cons_of_mem _ h)
    · by_cases hc : c = .B
      · subst hc; exact .inl (List.mem_cons_self ..)
      · right; rw [h]; cases c <;> first | rfl | exact absurd rfl hc
theorem selo_bytes {m : M} {l : List Wm.Fd} (hs : Wm.sel l m = m) : Wm.Fd.B ∈ l ∨ m.bytes = [] := by
  rcases selq_bytes m l (Wm.only m.kind m.id) with h | h
  · exact .inl h
  · right
    have h2 : (Wm.sel l m).bytes = [] := h
    rwa [hs] at h2
theorem fields_big {k : Nat} (h : 30 ≤ k) : Wm.fields k = none := by
  unfold Wm.fields
  rw [if_neg (by omega), if_neg (by omega), if_neg (by omega), if_neg (by omega), if_neg (by omega), if_neg (by omega), if_neg (by omega), if_neg (by omega), if_neg (by omega), if_neg (by omega), if_neg (by omega), if_neg (by omega), if_neg (by omega), if_neg (by omega), if_neg (by omega), if_neg (by omega), if_neg (by omega), if_neg (by omega), if_neg (by omega), if_neg (by omega), if_neg (by omega)]
theorem fields_C : ∀ k, k < 30 → ((Wm.fields k).map fun l => l.contains Wm.Fd.C) = some true → k = 22 := by decide
theorem fields_B : ∀ k, k < 30 → ((Wm.fields k).map fun l => l.contains Wm.Fd.B) = some true → k = 26 ∨ k = 29 := by decide
theorem field_C {k : Nat} {l : List Wm.Fd} (hl : Wm.fields k = some l) (h : Wm.Fd.C ∈ l) : k = 22 := by
  rcases Nat.lt_or_ge k 30 with hk | hk
  · exact fields_C k hk (by rw [hl, Option.map_some, List.contains_iff_mem.2 h])
  · rw [fields_big hk] at hl; cases hl
theorem field_B {k : Nat} {l : List Wm.Fd} (hl : Wm.fields k = some l) (h : Wm.Fd.B ∈ l) : k = 26 ∨ k = 29 := by
  rcases Nat.lt_or_ge k 30 with hk | hk
  · exact fields_B k hk (by rw [hl, Option.map_some, List.contains_iff_mem.2 h])
  · rw [fields_big hk] at hl; cases hl
theorem field_22 {k : Nat} {l : List Wm.Fd} (hl : Wm.fields k = some l) (h : k = 22) : Wm.Fd.C ∈ l := by
  subst h
  have : Wm.fields 22 = some [.C] := rfl
  rw [this] at hl
  injection hl with hl
  rw [← hl]; simp
theorem field_BC {k : Nat} {l : List Wm.Fd} (hl : Wm.fields k = some l) (h : Wm.Fd.B ∈ l) : l = [.B] := by
  rcases field_B hl h with rfl | rfl
  · have : Wm.fields 26 = some [.B] := rfl
    rw [this] at hl; injection hl with hl; exact hl.symm
  · have : Wm.fields 29 = some [.B] := rfl
    rw [this] at hl; injection hl with hl; exact hl.symm
theorem lim_fit {m : M} {l : List Wm.Fd} (hl : Wm.fields m.kind = some l) (hb : m.bytes.length ≤ 1048576) (h : (limA m && (limB m && (limC m && limD m))) = true) : ∀ c ∈ l, Wm.fit m c = true := by
  simp only [limA, limD, Bool.and_eq_true, Bool.or_eq_true, decide_eq_true_eq] at h
  obtain ⟨⟨h1, h2, h3, h4, h5, h6, h7, h8, h9⟩, h10, h11, h12⟩ := h
  intro c hc
  cases c with
  | K => exact h1
  | T => exact h2
  | V => exact h3
  | L => exact decide_eq_true h4
  | F => rfl
  | S => rfl
  | f => rfl
  | m => rfl
  | C =>
    have hk := field_C hl hc
    rcases h12 with h | h
    · exact absurd hk h
    · exact decide_eq_true h
  | H => rfl
  | E => exact decide_eq_true h9
  | t => exact decide_eq_true h5
  | s => exact decide_eq_true h6
  | P =>
    show (decide (m.pairs.length ≤ 256) && limB m) = true
    rw [h10, decide_eq_true h7]; rfl
  | W =>
    show (decide (m.way.length ≤ 33) && limC m) = true
    rw [h11, decide_eq_true h8]; rfl
  | B => exact decide_eq_true hb
theorem fit_lim {m : M} {l : List Wm.Fd} (hl : Wm.fields m.kind = some l) (hs : Wm.sel l m = m) (h : ∀ c ∈ l, c ≠ .B → Wm.fit m c = true) : (limA m && (limB m && (limC m && limD m))) = true := by
  have short0 : Wm.short [] = true := rfl
  have a1 : Wm.short m.key = true := by rcases selo_key hs with e | e; exact h .K e (by decide); rw [e]; rfl
  have a2 : Wm.short m.to = true := by rcases selo_to hs with e | e; exact h .T e (by decide); rw [e]; rfl
  have a3 : Wm.short m.val = true := by rcases selo_val hs with e | e; exact h .V e (by decide); rw [e]; rfl
  have a4 : decide (0 ≤ m.limit ∧ m.limit ≤ 256) = true := by rcases selo_limit hs with e | e; exact h .L e (by decide); rw [e]; rfl
  have a5 : decide (m.trail.length ≤ 64) = true := by rcases selo_trail hs with e | e; exact h .t e (by decide); rw [e]; rfl
  have a6 : decide (m.since.length ≤ 64) = true := by rcases selo_since hs with e | e; exact h .s e (by decide); rw [e]; rfl
  have a9 : decide (m.enote.length ≤ 32) = true := by rcases selo_enote hs with e | e; exact h .E e (by decide); rw [e]; rfl
  have a7 : (decide (m.pairs.length ≤ 256) && limB m) = true := by
    rcases selo_pairs hs with e | e
    · exact h .P e (by decide)
    · unfold limB; rw [e]; rfl
  have a8 : (decide (m.way.length ≤ 33) && limC m) = true := by
    rcases selo_way hs with e | e
    · exact h .W e (by decide)
    · unfold limC; rw [e]; rfl
  have a10 : limD m = true := by
    unfold limD
    by_cases hk : m.kind = 22
    · have : decide (1 ≤ m.code ∧ m.code ≤ 65535) = true := h .C (field_22 hl hk) (by decide)
      rw [this, Bool.or_true]
    · rw [decide_eq_true hk]; rfl
  rw [Bool.and_eq_true] at a7 a8
  unfold limA
  rw [a1, a2, a3, a4, a5, a6, a7.1, a7.2, a8.1, a8.2, a9, a10]
  rfl
theorem rmay_no {m : M} (h : rmay m = false) : encW m = ([], 270) := by
  unfold rmay at h
  cases hl : Wm.fields m.kind with
  | none => exact enc_of_none hl
  | some l =>
    refine enc_of_no hl ?_
    rw [hl] at h
    dsimp only at h
    cases hm : Wm.mayF l m
    · rfl
    · exfalso
      unfold Wm.mayF at hm
      rw [Bool.and_eq_true, decide_eq_true_eq, Bool.or_eq_true] at hm
      obtain ⟨h1, hs⟩ := hm
      have hf : ∀ c ∈ l, c ≠ .B → Wm.fit m c = true := by
        rcases h1 with ht | ha
        · intro c hc hne
          unfold Wm.tooLong at ht
          rw [Bool.and_eq_true, decide_eq_true_eq] at ht
          rcases selo_bytes hs with e | e
          · rw [field_BC hl e] at hc
            simp at hc
            exact absurd hc hne
          · rw [e] at ht; simp at ht
        · rw [List.all_eq_true] at ha
          exact fun c hc _ => ha c hc
      rw [decide_eq_true hs, fit_lim hl hs hf] at h
      cases h
theorem rmay_some {m : M} (h : rmay m = true) : ∃ l, Wm.fields m.kind = some l ∧ Wm.sel l m = m ∧ (limA m && (limB m && (limC m && limD m))) = true := by
  unfold rmay at h
  cases hl : Wm.fields m.kind with
  | none => rw [hl] at h; cases h
  | some l =>
    rw [hl] at h
    dsimp only at h
    rw [Bool.and_eq_true, decide_eq_true_eq] at h
    exact ⟨l, rfl, h.1, h.2⟩
theorem rmay_long {m : M} (h : rmay m = true) (hb : 1048576 < m.bytes.length) : encW m = ([], 4) := by
  obtain ⟨l, hl, hs, hlim⟩ := rmay_some h
  have ht : Wm.tooLong m = true := by
    unfold Wm.tooLong
    rcases selo_bytes hs with e | e
    · rcases field_B hl e with k | k <;> rw [k, decide_eq_true hb] <;> rfl
    · rw [e] at hb; simp at hb
  exact enc_of_long hl (by unfold Wm.mayF; rw [ht, decide_eq_true hs]; rfl) ht
theorem rmay_ok {m : M} (h : rmay m = true) (hb : ¬ 1048576 < m.bytes.length) : ∃ l, Wm.fields m.kind = some l ∧ Wm.mayF l m = true ∧ Wm.tooLong m = false ∧ ∀ c ∈ l, Wm.fit m c = true := by
  obtain ⟨l, hl, hs, hlim⟩ := rmay_some h
  have hf := lim_fit hl (by omega) hlim
  refine ⟨l, hl, ?_, ?_, hf⟩
  · unfold Wm.mayF
    rw [List.all_eq_true.2 hf, decide_eq_true hs, Bool.or_true]; rfl
  · unfold Wm.tooLong
    rw [decide_eq_false hb, Bool.and_false]
end Go.Proofs.YthkfcfkkamffpaaGreat
namespace Go.Proofs.YthkfcfkkamffpaaGreat
open Go.RowKit
set_option linter.unusedVariables false
set_option linter.unusedSimpArgs false
open Wm (M)
attribute [local go_sem ↓] ld_msg st_msg
/-- fields without boxes -/
def bare (l : List Wm.Fd) : List (Wm.Fd × List Nat) := l.map fun c => (c, [])
theorem bare_fst (l : List Wm.Fd) : (bare l).map Prod.fst = l := by simp [bare, Function.comp_def]
theorem bare_at {l : List Wm.Fd} {k : Nat} {c : Wm.Fd} (h : l[k]? = some c) : (bare l)[k]? = some (c, []) := by simp [bare, h]
theorem bare_len (l : List Wm.Fd) : (bare l).length = l.length := by simp [bare]
theorem bare_sel (l : List Wm.Fd) (m : M) : selN (bare l) (Wm.only m.kind m.id) m = Wm.sel l m := by rw [sel_fold, bare_fst]; rfl
theorem letr_ne (c : Wm.Fd) : letr c ≠ 45 := by cases c <;> decide
theorem letrs_ne (l : List Wm.Fd) : l.map letr ≠ [45] := by
  intro h
  have : (45 : UInt8) ∈ l.map letr := by rw [h]; simp
  obtain ⟨c, -, hc⟩ := List.mem_map.1 this
  exact letr_ne c hc
set_option maxHeartbeats 16000000 in
set_option maxRecDepth 100000 in
theorem rmay_none (m : M) (L : Ls) (w : World) (hm : Nm m) (hf : Wm.fields m.kind = none) : Calls Tryz.prog 34 #[.agg (mcells m L)] w fun e w' => e = .returned (.bool (rmay m)) ∧ Chg (fun _ => False) w w' := by
  have b0 : IsM (w.alloc (.cells (mcells m L) 36)) w.heap.size m L := Blk.new w 36 (mcells m L)
  have ua := (b0.mf hm.hd).kind
  have hR : rmay m = false := by unfold rmay; rw [hf]
  rw [hR]
  have HF := Lib.hid (fun W => rfields_calls m.kind hm.kind W)
  have hfs : fieldS m.kind = [45] := by unfold fieldS; rw [hf]
  rw [hfs] at HF
  have hqs : ((⟨[45].toArray⟩ : ByteArray).toList == (⟨#[45]⟩ : ByteArray).toList) = true := by rw [strB]; decide
  clear hfs hR hf hm b0
  go_enter Tryz.func34, Tryz.ntmps34
  go_wp2_with fail
  refine (HF.out _).mono ?_
  rintro e w1 ⟨rfl, rfl⟩
  go_wp2_with fail
  go_ret
  exact ⟨rfl, (Chg.refl _ w).alloc _⟩
set_option maxHeartbeats 16000000 in
set_option maxRecDepth 100000 in
theorem rmay_walk (m : M) (L : Ls) (l : List Wm.Fd) (w : World) (hm : Nm m) (hl : IsL w m L) (hf : Wm.fields m.kind = some l) : Calls Tryz.prog 34 #[.agg (mcells m L)] w fun e w' => e = .returned (.bool (rmay m)) ∧ Chg (fun _ => False) w w' := by
  have b0 : IsM (w.alloc (.cells (mcells m L) 36)) w.heap.size m L := Blk.new w 36 (mcells m L)
  have hc0 : Chg (fun _ => False) w (w.alloc (.cells (mcells m L) 36)) := (Chg.refl _ w).alloc _
  have ua := (b0.mf hm.hd).kind
  have ui := (b0.mf hm.hd).id
  have hR : rmay m = (decide (Wm.sel l m = m) && (limA m && (limB m && (limC m && limD m)))) := by unfold rmay; rw [hf]
  rw [hR]
  obtain ⟨n0, hn0⟩ : ∃ n, Wm.sel l m = n := ⟨_, rfl⟩
  rw [hn0]
  have HN := Lib.hid hn0
  clear hn0
  have HF := Lib.hid (fun W => rfields_calls m.kind hm.kind W)
  have hfs : fieldS m.kind = l.map letr := by unfold fieldS; rw [hf]
  rw [hfs] at HF
  have hl4 := fields_len m.kind hf
  obtain ⟨fs, hfs2⟩ : ∃ fs, fs = l.map letr := ⟨_, rfl⟩
  have hfl : fs.length ≤ 4 := by rw [hfs2, List.length_map]; exact hl4
  have hne : fs ≠ [45] := by rw [hfs2]; exact letrs_ne l
  rw [← hfs2] at HF
  have hqs : (fs == [45]) = false := beq_eq_false_iff_ne.2 hne
  have Hfs := Lib.hid hfs2
  have B0 := Lib.hid b0
  have C0 := Lib.hid hc0
  have Hm := Lib.hid hm
  have Hl := Lib.hid hl
  clear hfs hfs2 hl4 hR hf hm hl b0 hc0 hne
  go_enter Tryz.func34, Tryz.ntmps34
  go_upto_region 1 with fail
  generalize (w.alloc (.cells (mcells m L) 36)) = W at *
  go_wp2_with fail
  refine (HF.out _).mono ?_
  rintro e w1 ⟨rfl, rfl⟩
  have hst := st_only W m.kind m.id
  have Hgo := Lib.hid (Blk.setRow (Blk.new W 36 Tryz.zeroCells36) (mcells (Wm.only m.kind m.id) nolist))
  have Hch := Lib.hid (Chg.setRow (g := W.heap.size) ((Chg.refl (fun _ => False) W).alloc (.cells Tryz.zeroCells36 36)) (.inr (Nat.le_refl _)) (mcells (Wm.only m.kind m.id) nolist))
  go_wp2_with fail
  clear ua ui hst hqs
  generalize ((W.alloc (.cells Tryz.zeroCells36 36)).setRow W.heap.size (mcells (Wm.only m.kind m.id) nolist)) = W2 at *
  have hne0 : w.heap.size < W.heap.size := B0.out.lt
  have Hne := Lib.hid hne0
  clear hne0
  go_loopw [5] (fun iv wr => ∃ k : Nat, k ≤ fs.length ∧ iv = .int .i64 k ∧ IsM wr W.heap.size (selN ((bare l).take k) (Wm.only m.kind m.id) m) (selL ((bare l).take k) nolist L) ∧ Chg (fun _ => False) W wr) (fun iv _ => fs.length - (intOf iv).toNat)
  case atStart => exact ⟨0, by omega, rfl, Hgo.out, Hch.out⟩
  case round =>
    obtain ⟨k, hk, rfl, hgo, hchg⟩ := hrel
    have hnm := sel_nm Hm.out ((bare l).take k) (only_nm Hm.out.kind Hm.out.id)
    have hilw := Hl.out.chg (C0.out.trans hchg) (LOff.no _)
    have hsl := sel_isl (Q := (bare l).take k) hilw (only_isl wr m.kind m.id)
    by_cases hp : k < fs.length
    case pos =>
      obtain ⟨b, hb, hget, -⟩ := byte_at fs hp
      obtain ⟨c, hc⟩ : ∃ c, l[k]? = some c := ⟨_, List.getElem?_eq_getElem (by have := Hfs.out; rw [this, List.length_map] at hp; exact hp)⟩
      obtain rfl : b = letr c := by rw [Hfs.out, List.getElem?_map, hc] at hb; injection hb with hb; exact hb.symm
      have hsn := selN_snoc (bare_at hc) (Wm.only m.kind m.id) m
      have hsL := selL_snoc (bare_at hc) nolist L
      have hsl2 := put_isl hsl hilw c
      have hnm2 := put_nm hnm Hm.out c
      generalize selN ((bare l).take k) (Wm.only m.kind m.id) m = n at *
      generalize selL ((bare l).take k) nolist L = K at *
      have hb1 : IsM wr w.heap.size m L := B0.out.chg hchg (fun h => h)
      have hld4 := ldM (w := wr.drew) hnm.hd hgo
      have hld1 := ldM (w := wr.drew) Hm.out.hd hb1
      have HW := Lib.hid (rwith_calls c n m K L wr.drew hnm.hd Hm.out.hd hsl.slc (hilw.chg ((Chg.refl _ wr).drew) (LOff.no _)))
      have HS2 := Lib.hid hsl2.slc
      have Hsn := Lib.hid hsn
      have HsL := Lib.hid hsL
      have Hgo2 := Lib.hid hgo
      have Hch2 := Lib.hid hchg
      have Hn2 := Lib.hid hnm2
      have Hn := Lib.hid hnm
      have hk0 : (0 : Int) ≤ (k : Int) := Int.natCast_nonneg k
      have hk1 : (k : Int) < (fs.length : Int) := by omega
      clear hsn hsL hsl hsl2 hnm hnm2 hilw hb hgo hchg hb1 hc
      go_upto_region 8 with fail
      go_region_with (go_at_call 63; refine HW.out.mono ?_; rintro e w2 ⟨rfl, hc2⟩; have hst2 := stM (Blk.chg (show Blk wr.drew W.heap.size 36 _ from Hgo2.out) hc2 (fun h => h)) (mc_len _ _ Hn.out.hd) Hn2.out.hd HS2.out)
      all_goals
        have HB := Lib.hid (Blk.setRow (Blk.chg (show Blk wr.drew W.heap.size 36 _ from Hgo2.out) hc2 (fun h => h)) (mcells (Wm.put n m c) (putL K L c)))
        have HC := Lib.hid (Chg.setRow (g := W.heap.size) ((Hch2.out.drew).trans hc2) (.inr (Nat.le_refl _)) (mcells (Wm.put n m c) (putL K L c)))
        go_wp2_with fail
        go_roundw
        case rel => exact ⟨k + 1, by omega, by go_num, by rw [Hsn.out, HsL.out]; exact HB.out, HC.out⟩
        case measure => simp [intOf]; omega
    obtain rfl : k = fs.length := by omega
    have htk : (bare l).take fs.length = bare l := by rw [Hfs.out, List.length_map, ← bare_len, List.take_length]
    rw [htk] at hgo hsl hnm
    rw [bare_sel, HN.out] at hgo hsl hnm
    have hb1 : IsM wr w.heap.size m L := B0.out.chg hchg (fun h => h)
    have HS := Lib.hid (rsame_calls n0 m (selL (bare l) nolist L) L wr hnm Hm.out hsl hilw)
    have hld4 := ldM hnm.hd hgo
    have hld1 := ldM Hm.out.hd hb1
    have HB1 := Lib.hid hb1
    have Hchg := Lib.hid ((C0.out.trans hchg))
    generalize selL (bare l) nolist L = K at *
    clear hnm hilw hsl htk hgo hchg hb1
    go_wp2_with fail
    refine HS.out.mono ?_
    rintro e w2 ⟨rfl, hc2⟩
    have hcA := Hchg.out.trans hc2
    have hbA := HB1.out.chg hc2 (fun h => h)
    have CA := Lib.hid hcA
    have BA := Lib.hid hbA
    clear hcA hbA hc2 hld4 hld1
    by_cases hs : n0 = m
    case neg =>
      rw [decide_eq_false hs]
      have Hs := Lib.hid hs
      clear hs
      go_wp2_with fail
      go_ret
      exact ⟨ret_bool (by rw [decide_eq_false Hs.out]; rfl), CA.out⟩
    case pos =>
    rw [decide_eq_true hs]
    have Hs := Lib.hid hs
    clear hs
    obtain ⟨A0, c0, x0, r0⟩ := (Hl.out.chg CA.out (LOff.no _)).t
    obtain ⟨A1, c1, x1, r1⟩ := (Hl.out.chg CA.out (LOff.no _)).s
    obtain ⟨A2, c2, x2, r2⟩ := (Hl.out.chg CA.out (LOff.no _)).p
    obtain ⟨A3, c3, x3, r3⟩ := (Hl.out.chg CA.out (LOff.no _)).y
    have u3 := (BA.out.mf Hm.out.hd).key
    have u4 := (BA.out.mf Hm.out.hd).to
    have u5 := (BA.out.mf Hm.out.hd).val
    have X0 := Lib.hid x0
    have X1 := Lib.hid x1
    have X2 := Lib.hid x2
    have X3 := Lib.hid x3
    have R2 := Lib.hid r2
    have R3 := Lib.hid r3
    clear x0 x1 x2 x3 r0 r1 r2 r3
    have nt := Hm.out.nt
    have ns := Hm.out.ns
    have np := Hm.out.np
    have ny := Hm.out.ny
    have ne := Hm.out.ne
    have HSh := Lib.hid (fun W3 => rshort_calls (some ⟨W3.heap.size, 0, none⟩) 3 3 [m.key, m.to, m.val] (W3.alloc (.cells #[S m.key, S m.to, S m.val] 9)) (Lst.new W3 9 (strs [m.key, m.to, m.val])) (by omega))
    go_wp2_with fail
    refine (HSh.out _).mono ?_
    rintro e w3 ⟨rfl, rfl⟩
    have CB := Lib.hid (CA.out.alloc (.cells #[S m.key, S m.to, S m.val] 9))
    have BB := Lib.hid (BA.out.alloc (.cells #[S m.key, S m.to, S m.val] 9))
    have u6 := (BB.out.mf Hm.out.hd).limit
    have u78 := (BB.out.mf Hm.out.hd).enote
    have u79 := (BB.out.mf Hm.out.hd).t.trans (congrArg some X0.out)
    have u80 := (BB.out.mf Hm.out.hd).s.trans (congrArg some X1.out)
    have u81 := (BB.out.mf Hm.out.hd).p.trans (congrArg some X2.out)
    have u82 := (BB.out.mf Hm.out.hd).y.trans (congrArg some X3.out)
    clear u3 u4 u5
    have R2b := Lib.hid (R2.out.chg ((Chg.refl (fun _ => False) w2).alloc (.cells #[S m.key, S m.to, S m.val] 9)) (fun _ _ _ _ h => h))
    have R3b := Lib.hid (R3.out.chg ((Chg.refl (fun _ => False) w2).alloc (.cells #[S m.key, S m.to, S m.val] 9)) (fun _ _ _ _ h => h))
    have hsa : [m.key, m.to, m.val].all Wm.short = (Wm.short m.key && (Wm.short m.to && Wm.short m.val)) := by simp
    rw [hsa]
    clear hsa
    have fld : ∀ x, limA m = (Wm.short m.key && (Wm.short m.to && Wm.short m.val) && x) → limA m = ((Wm.short m.key && (Wm.short m.to && Wm.short m.val)) && x) := fun x h => h
    have hA : limA m = ((Wm.short m.key && (Wm.short m.to && Wm.short m.val)) && (decide (0 ≤ m.limit ∧ m.limit ≤ 256) && (decide (m.trail.length ≤ 64) && (decide (m.since.length ≤ 64) && (decide (m.pairs.length ≤ 256) && (decide (m.way.length ≤ 33) && decide (m.enote.length ≤ 32))))))) := by
      unfold limA; simp only [Bool.and_assoc]
    have HA := Lib.hid hA
    clear hA fld
    obtain ⟨q1, hq1⟩ : ∃ q, (Wm.short m.key && (Wm.short m.to && Wm.short m.val)) = q := ⟨_, rfl⟩
    rw [hq1] at HA ⊢
    clear hq1
    cases q1
    case false =>
      go_wp2_with fail
      go_ret
      exact ⟨ret_bool (by rw [decide_eq_true Hs.out, HA.out]; rfl), CB.out⟩
    case true =>
    by_cases hq2 : m.limit < 0
    case pos =>
      have q2 : decide (m.limit < 0) = true := decide_eq_true (by omega)
      have Hx := Lib.hid (show ¬ (0 ≤ m.limit ∧ m.limit ≤ 256) by omega)
      clear hq2
      go_wp2_with fail
      go_ret
      exact ⟨ret_bool (by rw [decide_eq_true Hs.out, HA.out, decide_eq_false Hx.out]; simp), CB.out⟩
    have q2 : decide (m.limit < 0) = false := decide_eq_false (by omega)
    by_cases hq3 : 256 < m.limit
    case pos =>
      have q3 : decide (256 < m.limit) = true := decide_eq_true (by omega)
      have Hx := Lib.hid (show ¬ (0 ≤ m.limit ∧ m.limit ≤ 256) by omega)
      clear hq3
      go_wp2_with fail
      go_ret
      exact ⟨ret_bool (by rw [decide_eq_true Hs.out, HA.out, decide_eq_false Hx.out]; simp), CB.out⟩
    have q3 : decide (256 < m.limit) = false := decide_eq_false (by omega)
    by_cases hq4 : 64 < m.trail.length
    case pos =>
      have q4 : decide ((64 : Int) < (m.trail.length : Int)) = true := decide_eq_true (by omega)
      have q4n : decide (64 < m.trail.length) = true := decide_eq_true (by omega)
      have Hx := Lib.hid (show ¬ (m.trail.length ≤ 64) by omega)
      clear hq4
      go_wp2_with fail
      go_ret
      exact ⟨ret_bool (by rw [decide_eq_true Hs.out, HA.out, decide_eq_false Hx.out]; simp), CB.out⟩
    have q4 : decide ((64 : Int) < (m.trail.length : Int)) = false := decide_eq_false (by omega)
    have q4n : decide (64 < m.trail.length) = false := decide_eq_false (by omega)
    by_cases hq5 : 64 < m.since.length
    case pos =>
      have q5 : decide ((64 : Int) < (m.since.length : Int)) = true := decide_eq_true (by omega)
      have q5n : decide (64 < m.since.length) = true := decide_eq_true (by omega)
      have Hx := Lib.hid (show ¬ (m.since.length ≤ 64) by omega)
      clear hq5
      go_wp2_with fail
      go_ret
      exact ⟨ret_bool (by rw [decide_eq_true Hs.out, HA.out, decide_eq_false Hx.out]; simp), CB.out⟩
    have q5 : decide ((64 : Int) < (m.since.length : Int)) = false := decide_eq_false (by omega)
    have q5n : decide (64 < m.since.length) = false := decide_eq_false (by omega)
    by_cases hq6 : 256 < m.pairs.length
    case pos =>
      have q6 : decide ((256 : Int) < (m.pairs.length : Int)) = true := decide_eq_true (by omega)
      have q6n : decide (256 < m.pairs.length) = true := decide_eq_true (by omega)
      have Hx := Lib.hid (show ¬ (m.pairs.length ≤ 256) by omega)
      clear hq6
      go_wp2_with fail
      go_ret
      exact ⟨ret_bool (by rw [decide_eq_true Hs.out, HA.out, decide_eq_false Hx.out]; simp), CB.out⟩
    have q6 : decide ((256 : Int) < (m.pairs.length : Int)) = false := decide_eq_false (by omega)
    have q6n : decide (256 < m.pairs.length) = false := decide_eq_false (by omega)
    by_cases hq7 : 33 < m.way.length
    case pos =>
      have q7 : decide ((33 : Int) < (m.way.length : Int)) = true := decide_eq_true (by omega)
      have q7n : decide (33 < m.way.length) = true := decide_eq_true (by omega)
      have Hx := Lib.hid (show ¬ (m.way.length ≤ 33) by omega)
      clear hq7
      go_wp2_with fail
      go_ret
      exact ⟨ret_bool (by rw [decide_eq_true Hs.out, HA.out, decide_eq_false Hx.out]; simp), CB.out⟩
    have q7 : decide ((33 : Int) < (m.way.length : Int)) = false := decide_eq_false (by omega)
    have q7n : decide (33 < m.way.length) = false := decide_eq_false (by omega)
    by_cases hq8 : 32 < m.enote.length
    case pos =>
      have q8 : decide ((32 : Int) < (m.enote.length : Int)) = true := decide_eq_true (by omega)
      have q8n : decide (32 < m.enote.length) = true := decide_eq_true (by omega)
      have Hx := Lib.hid (show ¬ (m.enote.length ≤ 32) by omega)
      clear hq8
      go_wp2_with fail
      go_ret
      exact ⟨ret_bool (by rw [decide_eq_true Hs.out, HA.out, decide_eq_false Hx.out]; simp), CB.out⟩
    have q8 : decide ((32 : Int) < (m.enote.length : Int)) = false := decide_eq_false (by omega)
    have q8n : decide (32 < m.enote.length) = false := decide_eq_false (by omega)
    have HA2 := Lib.hid (show limA m = true by
      rw [HA.out, decide_eq_true (show 0 ≤ m.limit ∧ m.limit ≤ 256 by omega), decide_eq_true (show m.trail.length ≤ 64 by omega), decide_eq_true (show m.since.length ≤ 64 by omega), decide_eq_true (show m.pairs.length ≤ 256 by omega), decide_eq_true (show m.way.length ≤ 33 by omega), decide_eq_true (show m.enote.length ≤ 32 by omega)]; rfl)
    have hpl : m.pairs.length ≤ 256 := by omega
    have hyl : m.way.length ≤ 33 := by omega
    clear hq2 hq3 hq4 hq5 hq6 hq7 hq8
    go_wp2_with fail
    clear u6 u78 u79 u80 u81 u82 q2 q3 q4 q4n q5 q5n q6 q6n q7 q7n q8 q8n
    generalize (w2.alloc (.cells #[S m.key, S m.to, S m.val] 9)) = W5 at *
    go_loopw [6] (fun iv wr => ∃ k : Nat, k ≤ m.pairs.length ∧ iv = .int .i64 k ∧ limB m = ((m.pairs.drop k).all fun p => Wm.short p.1 && Wm.short p.2) ∧ Chg (fun _ => False) W5 wr) (fun iv _ => m.pairs.length - (intOf iv).toNat)
    case atStart => exact ⟨0, by omega, rfl, rfl, Chg.refl _ _⟩
    case round =>
      obtain ⟨k, hk, rfl, hall, hc⟩ := hrel
      have u81 := ((BB.out.chg hc (fun h => h)).mf Hm.out.hd).p.trans (congrArg some X2.out)
      by_cases hp : k < m.pairs.length
      case pos =>
        obtain ⟨x, hx⟩ : ∃ x, m.pairs[k]? = some x := ⟨_, List.getElem?_eq_getElem hp⟩
        obtain ⟨b, off, rfl, hcell⟩ := RL.at_ (size := 2) (f := fun x : List UInt8 × List UInt8 => [S x.1, S x.2]) (fun x hm => rfl) (R2b.out.chg hc (fun _ _ _ _ h => h)) hx
        have d1 := hcell 0 _ rfl
        have d2 := hcell 1 _ rfl
        rw [Nat.add_zero] at d1
        rw [any_drop hx] at hall
        have Hall := Lib.hid hall
        have Hc := Lib.hid hc
        have HSh := Lib.hid (fun W3 => rshort_calls (some ⟨W3.heap.size, 0, none⟩) 2 2 [x.1, x.2] (W3.alloc (.cells #[S x.1, S x.2] 9)) (Lst.new W3 9 (strs [x.1, x.2])) (by omega))
        have hsa : [x.1, x.2].all Wm.short = (Wm.short x.1 && Wm.short x.2) := by simp
        rw [hsa] at HSh
        have HShd := Lib.hid (fun (W3 : World) => (show Calls Tryz.prog 64 #[.slice (some ⟨W3.heap.size, 0, none⟩) 2 2] (W3.alloc (.cells #[S x.1, S x.2] 9)).drew fun e w' => e = .returned (.bool (Wm.short x.1 && Wm.short x.2)) ∧ (W3.alloc (.cells #[S x.1, S x.2] 9)).drew = w' by
          have := rshort_calls (some ⟨W3.heap.size, 0, none⟩) 2 2 [x.1, x.2] (W3.alloc (.cells #[S x.1, S x.2] 9)).drew (Lst.new W3 9 (strs [x.1, x.2])) (by omega)
          rw [hsa] at this
          exact this))
        obtain ⟨q, hq⟩ : ∃ q, (Wm.short x.1 && Wm.short x.2) = q := ⟨_, rfl⟩
        rw [hq] at HSh Hall HShd
        clear hall hc hx hcell hsa hq
        cases q
        case false =>
          go_upto_region 14 with fail
          go_region_with (go_at_call 64; first | ((with_reducible refine (HShd.out _).mono ?_); rintro e w4 ⟨rfl, rfl⟩) | ((with_reducible refine (HSh.out _).mono ?_); rintro e w4 ⟨rfl, rfl⟩))
          all_goals
            go_wp2_with fail
            go_ret
            exact ⟨ret_bool (by rw [decide_eq_true Hs.out, HA2.out, Hall.out]; rfl), ((CB.out.trans Hc.out).drewN 1).alloc _⟩
        case true =>
          go_upto_region 14 with fail
          go_region_with (go_at_call 64; first | ((with_reducible refine (HShd.out _).mono ?_); rintro e w4 ⟨rfl, rfl⟩) | ((with_reducible refine (HSh.out _).mono ?_); rintro e w4 ⟨rfl, rfl⟩))
          all_goals
            go_wp2_with fail
            go_roundw
            case rel => exact ⟨k + 1, by omega, by go_num, Hall.out, (Hc.out.drewN 1).alloc _⟩
            case measure => simp [intOf]; omega
      obtain rfl : k = m.pairs.length := by omega
      have HB2 := Lib.hid (show limB m = true by rw [hall, List.drop_length]; rfl)
      have Hc := Lib.hid hc
      clear hall hc
      go_wp2_with fail
      clear u81
      go_loopw [7] (fun iv wx => ∃ k : Nat, k ≤ m.way.length ∧ iv = .int .i64 k ∧ limC m = ((m.way.drop k).all fun n => decide (0 ≤ n ∧ n ≤ 65535)) ∧ Chg (fun _ => False) wr wx) (fun iv _ => m.way.length - (intOf iv).toNat)
      case atStart => exact ⟨0, by omega, rfl, rfl, Chg.refl _ _⟩
      case round =>
        obtain ⟨k, hk, rfl, hall, hc⟩ := hrel
        rename_i wx
        have hcw := Hc.out.trans hc
        have u82 := ((BB.out.chg hcw (fun h => h)).mf Hm.out.hd).y.trans (congrArg some X3.out)
        have u0 := ((BB.out.chg hcw (fun h => h)).mf Hm.out.hd).kind
        have u2 := ((BB.out.chg hcw (fun h => h)).mf Hm.out.hd).code
        by_cases hp : k < m.way.length
        case pos =>
          obtain ⟨x, hx⟩ : ∃ x, m.way[k]? = some x := ⟨_, List.getElem?_eq_getElem hp⟩
          obtain ⟨b, off, rfl, hcell⟩ := RL.at_ (size := 1) (f := fun x : Int => [Value.int .i64 x]) (fun x hm => rfl) (R3b.out.chg hcw (fun _ _ _ _ h => h)) hx
          have d1 := hcell 0 _ rfl
          simp only [Nat.add_zero, Nat.mul_one] at d1
          rw [any_drop hx] at hall
          have Hall := Lib.hid hall
          have Hcw := Lib.hid hcw
          have Hc2 := Lib.hid hc
          clear hall hc hx hcell hcw u0 u2
          by_cases h0 : x < 0
          case pos =>
            have e0 : decide (x < 0) = true := decide_eq_true h0
            have Hx := Lib.hid (show ¬ (0 ≤ x ∧ x ≤ 65535) by omega)
            clear h0
            go_wp2_with fail
            go_ret
            exact ⟨ret_bool (by rw [decide_eq_true Hs.out, HA2.out, HB2.out, Hall.out, decide_eq_false Hx.out]; rfl), CB.out.trans Hcw.out⟩
          have e0 : decide (x < 0) = false := decide_eq_false h0
          by_cases h1 : 65535 < x
          case pos =>
            have e1 : decide (65535 < x) = true := decide_eq_true h1
            have Hx := Lib.hid (show ¬ (0 ≤ x ∧ x ≤ 65535) by omega)
            clear h0 h1
            go_wp2_with fail
            go_ret
            exact ⟨ret_bool (by rw [decide_eq_true Hs.out, HA2.out, HB2.out, Hall.out, decide_eq_false Hx.out]; rfl), CB.out.trans Hcw.out⟩
          have e1 : decide (65535 < x) = false := decide_eq_false h1
          have Hx := Lib.hid (show (0 ≤ x ∧ x ≤ 65535) by omega)
          clear h0 h1
          go_wp2_with fail
          go_roundw
          case rel => exact ⟨k + 1, by omega, by go_num, by rw [Hall.out, decide_eq_true Hx.out]; rfl, Hc2.out⟩
          case measure => simp [intOf]; omega
        obtain rfl : k = m.way.length := by omega
        have HC2 := Lib.hid (show limC m = true by rw [hall, List.drop_length]; rfl)
        have Hcw := Lib.hid (CB.out.trans hcw)
        clear hall hc hcw
        have hk256 := Hm.out.kind
        by_cases h22 : m.kind = 22
        case neg =>
          have e0 : ((m.kind : Int) != 22) = true := by rw [bne_iff_ne]; omega
          have Hx := Lib.hid h22
          clear h22
          go_wp2_with fail
          go_ret
          exact ⟨ret_bool (by rw [decide_eq_true Hs.out, HA2.out, HB2.out, HC2.out]; unfold limD; rw [decide_eq_true Hx.out]; rfl), Hcw.out⟩
        have e0 : ((m.kind : Int) != 22) = false := by rw [h22]; rfl
        have Hx := Lib.hid h22
        by_cases h1 : 1 ≤ m.code
        case neg =>
          have e1 : decide (1 ≤ m.code) = false := decide_eq_false h1
          have Hy := Lib.hid (show ¬ (1 ≤ m.code ∧ m.code ≤ 65535) by omega)
          clear h22 h1
          go_wp2_with fail
          go_ret
          exact ⟨ret_bool (by rw [decide_eq_true Hs.out, HA2.out, HB2.out, HC2.out]; unfold limD; rw [decide_eq_false (fun h => h Hx.out), decide_eq_false Hy.out]; rfl), Hcw.out⟩
        have e1 : decide (1 ≤ m.code) = true := decide_eq_true h1
        by_cases h2 : m.code ≤ 65535
        case neg =>
          have e2 : decide (m.code ≤ 65535) = false := decide_eq_false h2
          have Hy := Lib.hid (show ¬ (1 ≤ m.code ∧ m.code ≤ 65535) by omega)
          clear h22 h1 h2
          go_wp2_with fail
          go_ret
          exact ⟨ret_bool (by rw [decide_eq_true Hs.out, HA2.out, HB2.out, HC2.out]; unfold limD; rw [decide_eq_false (fun h => h Hx.out), decide_eq_false Hy.out]; rfl), Hcw.out⟩
        have e2 : decide (m.code ≤ 65535) = true := decide_eq_true h2
        have Hy := Lib.hid (show (1 ≤ m.code ∧ m.code ≤ 65535) by omega)
        clear h22 h1 h2
        go_wp2_with fail
        go_ret
        exact ⟨ret_bool (by rw [decide_eq_true Hs.out, HA2.out, HB2.out, HC2.out]; unfold limD; rw [decide_eq_false (fun h => h Hx.out), decide_eq_true Hy.out]; rfl), Hcw.out⟩
theorem rmay_calls (m : M) (L : Ls) (w : World) (hm : Nm m) (hl : IsL w m L) : Calls Tryz.prog 34 #[.agg (mcells m L)] w fun e w' => e = .returned (.bool (rmay m)) ∧ Chg (fun _ => False) w w' := by
  cases hf : Wm.fields m.kind with
  | none => exact rmay_none m L w hm hf
  | some l => exact rmay_walk m L l w hm hl hf
end Go.Proofs.YthkfcfkkamffpaaGreat
namespace Go.Proofs.YthkfcfkkamffpaaGreat
open Go.RowKit
set_option linter.unusedVariables false
set_option linter.unusedSimpArgs false
open Wm (M)
attribute [local go_sem ↓] ld_msg st_msg
theorem keep2c {w w' : World} {p q : Addr} {u v : Value} (hc : Chg (fun _ => False) w w') (h : w.cell? p = some u ∧ w.cell? q = some v) : w'.cell? p = some u ∧ w'.cell? q = some v :=
  ⟨keepC hc (fun h => h) h.1, keepC hc (fun h => h) h.2⟩
theorem ref_fixedI (x z : Int) (n k : Nat) (hx : x = n) (hz : z = k) (hn : U64 n) (hk : k ≤ 8) (w : World) : Calls Tryz.prog 35 #[.int .u64 x, .int .i64 z] w fun e w' => e = .returned (S (Pk.be k n)) ∧ Chg (fun _ => False) w w' := by
  subst hx hz; exact ref_fixed n k hn hk w
set_option maxHeartbeats 8000000 in
set_option maxRecDepth 100000 in
theorem renc_no (m : M) (L : Ls) (w : World) (hm : Nm m) (hl : IsL w m L) (h : rmay m = false) : Calls Tryz.prog 15 #[.agg (mcells m L)] w fun e w' => EncE m w w' e := by
  have b0 : IsM (w.alloc (.cells (mcells m L) 36)) w.heap.size m L := Blk.new w 36 (mcells m L)
  have hc0 : Chg (fun _ => False) w (w.alloc (.cells (mcells m L) 36)) := (Chg.refl _ w).alloc _
  have hld := ldM hm.hd b0
  have HM := rmay_calls m L (w.alloc (.cells (mcells m L) 36)) hm (hl.chg hc0 (LOff.no _))
  rw [h] at HM
  have HM := Lib.hid HM
  have B0 := Lib.hid b0
  have C0 := Lib.hid hc0
  have Hm := Lib.hid hm
  unfold EncE
  rw [rmay_no h]
  clear b0 hc0 hm hl h
  go_enter Tryz.func15, Tryz.ntmps15
  go_wp2_with fail
  refine HM.out.mono ?_
  rintro e w1 ⟨rfl, hc⟩
  have C1 := Lib.hid (C0.out.trans hc)
  have B1 := Lib.hid (B0.out.chg hc (fun h => h))
  clear hc hld
  go_wp2_with fail
  go_ret2
  exact ⟨rfl, C1.out⟩
set_option maxHeartbeats 8000000 in
set_option maxRecDepth 100000 in
theorem renc_long (m : M) (L : Ls) (w : World) (hm : Nm m) (hl : IsL w m L) (h : rmay m = true) (hb : 1048576 < m.bytes.length) : Calls Tryz.prog 15 #[.agg (mcells m L)] w fun e w' => EncE m w w' e := by
  have b0 : IsM (w.alloc (.cells (mcells m L) 36)) w.heap.size m L := Blk.new w 36 (mcells m L)
  have hc0 : Chg (fun _ => False) w (w.alloc (.cells (mcells m L) 36)) := (Chg.refl _ w).alloc _
  have hld := ldM hm.hd b0
  have HM := rmay_calls m L (w.alloc (.cells (mcells m L) 36)) hm (hl.chg hc0 (LOff.no _))
  rw [h] at HM
  have HM := Lib.hid HM
  have B0 := Lib.hid b0
  have C0 := Lib.hid hc0
  have Hm := Lib.hid hm
  unfold EncE
  rw [rmay_long h hb]
  have q1 : decide ((1048576 : Int) < (m.bytes.length : Int)) = true := decide_eq_true (by omega)
  have q2 : decide (1048576 < m.bytes.length) = true := decide_eq_true hb
  clear b0 hc0 hm hl h hb
  go_enter Tryz.func15, Tryz.ntmps15
  go_wp2_with fail
  refine HM.out.mono ?_
  rintro e w1 ⟨rfl, hc⟩
  have C1 := Lib.hid (C0.out.trans hc)
  have B1 := Lib.hid (B0.out.chg hc (fun h => h))
  clear hc hld
  have u83 := (B1.out.mf Hm.out.hd).bytes
  go_wp2_with fail
  go_ret2
  exact ⟨rfl, C1.out⟩
set_option maxHeartbeats 8000000 in
set_option maxRecDepth 100000 in
theorem renc_ok (m : M) (L : Ls) (w : World) (hm : Nm m) (hl : IsL w m L) (h : rmay m = true) (hb : ¬ 1048576 < m.bytes.length) : Calls Tryz.prog 15 #[.agg (mcells m L)] w fun e w' => EncE m w w' e := by
  obtain ⟨l, hf, hma, hto, hfit⟩ := rmay_ok h hb
  have b0 : IsM (w.alloc (.cells (mcells m L) 36)) w.heap.size m L := Blk.new w 36 (mcells m L)
  have hc0 : Chg (fun _ => False) w (w.alloc (.cells (mcells m L) 36)) := (Chg.refl _ w).alloc _
  have hld := ldM hm.hd b0
  have HM := rmay_calls m L (w.alloc (.cells (mcells m L) 36)) hm (hl.chg hc0 (LOff.no _))
  rw [h] at HM
  have HM := Lib.hid HM
  have B0 := Lib.hid b0
  have C0 := Lib.hid hc0
  have Hm := Lib.hid hm
  unfold EncE
  have Hl := Lib.hid (hl.chg hc0 (LOff.no _))
  have q1 : decide ((1048576 : Int) < (m.bytes.length : Int)) = false := decide_eq_false (by omega)
  have q2 : decide (1048576 < m.bytes.length) = false := decide_eq_false hb
  have hk256 := hm.kind
  have hi32 := hm.id
  have hw1 : IntKind.u64.wrap (m.kind : Int) = (m.kind : Int) := by rw [IntKind.wrap_u64]; omega
  have hw2 : IntKind.u64.wrap (m.id : Int) = (m.id : Int) := by rw [IntKind.wrap_u64]; omega
  have HF1 := Lib.hid (fun W => ref_fixedI (m.kind : Int) 1 m.kind 1 rfl rfl (by unfold U64; omega) (by omega) W)
  have HF2 := Lib.hid (fun W => ref_fixedI (m.id : Int) 4 m.id 4 rfl rfl (by unfold U64; omega) (by omega) W)
  have HFd := Lib.hid (fun W => rfields_calls m.kind hm.kind W)
  have hfs : fieldS m.kind = l.map letr := by unfold fieldS; rw [hf]
  rw [hfs] at HFd
  have hl4 := fields_len m.kind hf
  obtain ⟨fs, hfs2⟩ : ∃ fs, fs = l.map letr := ⟨_, rfl⟩
  have hfl : fs.length ≤ 4 := by rw [hfs2, List.length_map]; exact hl4
  rw [← hfs2] at HFd
  obtain ⟨hd, hhd⟩ : ∃ hd, Pk.be 1 m.kind ++ Pk.be 4 m.id = hd := ⟨_, rfl⟩
  have hhl : hd.length = 5 := by rw [← hhd, List.length_append, Pk.be_length, Pk.be_length]
  have ha1 := fun w => add_S (Pk.be 1 m.kind) (Pk.be 4 m.id) (by rw [Pk.be_length, Pk.be_length]; omega) w
  rw [hhd] at ha1
  have hbd : hd ++ l.flatMap (Wm.fb m) = Wm.body l m := by rw [← hhd]; rfl
  have Hbd := Lib.hid hbd
  have Hfs := Lib.hid hfs2
  have Hfit := Lib.hid hfit
  have Hf := Lib.hid hf
  have Hma := Lib.hid hma
  have Hto := Lib.hid hto
  have Hl4 := Lib.hid hl4
  clear b0 hc0 hm hl h hb hfs hfs2 hbd hfit hf hma hto hl4 hhd
  go_enter Tryz.func15, Tryz.ntmps15
  go_wp2_with fail
  refine HM.out.mono ?_
  rintro e w1 ⟨rfl, hc⟩
  have C1 := Lib.hid (C0.out.trans hc)
  have B1 := Lib.hid (B0.out.chg hc (fun h => h))
  have C1b := Lib.hid hc
  clear hc hld
  have u83 := (B1.out.mf Hm.out.hd).bytes
  have u0 := (B1.out.mf Hm.out.hd).kind
  have u1 := (B1.out.mf Hm.out.hd).id
  go_upto_region 5 with fail
  go_region_held3 (fun w' => w'.cell? ⟨w.heap.size, 0, none⟩ = some (.int .u8 m.kind) ∧ w'.cell? ⟨w.heap.size, 1, none⟩ = some (.int .u32 m.id))
    (first | exact keep2c hc (by assumption) | exact ⟨u0, u1⟩ | go_keep)
    (first
      | ((go_at_call 35; with_reducible refine (HF1.out _).mono ?_); rintro e w' ⟨rfl, hc⟩)
      | ((go_at_call 35; with_reducible refine (HF2.out _).mono ?_); rintro e w' ⟨rfl, hc⟩))
  rename_i wa ca hH
  have C2 := Lib.hid (((C1.out.drew).trans ca).trans hc)
  have C2b := Lib.hid (((C1b.out.drew).trans ca).trans hc)
  have B2 := Lib.hid (((show IsM w1.drew w.heap.size m L from B1.out).chg ca (fun h => h)).chg hc (fun h => h))
  clear hH ca hc ha1 u0 u1 u83 q1 q2
  rename World => w2
  have u0 := (B2.out.mf Hm.out.hd).kind
  go_wp2_with fail
  refine (HFd.out _).mono ?_
  rintro e w3 ⟨rfl, rfl⟩
  clear u0
  go_wp2_with fail
  go_loopw [4, 6] (fun sv iv wr => ∃ k : Nat, k ≤ fs.length ∧ sv = S (hd ++ (l.take k).flatMap (Wm.fb m)) ∧ iv = .int .i64 k ∧ Chg (fun _ => False) w2 wr) (fun _ iv _ => fs.length - (intOf iv).toNat)
  case atStart => exact ⟨0, by omega, by simp, rfl, Chg.refl _ _⟩
  case round =>
    obtain ⟨k, hk, rfl, rfl, hchg⟩ := hrel
    have hlen : ((l.take k).flatMap (Wm.fb m)).length ≤ 4194400 := by
      have h1 := flat_len (Wm.fb m) 1048600 (l.take k) (fun c hc => fb_len Hm.out.ok (Hfit.out c (List.mem_of_mem_take hc)))
      rw [List.length_take] at h1
      have := Hl4.out
      have h2 : min k l.length * 1048600 ≤ 4 * 1048600 := Nat.mul_le_mul_right _ (by omega)
      omega
    by_cases hp : k < fs.length
    case pos =>
      obtain ⟨b, hb, hget, -⟩ := byte_at fs hp
      obtain ⟨c, hc⟩ : ∃ c, l[k]? = some c := ⟨_, List.getElem?_eq_getElem (by have := Hfs.out; rw [this, List.length_map] at hp; exact hp)⟩
      obtain rfl : b = letr c := by rw [Hfs.out, List.getElem?_map, hc] at hb; injection hb with hb; exact hb.symm
      have hfc := Hfit.out c (List.mem_of_getElem? hc)
      have hfl2 := fb_len Hm.out.ok hfc
      have hsn : (l.take (k + 1)).flatMap (Wm.fb m) = (l.take k).flatMap (Wm.fb m) ++ Wm.fb m c := by rw [List.take_add_one, hc]; simp
      have Hsn := Lib.hid hsn
      obtain ⟨sa, hsa⟩ : ∃ sa, hd ++ (l.take k).flatMap (Wm.fb m) = sa := ⟨_, rfl⟩
      have hsl : sa.length ≤ 4194405 := by rw [← hsa, List.length_append]; omega
      rw [hsa]
      have Hsa := Lib.hid hsa
      have ha1 := fun w => add_S sa (Wm.fb m c) (by omega) w
      have hld1 := ldM (w := wr.drew) Hm.out.hd (B2.out.chg hchg.drew (fun h => h))
      have HW := Lib.hid (rfield_calls c m L wr.drew Hm.out (Hl.out.chg (C2b.out.trans hchg.drew) (LOff.no _)) hfc)
      have Hchg := Lib.hid hchg
      have hk0 : (0 : Int) ≤ (k : Int) := Int.natCast_nonneg k
      have hk1 : (k : Int) < (fs.length : Int) := by omega
      clear hsn hsa hfc hfl2 hb hchg hc hlen hsl
      go_upto_region 10 with fail
      go_region_with (go_at_call 37; refine HW.out.mono ?_; rintro e w5 ⟨rfl, hc5⟩)
      all_goals
        go_wp2_with fail
        go_roundw
        case rel => exact ⟨k + 1, by omega, by rw [Hsn.out, ← List.append_assoc, Hsa.out], by go_num, (Hchg.out.drew).trans hc5⟩
        case measure => simp [intOf]; omega
    obtain rfl : k = fs.length := by omega
    have hll : l.take fs.length = l := by rw [Hfs.out, List.length_map, List.take_length]
    rw [hll, Hbd.out]
    rw [hll] at hlen
    have hbl : (Wm.body l m).length ≤ 4194405 := by rw [← Hbd.out, List.length_append]; omega
    obtain ⟨bd, hbd⟩ : ∃ bd, Wm.body l m = bd := ⟨_, rfl⟩
    rw [hbd] at hbl ⊢
    have HBd := Lib.hid hbd
    have Hchg := Lib.hid (C2.out.trans hchg)
    clear hchg hll hlen hbd
    have hfol := fore_len bd
    have HF3 := Lib.hid (fun W => ref_fixedI ((bd.length : Int) + 4) 4 (bd.length + 4) 4 rfl rfl (by unfold U64; omega) (by omega) W)
    have hcv : IntKind.u64.wrap ((bd.length : Int) + 4) = (bd.length : Int) + 4 := by rw [IntKind.wrap_u64]; omega
    have hfo : Pk.be 4 ((bd.length : Int) + 4) ++ bd = fore bd := by unfold fore; simp only [Int.natCast_add]; rfl
    have ha3 := fun w => add_S (Pk.be 4 ((bd.length : Int) + 4)) bd (by rw [Pk.be_length]; omega) w
    rw [hfo] at ha3
    have HCr := Lib.hid (fun W => rcrc_calls (fore bd) W (by rw [hfol]; omega))
    have hu32 := Crc.u32_crc (fore bd)
    unfold Crc.U32 at hu32
    have HFr := Lib.hid (show fore bd ++ Pk.be 4 ((Crc.crc (fore bd) : Nat) : Int) = frame bd from rfl)
    obtain ⟨cr, hcr⟩ : ∃ cr, Crc.crc (fore bd) = cr := ⟨_, rfl⟩
    rw [hcr] at HCr hu32 HFr
    have HF4 := Lib.hid (fun W => ref_fixedI (cr : Int) 4 cr 4 rfl rfl (by unfold U64; omega) (by omega) W)
    have hcv2 : IntKind.u64.wrap (cr : Int) = (cr : Int) := by rw [IntKind.wrap_u64]; omega
    obtain ⟨fo, hfoq⟩ : ∃ fo, fore bd = fo := ⟨_, rfl⟩
    rw [hfoq] at ha3 HCr HFr hfol
    have ha4 := fun w => add_S fo (Pk.be 4 (cr : Int)) (by rw [Pk.be_length]; omega) w
    rw [HFr.out] at ha4
    have hfo4 : fo.length ≤ 4194409 := by omega
    have Hfol := Lib.hid hfol
    clear hfo hcr hfoq hfol
    go_wp2_with fail
    refine (HF3.out _).mono ?_
    rintro e w6 ⟨rfl, hc6⟩
    have C6 := Lib.hid (Hchg.out.trans hc6)
    clear hc6
    by_cases hbig : 1048576 < bd.length + 8
    case pos =>
      have he := enc_of_big Hf.out Hma.out Hto.out (by rw [HBd.out]; exact hbig)
      have q1 : decide ((1048576 : Int) < (fo.length : Int) + 4) = true := decide_eq_true (by have := Hfol.out; omega)
      have He := Lib.hid he
      clear he hbig
      go_wp2_with fail
      go_ret2
      exact ⟨by rw [He.out]; rfl, C6.out⟩
    case neg =>
      have he := enc_of_ok Hf.out Hma.out Hto.out (by rw [HBd.out]; exact hbig)
      rw [HBd.out] at he
      have q1 : decide ((1048576 : Int) < (fo.length : Int) + 4) = false := decide_eq_false (by have := Hfol.out; omega)
      have He := Lib.hid he
      clear he hbig
      go_wp2_with fail
      refine (HCr.out _).mono ?_
      rintro e w7 ⟨rfl, rfl⟩
      go_wp2_with fail
      refine (HF4.out _).mono ?_
      rintro e w8 ⟨rfl, hc8⟩
      go_wp2_with fail
      go_ret2
      exact ⟨by rw [He.out]; rfl, C6.out.trans hc8⟩
theorem rencode_calls (m : M) (L : Ls) (w : World) (hm : Nm m) (hl : IsL w m L) : Calls Tryz.prog 15 #[.agg (mcells m L)] w fun e w' => EncE m w w' e := by
  cases h : rmay m
  · exact renc_no m L w hm hl h
  · by_cases hb : 1048576 < m.bytes.length
    · exact renc_long m L w hm hl h hb
    · exact renc_ok m L w hm hl h hb
end Go.Proofs.YthkfcfkkamffpaaGreat
