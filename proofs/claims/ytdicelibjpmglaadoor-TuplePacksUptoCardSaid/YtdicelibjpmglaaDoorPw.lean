/-
  Layer 3: the walk of TuplePacks.
-/
import Derived.Test.YtdicelibjpmglaaDoorRq
import Derived.Test.YtdicelibjpmglaaDoorPm
namespace Go.Proofs.YtdicelibjpmglaaDoor
open Go.RowKit
set_option linter.unusedVariables false
set_option linter.unusedSimpArgs false
attribute [local go_sem] run_store_float
open Tp (It)

theorem mix_set {α : Type} {l' l : List α} {i : Nat} {x : α} (h : l'[i]? = some x) (hi : i < l.length) : l'.take (i + 1) ++ l.drop (i + 1) = (l'.take i ++ l.drop i).set i x := by
  have hl : i < l'.length := (List.getElem?_eq_some_iff.1 h).1
  have e : (l'.take i).length = i := by rw [List.length_take]; omega
  rw [take_snoc h, List.drop_eq_getElem_cons hi, List.set_append_right _ _ (by omega), e, Nat.sub_self]
  simp only [List.append_assoc, List.singleton_append, List.set_cons_zero]
theorem mix_length {α : Type} (l' l : List α) {i : Nat} (h' : i ≤ l'.length) (h : i ≤ l.length) : (l'.take i ++ l.drop i).length = l.length := by
  rw [List.length_append, List.length_take, List.length_drop]; omega
theorem sz_drop_le (l : List It) (i : Nat) : Tp.sz (l.drop i) ≤ Tp.sz l := by
  have := Tp.sz_append (l.take i) (l.drop i)
  rw [List.take_append_drop] at this
  omega
theorem Lent.open_ {w : World} {B : Nat} {v : Value} {l : List It} (h : Lent w B v l) : ∃ (g cap : Nat) (vs : List Value), B ≤ g ∧ v = .slice (some ⟨g, 0, none⟩) l.length cap ∧ vs.length = l.length ∧ l.length ≤ 10000 ∧ l.length + 5 ≤ cap ∧ cap ≤ maxLen ∧
    (∀ (k : Nat) (b : Bool) (n : Int) (f : Nat) (t : List UInt8) (ls : List It), It.mk k b n f t ls ∈ l → InIt k n f t) ∧
    w.ownsRow g 37 6 (.slice (some ⟨g, 0, none⟩) (l.length + 5) cap) (l.length + 5) (ics l vs ++ marks 5) ∧
    (∀ (i k : Nat) (b : Bool) (n : Int) (f : Nat) (t : List UInt8) (ls : List It) (v : Value), l[i]? = some (It.mk k b n f t ls) → vs[i]? = some v → (v = .slice none 0 0 ∧ ls = []) ∨ Lent w (g + 1) v ls) := by
  cases h with
  | mk _ g cap l vs hB hl hlen hin own hr0 hr =>
    have hcap : l.length + 5 ≤ cap ∧ cap ≤ maxLen := by
      rcases own.2 with ⟨h, -⟩ | ⟨g', cap', cur, h, -, -, hc, hcm, -⟩
      · cases h
      · injection h with h1 h2 h3; omega
    refine ⟨g, cap, vs, hB, rfl, hl, hlen, hcap.1, hcap.2, hin, own, fun i k b n f t ls v h1 h2 => ?_⟩
    by_cases hv : v = .slice none 0 0
    · subst hv; exact .inl ⟨rfl, hr0 i k b n f t ls h1 h2⟩
    · exact .inr (hr i k b n f t ls v h1 h2 hv)
/-- the mixed row as the loop leaves it -/
theorem mixed_row {W w8 wr : World} {g cap i c c' : Nat} {A' : Option Addr} {l l' : List It} {vs vs' : List Value} (hrow' : Row W W.heap.size (.slice A' c c') l') (hc8 : Chg (fun _ => False) W w8) (hg : W.heap.size ≤ g) (hcr : Chg (fun k => k = g) w8 wr)
    (hl : vs.length = l.length) (hl' : vs'.length = l'.length) (hlen : l.length ≤ 10000) (hi : i ≤ l.length) (hi' : i ≤ l'.length)
    (hin : ∀ (k : Nat) (b : Bool) (n : Int) (f : Nat) (t : List UInt8) (ls : List It), It.mk k b n f t ls ∈ l → InIt k n f t)
    (hv' : ∀ (i k : Nat) (b : Bool) (m : Int) (f : Nat) (t : List UInt8) (ls : List It), l'[i]? = some (It.mk k b m f t ls) →
      ∃ (g off : Nat) (v : Value), A' = some ⟨g, off, none⟩ ∧ g < W.heap.size ∧ vs'[i]? = some v ∧ InIt k m f t ∧ Row W W.heap.size v ls ∧ ∀ (j : Nat) (u : Value), (icells k b m f t v)[j]? = some u → W.cell? ⟨g, off + i * 6 + j, none⟩ = some u)
    (own : wr.ownsRow g 37 6 (.slice (some ⟨g, 0, none⟩) (l.length + 5) cap) (l.length + 5) (ics (l'.take i ++ l.drop i) (vs'.take i ++ vs.drop i) ++ marks 5))
    (hsub : ∀ (i k : Nat) (b : Bool) (n : Int) (f : Nat) (t : List UInt8) (ls : List It) (v : Value), l[i]? = some (It.mk k b n f t ls) → vs[i]? = some v → (v = .slice none 0 0 ∧ ls = []) ∨ Lent w8 (g + 1) v ls) :
    Row wr wr.heap.size (.slice (some ⟨g, 0, none⟩) l.length cap) (l'.take i ++ l.drop i) := by
  have hml := mix_length l' l hi' hi
  have hmv := mix_length vs' vs (i := i) (by omega) (by omega)
  have key : Row wr wr.heap.size (.slice (some ⟨g, 0, none⟩) (l'.take i ++ l.drop i).length cap) (l'.take i ++ l.drop i) := by
    refine mix_row (l := l'.take i ++ l.drop i) (vs := vs'.take i ++ vs.drop i) (by rw [hml, hmv]; exact hl) (by rw [hml]; exact hlen) ?_ (by rw [hml]; exact own) ?_
    · intro k b n f t ls hm
      rcases List.mem_append.1 hm with h | h
      · obtain ⟨j, hj⟩ := List.mem_iff_getElem?.1 (List.mem_of_mem_take h)
        obtain ⟨_, _, _, -, -, -, h4, -, -⟩ := hv' j k b n f t ls hj
        exact h4
      · exact hin k b n f t ls (List.mem_of_mem_drop h)
    · intro j k b n f t ls v h1 h2
      have e1 : (l'.take i).length = i := by rw [List.length_take]; omega
      have e2 : (vs'.take i).length = i := by rw [List.length_take]; omega
      rcases Nat.lt_or_ge j i with hj | hj
      · rw [List.getElem?_append_left (by rw [e1]; exact hj), List.getElem?_take, if_pos hj] at h1
        rw [List.getElem?_append_left (by rw [e2]; exact hj), List.getElem?_take, if_pos hj] at h2
        obtain ⟨_, _, v2, -, -, h3, -, h5, -⟩ := hv' j k b n f t ls h1
        rw [h3] at h2
        injection h2 with h2
        subst h2
        exact ((h5.chg (Nat.le_refl _) hc8 (fun _ _ h => h)).chg hc8.size hcr (fun k hk e => by omega)).mono (Nat.le_trans hc8.size hcr.size)
      · rw [List.getElem?_append_right (by rw [e1]; exact hj), e1, List.getElem?_drop] at h1
        rw [List.getElem?_append_right (by rw [e2]; exact hj), e2, List.getElem?_drop] at h2
        rcases hsub _ k b n f t ls v h1 h2 with ⟨rfl, rfl⟩ | h3
        · exact .nil none 0 (fun _ => rfl)
        · exact (h3.keep hcr (fun k hk e => by omega)).row
  rw [hml] at key
  exact key

set_option maxHeartbeats 8000000 in
set_option maxRecDepth 100000 in
theorem tuplePacks_walk {v v' : Value} {l l' : List It} (W : World) (hsh : W.ShapedOpen Tryd.prog) (hrow : Row W W.heap.size v l) (hrow' : Row W W.heap.size v' l') (hs : Tp.sz l ≤ 100000000000) (hn : Tp.cnt l ≤ 1048576) (hs' : Tp.sz l' ≤ 100000000000) (hn' : Tp.cnt l' ≤ 1048576) :
    Calls Tryd.prog 4 #[v, v'] W fun e w' => e = .returned (.bool true) ∧ Chg (fun _ => False) W w' := by
  obtain ⟨m, hm⟩ := (Tryd.laysM143).s1_3 W hsh
  have hltm := World.block_lt_of_cell? _ _ hm
  have hG : Glob W W.heap.size := ⟨⟨m, hm⟩, hltm⟩
  have KK : ∀ w2, Chg (fun _ => False) W w2 → Keep W W.heap.size w2 := fun w2 hc => (Keep.refl W _ (Nat.le_refl _)).chg hc (fun k hkB e => e)
  have HA := Lib.hid (fun w2 (hc : Chg (fun _ => False) W w2) => awake_calls w2 m ((hc.cell hltm (fun h => h)).trans hm))
  have P1 := Lib.hid (fun w2 (hc : Chg (fun _ => False) W w2) => pack_calls hrow hG w2 (KK w2 hc) (by omega))
  have P2 := Lib.hid (fun w2 (hc : Chg (fun _ => False) W w2) => rpack_calls hrow w2 (KK w2 hc) (by omega))
  have HV := Lib.hid (fun w2 (hc : Chg (fun _ => False) W w2) => vast_calls hrow w2 (KK w2 hc) hn)
  have HV2 := Lib.hid (fun w2 (hc : Chg (fun _ => False) W w2) => vast_calls hrow' w2 (KK w2 hc) hn')
  have HL := Lib.hid (fun (h : Tp.cnt l ≤ 10000) w2 (hc : Chg (fun _ => False) W w2) => lent_calls _ _ _ _ _ hrow w2 (KK w2 hc) (Nat.lt_succ_self _) h)
  have P3 := Lib.hid (fun w2 B v' (h : Lent w2 B v' l) (hc : Chg (fun _ => False) W w2) => pack_calls h.row ⟨⟨m, (hc.cell hltm (fun h => h)).trans hm⟩, Nat.lt_of_lt_of_le hltm hc.size⟩ w2 (Keep.refl w2 _ (Nat.le_refl _)) (by omega))
  have HK := Lib.hid (fun w2 (hc : Chg (fun _ => False) W w2) B v' (h : Lent w2 B v' l) => kept_calls _ w2 B v' v l h (hrow.here hc) (Nat.lt_succ_self _))
  have P4 := Lib.hid (fun (ml : List It) (hml : Tp.sz ml ≤ 1000000000000) wr vm w2 (h : Row wr wr.heap.size vm ml) (hw : wr.cell? ⟨1, 0, none⟩ = some (.int .i64 m)) (hc : Chg (fun _ => False) wr w2) =>
    pack_calls h ⟨⟨m, hw⟩, World.block_lt_of_cell? _ _ hw⟩ w2 ((Keep.refl wr _ (Nat.le_refl _)).chg hc (fun k hkB e => e)) hml)
  have P5 := Lib.hid (fun (ml : List It) (hml : Tp.sz ml ≤ 1000000000000) wr vm w2 (h : Row wr wr.heap.size vm ml) (hc : Chg (fun _ => False) wr w2) =>
    rpack_calls h w2 ((Keep.refl wr _ (Nat.le_refl _)).chg hc (fun k hkB e => e)) hml)
  obtain ⟨A, cap, rfl, -, hl1⟩ := hrow.slice
  obtain ⟨A', cap', rfl, -, hl1'⟩ := hrow'.slice
  have Hrow' := Lib.hid hrow'
  have Hm := Lib.hid hm
  have Hs := Lib.hid (And.intro hs hs')
  obtain ⟨c, hc⟩ : ∃ c, Tp.check l = c := ⟨_, rfl⟩
  obtain ⟨p, hp⟩ : ∃ p, Tp.pack l = p := ⟨_, rfl⟩
  rw [hc, hp] at P1 P2 P3
  clear hrow hrow' hs hs' hc hp hm hG KK hsh hn hn'
  have tail : ∀ (b1 b2 : Bool), decide (10000 < Tp.cnt l) = b1 → decide (10000 < Tp.cnt l') = b2 → b1 = true ∨ b2 = true →
      Calls Tryd.prog 4 #[.slice A l.length cap, .slice A' l'.length cap'] W fun e w' => e = .returned (.bool true) ∧ Chg (fun _ => False) W w' := by
    intro b1 b2 h1 h2 h12
    rw [h1] at HV
    rw [h2] at HV2
    clear HL P3 HK P4 P5 h1 h2
    go_enter Tryd.func4, Tryd.ntmps4
    go_wp2_with fail
    refine (P2.out _ (Chg.refl _ _)).mono ?_
    rintro e w1 ⟨rfl, h1⟩
    go_wp2_with fail
    refine (P1.out _ h1).mono ?_
    rintro e w2 ⟨rfl, h2⟩
    have h2 := h1.trans h2
    go_wp2_with fail
    refine (HA.out _ h2).mono ?_
    rintro e w3 ⟨rfl, h3⟩
    have h3 := h2.trans h3
    go_wp2_with fail
    refine (HV.out _ h3).mono ?_
    rintro e w4 ⟨rfl, h4⟩
    have h4 := h3.trans h4
    cases b1
    · obtain rfl : b2 = true := by simpa using h12
      go_wp2_with fail
      refine (HV2.out _ h4).mono ?_
      rintro e w5 ⟨rfl, h5⟩
      have h5 := h4.trans h5
      go_wp2_with fail
      go_ret
      exact ⟨rfl, h5⟩
    · go_wp2_with fail
      go_ret
      exact ⟨rfl, h4⟩
  by_cases hb : 10000 < Tp.cnt l
  · exact tail _ _ (decide_eq_true hb) rfl (.inl rfl)
  by_cases hb' : 10000 < Tp.cnt l'
  · exact tail _ _ rfl (decide_eq_true hb') (.inr rfl)
  clear tail
  rw [decide_eq_false hb] at HV
  rw [decide_eq_false hb'] at HV2
  have HL := Lib.hid ((HL.out) (by omega))
  clear hb hb'
  go_enter Tryd.func4, Tryd.ntmps4
  go_wp2_with fail
  refine (P2.out _ (Chg.refl _ _)).mono ?_
  rintro e w1 ⟨rfl, h1⟩
  go_wp2_with fail
  refine (P1.out _ h1).mono ?_
  rintro e w2 ⟨rfl, h2⟩
  have h2 := h1.trans h2
  go_wp2_with fail
  refine (HA.out _ h2).mono ?_
  rintro e w3 ⟨rfl, h3⟩
  have h3 := h2.trans h3
  go_wp2_with fail
  refine (HV.out _ h3).mono ?_
  rintro e w4 ⟨rfl, h4⟩
  have h4 := h3.trans h4
  go_wp2_with fail
  refine (HV2.out _ h4).mono ?_
  rintro e w5 ⟨rfl, h5⟩
  have h5 := h4.trans h5
  go_wp2_with fail
  refine (HL.out _ h5).mono ?_
  rintro e w6 ⟨u1, rfl, hl6, h6⟩
  have h6 := h5.trans h6
  have hgb := h5.size
  obtain ⟨g1, c1, hu1⟩ := hl6.form
  subst hu1
  go_wp2_with fail
  refine (P3.out _ _ _ hl6 h6).mono ?_
  rintro e w7 ⟨rfl, h7⟩
  have h7' := h6.trans h7
  have hl7 := hl6.keep h7 (fun _ _ h => h)
  go_wp2_with fail
  refine (HK.out _ h7' _ _ hl7).mono ?_
  rintro e w8 ⟨rfl, h8⟩
  have h8' := h7'.trans h8
  have hl8 := hl7.keep h8 (fun _ _ h => h)
  obtain ⟨g, cap8, vs, hg, hv8, hvl, hll, hcap8, hcm8, hin8, own8, hsub8⟩ := hl8.open_
  obtain ⟨rfl, rfl⟩ : g1 = g ∧ c1 = cap8 := by
    injection hv8 with a1 a2 a3
    injection a1 with a1
    injection a1 with a1
    exact ⟨a1, a3⟩
  obtain ⟨vs', hvl', hv'⟩ := (Hrow'.out).vals
  have Hown8 := Lib.hid own8
  have Hsub8 := Lib.hid hsub8
  have Hin8 := Lib.hid hin8
  have Hv' := Lib.hid hv'
  have Hvl := Lib.hid (And.intro hvl hvl')
  have Hc8 := Lib.hid h8'
  have hgW : W.heap.size ≤ g1 := by omega
  unfold maxLen at hcm8
  clear h1 h2 h3 h4 h5 h6 h7 h7' h8 h8' hl6 hl7 hl8 own8 hsub8 hin8 hv' hvl hvl' hv8 P1 P2 P3 HA HV HV2 HL HK hg hgb
  go_wp2_with fail
  go_loopw [10] (fun iv wr => ∃ i : Nat, i ≤ l.length ∧ i ≤ l'.length ∧ iv = .int .i64 i ∧ wr.ownsRow g1 37 6 (.slice (some ⟨g1, 0, none⟩) (l.length + 5) c1) (l.length + 5) (ics (l'.take i ++ l.drop i) (vs'.take i ++ vs.drop i) ++ marks 5) ∧ Chg (fun k => k = g1) w8 wr) (fun iv _ => l.length - (intOf iv).toNat)
  case atStart => exact ⟨0, by omega, by omega, rfl, by simpa using Hown8.out, Chg.refl _ _⟩
  case round =>
    obtain ⟨i, hi, hi', rfl, hown, hc⟩ := hrel
    by_cases hlt : i < l.length ∧ i < l'.length
    · obtain ⟨hlt, hlt'⟩ := hlt
      obtain ⟨⟨xk, xb, xn, xf, xt, xl⟩, hx⟩ : ∃ x, l'[i]? = some x := ⟨_, List.getElem?_eq_getElem hlt'⟩
      obtain ⟨gr, off, xv, rfl, hgr, hxv, hin1, hr1, hcells⟩ := (Hv'.out) i xk xb xn xf xt xl hx
      have hk' : ∀ q u, (icells xk xb xn xf xt xv)[q]? = some u → wr.cell? ⟨gr, off + i * 6 + q, none⟩ = some u := fun q u hq => by
        have e1 := (Hc8.out).cell (p := ⟨gr, off + i * 6 + q, none⟩) hgr (fun h => h)
        have e2 := hc.cell (p := ⟨gr, off + i * 6 + q, none⟩) (Nat.lt_of_lt_of_le hgr (Hc8.out).size) (fun h => by have h : gr = g1 := h; omega)
        exact e2.trans (e1.trans (hcells q u hq))
      have c0 := hk' 0 _ rfl
      have c1' := hk' 1 _ rfl
      have c2 := hk' 2 _ rfl
      have c3 := hk' 3 _ rfl
      have c4 := hk' 4 _ rfl
      have c5 := hk' 5 _ rfl
      rw [Nat.add_zero] at c0
      obtain ⟨Ax, xcap, rfl, -, -⟩ := hr1.slice
      have hcell : ∀ q, q < 6 → ∃ u, wr.cell? ⟨g1, i * 6 + q, none⟩ = some u := fun q hq => by
        have h1 := hown.cellAt (i * 6 + q) (by omega)
        rw [h1]
        exact ⟨_, List.getElem?_eq_getElem (by have := hown.1; omega)⟩
      obtain ⟨u0, e0⟩ := hcell 0 (by omega)
      obtain ⟨u1, e1⟩ := hcell 1 (by omega)
      obtain ⟨u2, e2⟩ := hcell 2 (by omega)
      obtain ⟨u3, e3⟩ := hcell 3 (by omega)
      obtain ⟨u4, e4⟩ := hcell 4 (by omega)
      obtain ⟨u5, e5⟩ := hcell 5 (by omega)
      rw [Nat.add_zero] at e0
      have f0 := hown.frozenAt (i * 6)
      have f1 := hown.frozenAt (i * 6 + 1)
      have f2 := hown.frozenAt (i * 6 + 2)
      have f3 := hown.frozenAt (i * 6 + 3)
      have f4 := hown.frozenAt (i * 6 + 4)
      have f5 := hown.frozenAt (i * 6 + 5)
      have hst := (((((hown.stored (i * 6) (.int .u8 xk)).1.stored (i * 6 + 1) (.bool xb)).1.stored (i * 6 + 2) (.int .i64 xn)).1.stored (i * 6 + 3) (.float .f64 xf)).1.stored (i * 6 + 4) (S xt)).1.stored (i * 6 + 5) (.slice Ax xl.length xcap)
      have hst := hst.1
      have hml := mix_length l' l hi' hi
      have hmv := mix_length vs' vs (i := i) (by have := (Hvl.out).2; omega) (by have := (Hvl.out).1; omega)
      rw [ics_set _ _ _ (by rw [hml, hmv]; exact (Hvl.out).1) i xk xb xn xf xt xl (.slice Ax xl.length xcap) (by omega), ← mix_set hx hlt, ← mix_set hxv (by rw [(Hvl.out).1]; exact hlt)] at hst
      have Hst := Lib.hid hst
      have Hc := Lib.hid hc
      clear hst hml hmv hown hc hcells hk' hr1 hin1 hx hxv hcell
      go_wp2_with fail
      go_roundw
      case rel =>
        refine ⟨i + 1, by omega, by omega, by go_num, Hst.out, ?_⟩
        exact ((((((Hc.out).setCell (.inl rfl) _).setCell (.inl rfl) _).setCell (.inl rfl) _).setCell (.inl rfl) _).setCell (.inl rfl) _).setCell (.inl rfl) _
      case measure => simp [intOf]; omega
    · have hR := mixed_row Hrow'.out Hc8.out hgW hc (Hvl.out).1 (Hvl.out).2 hll hi hi' Hin8.out Hv'.out hown Hsub8.out
      have hsz : Tp.sz (l'.take i ++ l.drop i) ≤ 1000000000000 := by
        rw [Tp.sz_append]
        have := Tp.sz_take_le l' i
        have := sz_drop_le l i
        have := Hs.out
        omega
      have hmw : wr.cell? ⟨1, 0, none⟩ = some (.int .i64 m) := by
        have e1 := (Hc8.out).cell (p := ⟨1, 0, none⟩) hltm (fun h => h)
        have e2 := hc.cell (p := ⟨1, 0, none⟩) (Nat.lt_of_lt_of_le hltm (Hc8.out).size) (fun h => by have h : 1 = g1 := h; have h2 : 1 < W.heap.size := hltm; omega)
        exact e2.trans (e1.trans Hm.out)
      have Q4 := Lib.hid (fun w2 (h : Chg (fun _ => False) wr w2) => (P4.out) _ hsz wr _ w2 hR hmw h)
      have Q5 := Lib.hid (fun w2 (h : Chg (fun _ => False) wr w2) => (P5.out) _ hsz wr _ w2 hR h)
      obtain ⟨z, hz⟩ : ∃ z, Tp.pack (l'.take i ++ l.drop i) = z := ⟨_, rfl⟩
      obtain ⟨cz, hcz⟩ : ∃ cz, Tp.check (l'.take i ++ l.drop i) = cz := ⟨_, rfl⟩
      rw [hz, hcz] at Q4 Q5
      have Hc := Lib.hid ((Hc8.out).andThen hc (fun k hk e => by omega))
      clear hR hsz hmw hz hcz hown hc P4 P5
      have t1 : decide (i < l.length) = false ∨ (decide (i < l.length) = true ∧ decide (i < l'.length) = false) := by
        rcases Nat.lt_or_ge i l.length with h | h
        · right; exact ⟨decide_eq_true h, decide_eq_false (fun h' => hlt ⟨h, h'⟩)⟩
        · left; exact decide_eq_false (by omega)
      clear hlt
      rcases t1 with t1 | ⟨t1, t2⟩
      all_goals
        go_wp2_with fail
        refine ((Q5.out) _ (Chg.refl _ _)).mono ?_
        rintro e w9 ⟨rfl, h9⟩
        go_wp2_with fail
        refine ((Q4.out) _ h9).mono ?_
        rintro e w10 ⟨rfl, h10⟩
        go_wp2_with fail
        go_ret
        exact ⟨rfl, ((Hc.out).trans h9).trans h10⟩
end Go.Proofs.YtdicelibjpmglaaDoor
