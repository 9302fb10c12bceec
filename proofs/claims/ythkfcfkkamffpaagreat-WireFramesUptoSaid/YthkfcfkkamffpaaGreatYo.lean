/-
  Layer 27: the program's Decode of a whole frame.
-/
import Derived.Test.YthkfcfkkamffpaaGreatYn
import Derived.Test.YthkfcfkkamffpaaGreatZc
import Derived.Deep.RegionHeld3
import Derived.BigRegion
namespace Go.Proofs.YthkfcfkkamffpaaGreat
open Go.RowKit
set_option linter.unusedVariables false
set_option linter.unusedSimpArgs false
open Wm (M)
theorem OwnL.isl {w : World} {b : Nat} {m : M} {L : Ls} (h : OwnL w b m L) : IsL w m L := by
  have key : ∀ {e : TypeId} {size n : Nat} {v : Value} {xs : List Value}, w.ownsRow b e size v n xs → LR w size v n xs := fun {e size n v xs} ho => by
    obtain ⟨hl, ho⟩ := ho
    rcases ho with ⟨hv, hn⟩ | ⟨g, cap, cur, hv, hg, hb, hc, hx⟩
    · subst hn
      exact ⟨none, 0, hv, by simpa using hl, fun h => absurd h (Nat.lt_irrefl 0)⟩
    · obtain ⟨h1, h2, h3⟩ := hx
      refine ⟨some ⟨g, 0, none⟩, cap, hv, hl, fun _ => ⟨g, 0, rfl, fun j u hu => ?_⟩⟩
      rw [Nat.zero_add, cell_of_row w g j cur e (0, 0) hb]
      rw [← h3, List.getElem?_take] at hu
      split at hu
      · simpa using hu
      · cases hu
  exact ⟨key h.t, key h.s, key h.p, key h.y⟩
theorem leaves_put {R : Ending → World → Prop} {t t' : Array Value} (h2 : t.getD 2 undef = t'.getD 2 undef) (h3 : t.getD 3 undef = t'.getD 3 undef) : ∀ (ds : List Deferred) (u : FrameMode) (w : World),
    Leaves Tryz.prog Tryz.f22 t R ds u w → Leaves Tryz.prog Tryz.f22 t' R ds u w
  | [], .returning, w, h => by
    obtain ⟨v, h4, h5⟩ := h
    refine ⟨v, ?_, h5⟩
    have h2' : t[2]?.getD undef = t'[2]?.getD undef := by simpa using h2
    have h3' : t[3]?.getD undef = t'[3]?.getD undef := by simpa using h3
    simp only [results, Tryz.results22] at h4 ⊢
    simpa [h2', h3'] using h4
  | [], .panicking _, _, h => h
  | [], .run, _, h => h
  | d :: ds, u, w, h => by
    obtain ⟨hu, fv, cap, f, args, e, hi, hc⟩ := h
    refine ⟨hu, fv, cap, f, args, e, hi, hc.mono fun e u' w' h => ?_⟩
    cases e with
    | returned v => exact leaves_put h2 h3 ds _ _ h
    | panicked c => exact leaves_put h2 h3 ds _ _ h
    | outgrown => exact h
theorem dec_put {R : Ending → World → Prop} {c : List PanicEntry} {a : Act} {d : Nat} {v : Value} {w : World} (n2 : d ≠ 2) (n3 : d ≠ 3) (h : bodyPostD Tryz.prog Tryz.f22 R (Exit.panic c) (a.put (some d) v) w) : bodyPostD Tryz.prog Tryz.f22 R (Exit.panic c) a w :=
  leaves_put (t := a.tmps.setIfInBounds d v) (by simp [Array.getElem?_setIfInBounds, n2]) (by simp [Array.getElem?_setIfInBounds, n3]) _ _ _ h
attribute [local go_sem ↓] ld_msg st_msg st_part
set_option maxHeartbeats 8000000 in
set_option maxRecDepth 100000 in
theorem dec_whole (s : List UInt8) (w : World) (h4 : 4 ≤ s.length) (hsl : s.length ≤ 1000000000) (hf : (foll s).2 = 0) (hl : ¬ s.length - 4 < (foll s).1) : Calls Tryz.prog 22 #[S s] w fun e w' => DecE s w w' e := by
  have d4 : decide ((s.length : Int) < 4) = false := decide_eq_false (by omega)
  have d4' : decide (s.length < 4) = false := decide_eq_false (by omega)
  have h2 := w0_msg w
  have h3 := w0_err w
  have hc := w0_chg w
  have hz0 := w0_size w
  have HF := Lib.hid (fun w => follow_calls s w h4 (by omega))
  unfold FolE at HF
  have Hlen := Lib.hid (fun h => dec_len h4 hf hl h)
  have Hbody := Lib.hid (fun h => dec_body h4 hf h)
  have hpos := foll_pos hf
  obtain ⟨n, hn⟩ : ∃ n, (foll s).1 = n := ⟨_, rfl⟩
  rw [hn, hf] at HF
  rw [hn] at hl Hlen Hbody hpos
  have dl : decide ((s.length : Int) - 4 < (n : Int)) = false := decide_eq_false (by omega)
  have hnb : n ≤ 1048572 := by omega
  have hmf : ∀ (fn : Fn) (first cap : Array Value) (w : World), (Instr.makeFunc fn first cap).run Tryz.prog w = .ok (.func fn first cap) w := fun _ _ _ _ => rfl
  have Hn := Lib.hid (show 4 ≤ s.length ∧ n ≤ s.length - 4 ∧ 9 ≤ n ∧ n + 4 ≤ 1048576 from ⟨h4, by omega, hpos.1, hpos.2⟩)
  clear hn hf hl hpos h4
  go_enter_defers Tryz.func22, Tryz.ntmps22
  go_upto_region 1 with fail
  unfold W0 at h2 h3 hc hz0
  generalize hz : ((w.alloc (.cells Tryz.zeroCells36 36)).alloc (.cells #[.int .i64 0] 24)) = wz at *
  clear hz
  have H2 := Lib.hid h2
  have H3 := Lib.hid h3
  have Hc := Lib.hid hc
  have Hz0 := Lib.hid hz0
  clear h2 h3 hc hz0
  go_wp2_with fail
  refine (HF.out wz).mono ?_
  rintro e w1 ⟨rfl, hc1⟩
  have h2 := H2.out.chg hc1 (fun h => h)
  have h3 := H3.out.chg hc1 (fun h => h)
  have hc' := Hc.out.trans hc1
  have hsz : w.heap.size + 2 ≤ w1.heap.size := by have := hc1.size; have := Hz0.out; omega
  clear hc1 H2 H3 Hc Hz0 wz
  have f0 := h3.cell 0
  have z0 := h3.frozen 0
  have g2 := IsM.chg h2 (Chg.setCell (Chg.refl (fun k => k = w.heap.size + 1) w1) (p := ⟨w.heap.size + 1, 0, none⟩) (.inl rfl) (.int .i64 0)) (fun e => by omega)
  have g3 := h3.set_ 0 (.int .i64 0)
  have hg := hc'.setCell (p := ⟨w.heap.size + 1, 0, none⟩) (.inr (by simp)) (.int .i64 0)
  have hsz' : w.heap.size + 2 ≤ (w1.setCell ⟨w.heap.size + 1, 0, none⟩ (.int .i64 0)).heap.size := by simpa [World.setCell] using hsz
  have H2 := Lib.hid g2
  have H3 := Lib.hid g3
  have Hc := Lib.hid hg
  have Hsz := Lib.hid hsz'
  clear h2 h3 hc' g2 g3 hg hsz hsz'
  go_upto_region 4 with fail
  generalize hz : w1.setCell ⟨w.heap.size + 1, 0, none⟩ (.int .i64 0) = wy at *
  clear hz f0 z0 w1
  have f1 : wy.cell? ⟨w.heap.size + 1, 0, none⟩ = some (.int .i64 0) := H3.out.cell 0
  by_cases hne : s.length = n + 4
  case neg =>
    have q4 : ((s.length : Int) != (n : Int) + 4) = true := by rw [bne_iff_ne]; omega
    have He := Lib.hid (Hlen.out hne)
    have HG := Lib.hid (give_yes wy)
    go_wp2_with fail
    refine HG.out.mono ?_
    rintro e w2 ⟨rfl, rfl⟩
    go_wp2_with fail
    exact dec_bad He.out (only_dg 0 0) H2.out H3.out Hc.out _ rfl rfl
  have q4 : ((s.length : Int) != (n : Int) + 4) = false := by rw [bne_eq_false_iff_eq]; omega
  have Hbw := Lib.hid (Hbody.out hne)
  have Hne := Lib.hid hne
  clear hne Hlen Hbody
  have HG := Lib.hid (give_no wy)
  go_wp2_with fail
  refine HG.out.mono ?_
  rintro e w2 ⟨rfl, rfl⟩
  clear f1 HG HF dl
  have e6 : (s.length : Int) - 4 = (n : Int) := by have := Hne.out; omega
  have ex1 : (⟨s.toArray⟩ : ByteArray).extract 0 n = ⟨(s.take n).toArray⟩ := by rw [extract_S]; simp
  have ex2 : (⟨s.toArray⟩ : ByteArray).extract n s.length = ⟨(s.drop n).toArray⟩ := by
    rw [extract_S, List.take_of_length_le (by simp)]
  have hns : n ≤ s.length := by have := Hne.out; omega
  have hl4 : (s.drop n).length = 4 := by have := Hne.out; simp; omega
  have Hl4 := Lib.hid hl4
  have HC : ∀ (W : World), Calls Tryz.prog 47 #[.slice (some ⟨W.heap.size, 0, none⟩) 1 1] (W.alloc (.cells #[.string ⟨(s.take n).toArray⟩] 9)).drew fun e w' => e = .returned (.int .u32 (Crc.crc (s.take n))) ∧ (W.alloc (.cells #[.string ⟨(s.take n).toArray⟩] 9)).drew = w' := fun W => by
    have := crc_calls (some ⟨W.heap.size, 0, none⟩) 1 1 [s.take n] (W.alloc (.cells #[S (s.take n)] 9)).drew ((Lst.new W 9 [S (s.take n)]).chg ((Chg.refl (fun _ => False) _).drew) (fun _ _ _ h => h)) (by omega) (by simp; omega)
    simpa using this
  have HO : ∀ (W : World), Calls Tryz.prog 55 #[.string ⟨(s.drop n).toArray⟩] W fun e w' => e = .returned (.pointer (some ⟨W.heap.size, 0, none⟩)) ∧ IsR w' W.heap.size ⟨s.drop n, 0, 0⟩ ∧ Below W.heap.size W w' ∧ w'.heap.size = W.heap.size + 1 := fun W => open_calls (s.drop n) W (by omega)
  have HT : ∀ (W : World) (g : Nat), IsR W g ⟨s.drop n, 0, 0⟩ → Calls Tryz.prog 54 #[.pointer (some ⟨g, 0, none⟩)] W fun e w' => e = .returned (.int .u32 (Pk.num (s.drop n))) ∧ Chg (fun k => k = g) W w' := fun W g h =>
    (take_uint32 g ⟨s.drop n, 0, 0⟩ W h).mono fun e w' ⟨h1, h2⟩ => ⟨by rw [h1, rtake4 Hl4.out, tk32 (num4 Hl4.out)], h2.2⟩
  have HC' := Lib.hid HC
  have HO' := Lib.hid HO
  have HT' := Lib.hid HT
  clear HC HO HT hl4
  go_upto_region 12 with fail
  obtain ⟨qb, hqb⟩ : ∃ qb, ((Crc.crc (s.take n) : Int) != (Pk.num (s.drop n) : Int)) = qb := ⟨_, rfl⟩
  refine wp_region_any (by kernel_rfl) ?_
  change wpAny _ _ _ _ _ _ _ (World.drew _)
  refine wpAny_take (i := 0) (v := (.func (.func 53) #[] #[])) rfl (by kernel_rfl) (by kernel_rfl) (by kernel_rfl) (fun _ _ _ h => dec_put (by decide) (by decide) h) (Or.inl ⟨by rfl, ?_⟩) ?_
  · intro w
    go_simp
  try simp only [Act.put, List.getElem_toArray, List.getElem_cons_zero, List.getElem_cons_succ, List.setIfInBounds_toArray, List.set_cons_zero, List.set_cons_succ]
  refine wpAny_take (i := 1) (v := (S s)) rfl (by kernel_rfl) (by kernel_rfl) (by kernel_rfl) (fun _ _ _ h => dec_put (by decide) (by decide) h) (Or.inl ⟨by rfl, ?_⟩) ?_
  · intro w
    go_simp
  try simp only [Act.put, List.getElem_toArray, List.getElem_cons_zero, List.getElem_cons_succ, List.setIfInBounds_toArray, List.set_cons_zero, List.set_cons_succ]
  refine wpAny_take (i := 2) (v := (.int .i64 (n : Int))) rfl (by kernel_rfl) (by kernel_rfl) (by kernel_rfl) (fun _ _ _ h => dec_put (by decide) (by decide) h) (Or.inl ⟨by rfl, ?_⟩) ?_
  · intro w
    go_simp
  try simp only [Act.put, List.getElem_toArray, List.getElem_cons_zero, List.getElem_cons_succ, List.setIfInBounds_toArray, List.set_cons_zero, List.set_cons_succ]
  refine wpAny_take (i := 3) (v := (.string ⟨(s.take n).toArray⟩)) rfl (by kernel_rfl) (by kernel_rfl) (by kernel_rfl) (fun _ _ _ h => dec_put (by decide) (by decide) h) (Or.inl ⟨by rfl, ?_⟩) ?_
  · intro w
    go_simp
  try simp only [Act.put, List.getElem_toArray, List.getElem_cons_zero, List.getElem_cons_succ, List.setIfInBounds_toArray, List.set_cons_zero, List.set_cons_succ]
  refine wpAny_take (i := 6) (v := (S s)) rfl (by kernel_rfl) (by kernel_rfl) (by kernel_rfl) (fun _ _ _ h => dec_put (by decide) (by decide) h) (Or.inl ⟨by rfl, ?_⟩) ?_
  · intro w
    go_simp
  try simp only [Act.put, List.getElem_toArray, List.getElem_cons_zero, List.getElem_cons_succ, List.setIfInBounds_toArray, List.set_cons_zero, List.set_cons_succ]
  refine wpAny_take (i := 7) (v := (.int .i64 (n : Int))) rfl (by kernel_rfl) (by kernel_rfl) (by kernel_rfl) (fun _ _ _ h => dec_put (by decide) (by decide) h) (Or.inl ⟨by rfl, ?_⟩) ?_
  · intro w
    go_simp
  try simp only [Act.put, List.getElem_toArray, List.getElem_cons_zero, List.getElem_cons_succ, List.setIfInBounds_toArray, List.set_cons_zero, List.set_cons_succ]
  refine wpAny_take (i := 8) (v := (.string ⟨(s.drop n).toArray⟩)) rfl (by kernel_rfl) (by kernel_rfl) (by kernel_rfl) (fun _ _ _ h => dec_put (by decide) (by decide) h) (Or.inl ⟨by rfl, ?_⟩) ?_
  · intro w
    go_simp
  try simp only [Act.put, List.getElem_toArray, List.getElem_cons_zero, List.getElem_cons_succ, List.setIfInBounds_toArray, List.set_cons_zero, List.set_cons_succ]
  refine wpAny_ready (rs := [4]) (by kernel_rfl) (by simp) (AllReady.cons rfl (fun K hK => ?_) AllReady.nil)
  go_simp
  skip
  change K _ _
  refine hK _ _ ?_
  clear hK K
  try simp only [Act.put, List.getElem_toArray, List.getElem_cons_zero, List.getElem_cons_succ, List.setIfInBounds_toArray, List.set_cons_zero, List.set_cons_succ]
  refine wpAny_ready (rs := [5]) (by kernel_rfl) (by simp) (AllReady.cons rfl (fun K hK => ?_) AllReady.nil)
  go_simp
  refine (HC'.out _).mono ?_
  rintro e w3 ⟨rfl, rfl⟩
  change K _ _
  refine hK _ _ ?_
  clear hK K
  try simp only [Act.put, List.getElem_toArray, List.getElem_cons_zero, List.getElem_cons_succ, List.setIfInBounds_toArray, List.set_cons_zero, List.set_cons_succ]
  refine wpAny_ready (rs := [9]) (by kernel_rfl) (by simp) (AllReady.cons rfl (fun K hK => ?_) AllReady.nil)
  go_simp
  refine (HO'.out _).mono ?_
  rintro e w4 ⟨rfl, r4, b4, -⟩
  have r5 : IsR w4 (wy.heap.size + 1) ⟨s.drop n, 0, 0⟩ := by simpa using r4
  have c4 : Chg (fun _ => False) wy w4 := (((Chg.refl (fun _ => False) wy).alloc _).drew).trans (Chg.of_below b4 _)
  have z4 := r5.blk.lt
  clear r4 b4
  change K _ _
  refine hK _ _ ?_
  clear hK K
  try simp only [Act.put, List.getElem_toArray, List.getElem_cons_zero, List.getElem_cons_succ, List.setIfInBounds_toArray, List.set_cons_zero, List.set_cons_succ]
  refine wpAny_ready (rs := [10]) (by kernel_rfl) (by simp) (AllReady.cons rfl (fun K hK => ?_) AllReady.nil)
  go_simp
  refine (HT'.out w4 (wy.heap.size + 1) r5).mono ?_
  rintro e w5 ⟨rfl, c5⟩
  change K _ _
  refine hK _ _ ?_
  clear hK K
  try simp only [Act.put, List.getElem_toArray, List.getElem_cons_zero, List.getElem_cons_succ, List.setIfInBounds_toArray, List.set_cons_zero, List.set_cons_succ]
  refine wpAny_take (i := 11) (v := (.bool qb)) rfl (by kernel_rfl) (by kernel_rfl) (by kernel_rfl) (fun _ _ _ h => dec_put (by decide) (by decide) h) (Or.inl ⟨by rfl, ?_⟩) ?_
  · intro w
    go_simp
  try simp only [Act.put, List.getElem_toArray, List.getElem_cons_zero, List.getElem_cons_succ, List.setIfInBounds_toArray, List.set_cons_zero, List.set_cons_succ]
  have c5' := c4.andThen c5 (fun k hk e => by omega)
  have h2 := H2.out.chg c5' (fun h => h)
  have h3 := H3.out.chg c5' (fun h => h)
  have hc := Hc.out.trans c5'
  cases qb
  case true =>
    have hcrc : ¬ Crc.crc (s.take n) = Pk.num (s.drop n) := fun e => by rw [e] at hqb; simp at hqb
    have He := Hbw.out.trans (body_crc (by have := Hne.out; rw [show s.length - 4 = n by omega]; exact hcrc))
    refine wpAny_ready (rs := [12]) (by kernel_rfl) (by simp) (AllReady.cons rfl (fun K hK => ?_) AllReady.nil)
    go_simp
    refine (give_yes _).mono ?_
    rintro e w6 ⟨rfl, rfl⟩
    exact dec_bad He (only_dg 0 0) h2 h3 hc _ rfl rfl
  have hcrc : Crc.crc (s.take (s.length - 4)) = Pk.num (s.drop (s.length - 4)) := by
    rw [bne_eq_false_iff_eq] at hqb
    have := Hne.out
    rw [show s.length - 4 = n by omega]
    omega
  have Hcrc := Lib.hid hcrc
  have H2 := Lib.hid h2
  have H3 := Lib.hid h3
  have Hc := Lib.hid hc
  clear hcrc hqb h2 h3 hc c4 c5 c5' z4 r5
  refine wpAny_ready (rs := [12]) (by kernel_rfl) (by simp) (AllReady.cons rfl (fun K hK => ?_) AllReady.nil)
  go_simp
  refine (give_no _).mono ?_
  rintro e w6 ⟨rfl, rfl⟩
  change K _ _
  refine hK _ _ ?_
  clear hK K
  try simp only [Act.put, List.getElem_toArray, List.getElem_cons_zero, List.getElem_cons_succ, List.setIfInBounds_toArray, List.set_cons_zero, List.set_cons_succ]
  refine wpAny_done (by kernel_rfl) ?_ _
  have er : (⟨s.toArray⟩ : ByteArray).extract 4 n = ⟨((s.drop 4).take (n - 4)).toArray⟩ := by rw [extract_S]
  have Hrd : rdB s = ⟨(s.drop 4).take (n - 4), 0, 0⟩ := by unfold rdB; have := Hne.out; rw [show s.length - 8 = n - 4 by omega]
  have hBl : ((s.drop 4).take (n - 4)).length ≤ 1000000000 := by simp; omega
  have Hrd := Lib.hid Hrd
  have h4n : (4 : Int) ≤ n := by have := Hn.out; omega
  generalize (s.drop 4).take (n - 4) = B at *
  have HBl := Lib.hid hBl
  have HO := Lib.hid (open_calls B w5 (by omega))
  clear hBl ex1 ex2 e6
  go_wp2_with fail
  refine HO.out.mono ?_
  rintro e w6 ⟨rfl, r6, b6, -⟩
  have c6 := Chg.of_below b6 (fun _ => False)
  obtain ⟨gr, hgr⟩ : ∃ gr, gr = w5.heap.size := ⟨_, rfl⟩
  rw [← hgr] at r6 ⊢
  have h2 := H2.out.chg c6 (fun h => h)
  have h3 := H3.out.chg c6 (fun h => h)
  have hc := Hc.out.trans c6
  have hg2 : w.heap.size + 1 < gr := by have := H3.out.lt; omega
  have hg6 : gr < w6.heap.size := r6.blk.lt
  have R6 := Lib.hid r6
  have H2 := Lib.hid h2
  have H3 := Lib.hid h3
  have Hc := Lib.hid hc
  have Hg2 := Lib.hid hg2
  have Hg6 := Lib.hid hg6
  clear r6 b6 c6 hgr h2 h3 hc hg2 hg6 HO er h4n
  go_wp2_with fail
  refine (take_kind gr ⟨B, 0, 0⟩ w6 R6.out).mono ?_
  rintro e w7 ⟨rfl, r7⟩
  have hk : tk .u8 ((Pk.Rd.take ⟨B, 0, 0⟩ 1).1) = ((kindB s : Nat) : Int) := by
    unfold kindB
    rw [Hrd.out]
    have := num1 (r := ⟨B, 0, 0⟩)
    unfold tk; rw [IntKind.wrap_u8']; omega
  rw [hk]
  have hkl : kindB s < 256 := num1
  have Hkl := Lib.hid hkl
  have h2 := H2.out.chg r7.2 (fun h => by have := Hg2.out; omega)
  have h3 := H3.out.chg r7.2 (fun h => by have := Hg2.out; omega)
  have hc := Hc.out.andThen r7.2 (fun k hk e => by have := Hg2.out; omega)
  have hs7 := r7.2.size
  have g2' : IsM (w7.setCell ⟨w.heap.size, 0, none⟩ (.int .u8 (kindB s : Nat))) w.heap.size (Wm.only (kindB s) 0) nolist := IsM.of (h2.set_ 0 _) (set_kind _ _ _)
  have c7 := Chg.setCell (Chg.refl (fun k => k = w.heap.size) w7) (p := ⟨w.heap.size, 0, none⟩) (.inl rfl) (.int .u8 (kindB s : Nat))
  have g3' := h3.chg c7 (fun h => by omega)
  have gR := r7.1.chg c7 (fun h => by have := Hg2.out; omega)
  have gc' := hc.andThen c7 (fun k hk e => by omega)
  have k0 : w7.cell? ⟨w.heap.size, 0, none⟩ = some (.int .u8 0) := (h2.mf (only_dg 0 0)).kind
  have z0 := Blk.frozen h2 0
  have hs8 := c7.size
  have H2 := Lib.hid g2'
  have H3 := Lib.hid g3'
  have Hc := Lib.hid gc'
  have R7 := Lib.hid gR
  have Hg6 := Lib.hid (show gr < (w7.setCell ⟨w.heap.size, 0, none⟩ (.int .u8 (kindB s : Nat))).heap.size by have := Hg6.out; omega)
  clear r7 hk hkl h2 h3 hc hs7 g2' c7 g3' gR gc' hs8
  go_upto_region 15 with fail
  generalize hz : w7.setCell ⟨w.heap.size, 0, none⟩ (.int .u8 (kindB s : Nat)) = w8 at *
  clear hz k0 z0
  go_wp2_with fail
  refine (take_uint32 gr _ w8 R7.out).mono ?_
  rintro e w9 ⟨rfl, r9⟩
  have hk : tk .u32 (((Pk.Rd.take ⟨B, 0, 0⟩ 1).2.take 4).1) = ((idB s : Nat) : Int) := by
    unfold idB
    rw [Hrd.out]
    exact tk32 numId
  rw [hk]
  have hrr : ((Pk.Rd.take ⟨B, 0, 0⟩ 1).2.take 4).2 = restB s := by unfold restB; rw [Hrd.out]
  rw [hrr] at r9
  have h2 := H2.out.chg r9.2 (fun h => by have := Hg2.out; omega)
  have h3 := H3.out.chg r9.2 (fun h => by have := Hg2.out; omega)
  have hc := Hc.out.andThen r9.2 (fun k hk e => by have := Hg2.out; omega)
  have hs9 := r9.2.size
  have g2' : IsM (w9.setCell ⟨w.heap.size, 1, none⟩ (.int .u32 (idB s : Nat))) w.heap.size (Wm.only (kindB s) (idB s)) nolist := IsM.of (h2.set_ 1 _) (set_id _ _ _)
  have c9 := Chg.setCell (Chg.refl (fun k => k = w.heap.size) w9) (p := ⟨w.heap.size, 1, none⟩) (.inl rfl) (.int .u32 (idB s : Nat))
  have g3' := h3.chg c9 (fun h => by omega)
  have gR := r9.1.chg c9 (fun h => by have := Hg2.out; omega)
  have gc' := hc.andThen c9 (fun k hk e => by omega)
  have k0 : w9.cell? ⟨w.heap.size, 1, none⟩ = some (.int .u32 0) := (h2.mf (only_dg (kindB s) 0)).id
  have z0 := Blk.frozen h2 1
  have hs8 := c9.size
  have H2 := Lib.hid g2'
  have H3 := Lib.hid g3'
  have Hc := Lib.hid gc'
  have R9 := Lib.hid gR
  have Hg6 := Lib.hid (show gr < (w9.setCell ⟨w.heap.size, 1, none⟩ (.int .u32 (idB s : Nat))).heap.size by have := Hg6.out; omega)
  clear r9 hk hrr h2 h3 hc hs9 g2' c9 g3' gR gc' hs8
  go_upto_region 16 with fail
  generalize hz : w9.setCell ⟨w.heap.size, 1, none⟩ (.int .u32 (idB s : Nat)) = wp at *
  clear hz k0 z0
  have k0 : wp.cell? ⟨w.heap.size, 0, none⟩ = some (.int .u8 (kindB s : Nat)) := (H2.out.mf (only_dg _ _)).kind
  have HP := Lib.hid (parts_calls (kindB s) wp)
  go_wp2_with fail
  refine HP.out.mono ?_
  rintro e wq ⟨v, Q, rfl, hQ, hps, hcq⟩
  obtain ⟨A, cc, rfl, hrow⟩ := hps.row
  have h2 := H2.out.chg hcq (fun h => h)
  have h3 := H3.out.chg hcq (fun h => h)
  have hc := Hc.out.trans hcq
  have gR := R9.out.chg hcq (fun h => h)
  have H2 := Lib.hid h2
  have H3 := Lib.hid h3
  have Hc := Lib.hid hc
  have Rq := Lib.hid gR
  have HQ := Lib.hid hQ
  have Hps := Lib.hid hps
  have Hwq := Lib.hid hcq.size
  clear h2 h3 hc gR hQ hps hcq hrow HP k0 R9
  cases hf : Wm.fields (kindB s) with
  | none =>
    have He := Lib.hid (Hbw.out.trans (body_kind Hcrc.out hf))
    have hfb : (Wm.fields (kindB s)).isSome = false := by rw [hf]; rfl
    have HG := Lib.hid (give_yes wq)
    clear hf hfb
    go_wp2_with fail
    refine HG.out.mono ?_
    rintro e w6 ⟨rfl, rfl⟩
    go_wp2_with fail
    exact dec_bad He.out (only_dg _ _) H2.out H3.out Hc.out _ rfl rfl
  | some l =>
    have hfb : (Wm.fields (kindB s)).isSome = true := by rw [hf]; rfl
    have hQ4 : Q.length ≤ 4 := by
      have h4 := fields_len _ hf
      have := HQ.out
      rw [hf, Option.getD_some] at this
      rw [← this, List.length_map] at h4
      exact h4
    have HQ := HQ.out
    rw [hf, Option.getD_some] at HQ
    have HQ := Lib.hid HQ
    have HG := Lib.hid (give_no wq)
    have Hf := Lib.hid hf
    clear hf hfb
    go_wp2_with fail
    refine HG.out.mono ?_
    rintro e w6 ⟨rfl, rfl⟩
    obtain ⟨base, hbase⟩ : ∃ b, b = wp.heap.size := ⟨_, rfl⟩
    rw [← hbase] at Hg6
    have Hps := Hps.out
    rw [← hbase] at Hps
    have Hps := Lib.hid Hps
    have Hbq := Lib.hid (show base ≤ wq.heap.size by rw [hbase]; exact Hwq.out)
    have Hsr := Lib.hid (show (restB s).s.length ≤ 1000000000 by
      have : (restB s).s = (rdB s).s := by unfold restB; rw [ztake_s, ztake_s]
      rw [this, Hrd.out]; exact HBl.out)
    clear hbase
    have Hnm0 := Lib.hid (only_nm Hkl.out (show idB s < 4294967296 from numId))
    go_upto_region 18 with fail
    go_wp2_with fail
    go_loopw [11, 79] (fun _ iv wr => ∃ (k : Nat) (K : Ls), k ≤ Q.length ∧ iv = .int .i64 k ∧ IsR wr gr (takes ((Q.take k).map Prod.fst) (Wm.only (kindB s) (idB s)) (restB s)).2 ∧ IsM wr w.heap.size (takes ((Q.take k).map Prod.fst) (Wm.only (kindB s) (idB s)) (restB s)).1 K ∧
      OwnL wr base (takes ((Q.take k).map Prod.fst) (Wm.only (kindB s) (idB s)) (restB s)).1 K ∧ Chg (fun b => b = gr ∨ b = w.heap.size) wq wr) (fun _ iv _ => Q.length - (intOf iv).toNat)
    case atStart => exact ⟨0, nolist, by omega, rfl, Rq.out, H2.out, own_zero _ _ _ _, Chg.refl _ _⟩
    case round =>
      obtain ⟨k, K, hk, rfl, hr, hm, ho, hchg⟩ := hrel
      by_cases hp : k < Q.length
      · obtain ⟨⟨c, bs⟩, hx⟩ : ∃ x, Q[k]? = some x := ⟨_, List.getElem?_eq_getElem hp⟩
        have hmem := List.mem_of_getElem? hx
        have hps := (Hps.out).chg hchg (fun b hb h => by have := Hg2.out; have := Hg6.out; rcases h with h | h <;> omega)
        obtain ⟨b, off, cc, hv, hcell⟩ := pcells_at Q hps.row hx
        injection hv with hA hcc hcap
        subst hA hcap
        have d0 := hcell 0 _ rfl
        have d1 := hcell 1 _ rfl
        have d2 := hcell 2 _ rfl
        have d3 := hcell 3 _ rfl
        rw [Nat.add_zero] at d0
        have hbz := Blk.new wr 88 #[.nilFunc, .nilFunc, .nilFunc, .nilFunc]
        have hst := st_p hbz rfl (.func (layF c)) (.func (takeF c)) (.func (copyF c)) (.func (mayF c)) (caps bs (layI c)) (caps bs (takeI c)) (caps bs (copyI c)) (caps bs (mayI c))
        have hb2 := Blk.setRow hbz #[.func (.func (layF c)) #[] (caps bs (layI c)), .func (.func (takeF c)) #[] (caps bs (takeI c)), .func (.func (copyF c)) #[] (caps bs (copyI c)), .func (.func (mayF c)) #[] (caps bs (mayI c))]
        have f1 := hb2.cell 1
        have hcx : Chg (fun _ => False) wr ((wr.alloc (.cells #[.nilFunc, .nilFunc, .nilFunc, .nilFunc] 88)).setRow wr.heap.size #[.func (.func (layF c)) #[] (caps bs (layI c)), .func (.func (takeF c)) #[] (caps bs (takeI c)), .func (.func (copyF c)) #[] (caps bs (copyI c)), .func (.func (mayF c)) #[] (caps bs (mayI c))]) :=
          Chg.setRow ((Chg.refl (fun _ => False) wr).alloc _) (.inr (Nat.le_refl _)) _
        have hrm := run_take c
        have hpart := ((hps.part _ hmem).chg hcx (fun _ _ h => h))
        have hlen : (takes ((Q.take k).map Prod.fst) (Wm.only (kindB s) (idB s)) (restB s)).2.s.length ≤ 1000000000 := by rw [takes_s]; exact Hsr.out
        have hnm := takes_nm ((Q.take k).map Prod.fst) (restB s) Hnm0.out
        have HT := fun wx (hxx : Chg (fun _ => False) wr wx) => part_take c bs gr w.heap.size base _ K _ wx (hr.chg hxx (fun h => h)) hlen ((hps.part _ hmem).chg hxx (fun _ _ h => h)).1 (hm.chg hxx (fun h => h)) hnm.hd (ho.chg hxx (fun _ h => h.elim)) Hg6.out (by have := Hg2.out; have := Hg6.out; omega) (by have := Hbq.out; have := hchg.size; have := hxx.size; omega) (by have := Hg2.out; omega) (fun i hi h => by
          have h1 := (hps.part _ hmem).2 i hi
          have h2 := Hg2.out
          have h3 := Hg6.out
          dsimp only at h1
          rcases h with h | h <;> omega)
        have HT := Lib.hid HT
        have Hx := Lib.hid hx
        have Hchg := Lib.hid hchg
        have Hcx := Lib.hid hcx
        clear hx hmem hcell hr hm ho hchg hb2 hbz hcx hpart hlen hnm hps
        go_wp2_with fail
        refine (HT.out _ Hcx.out).mono ?_
        rintro e wt ⟨K', rfl, hr', hm', ho', hc'⟩
        have Hr := Lib.hid hr'
        have Hm := Lib.hid hm'
        have Ho := Lib.hid ho'
        have Hct := Lib.hid hc'
        clear hr' hm' ho' hc' d0 d1 d2 d3 f1 hst
        go_wp2_with fail
        go_roundw
        case rel =>
          refine ⟨k + 1, K', by omega, by go_num, ?_, ?_, ?_, ?_⟩
          · rw [takes_snoc Hx.out]; exact Hr.out
          · rw [takes_snoc Hx.out]; exact Hm.out
          · rw [takes_snoc Hx.out]; exact Ho.out
          · exact (Hchg.out.trans (Hcx.out.mono (fun _ _ h => h.elim))).trans Hct.out
        case measure => simp [intOf]; omega
      · obtain rfl : k = Q.length := by omega
        rw [List.take_length, HQ.out] at hr hm ho
        have hnm := takes_nm l (restB s) Hnm0.out
        have hfb := fun (h : ¬ ((partsB l s).2.f = 0 ∧ (partsB l s).2.left = 0)) => body_end Hcrc.out Hf.out h
        have hfe := fun (h : (partsB l s).2.f = 0 ∧ (partsB l s).2.left = 0) (hx : encW (partsB l s).1 ≠ (s, 0)) => body_enc Hcrc.out Hf.out h hx
        have hfo := fun (h : (partsB l s).2.f = 0 ∧ (partsB l s).2.left = 0) (hx : encW (partsB l s).1 = (s, 0)) => body_ok Hcrc.out Hf.out h hx
        change IsR wr gr (partsB l s).2 at hr
        change IsM wr w.heap.size (partsB l s).1 K at hm
        change OwnL wr base (partsB l s).1 K at ho
        change Nm (partsB l s).1 at hnm
        generalize partsB l s = X at *
        have h3 := H3.out.chg hchg (fun h => by have := Hg2.out; omega)
        have hc := Hc.out.andThen hchg (fun k hk e => by have := Hg2.out; omega)
        have Hr := Lib.hid hr
        have Hm := Lib.hid hm
        have Ho := Lib.hid ho
        have Hnm := Lib.hid hnm
        have H3 := Lib.hid h3
        have Hc := Lib.hid hc
        have Hfe := Lib.hid hfe
        have Hfo := Lib.hid hfo
        clear hr hm ho hnm h3 hc hchg hfe hfo
        by_cases hend : X.2.f = 0 ∧ X.2.left = 0
        case neg =>
          have He := Lib.hid (Hbw.out.trans (hfb hend))
          have HE : Calls Tryz.prog 58 #[.pointer (some ⟨gr, 0, none⟩)] wr fun e w' => ∃ v, e = .returned (.iface 143 v) ∧ Chg (fun _ => False) wr w' := by
            by_cases hf0 : X.2.f = 0
            · exact (end_rest gr X.2 wr Hr.out hf0 (by omega)).mono fun e w' ⟨v, h1, g, _, _, h2, _⟩ => ⟨v, h1, h2⟩
            · exact (end_fault gr X.2 wr Hr.out hf0).mono fun e w' ⟨v, h1, g, _, _, h2, _⟩ => ⟨v, h1, h2⟩
          have HE := Lib.hid HE
          have hnn : ∀ (v : Value) (w : World), (binOp .neq 110 (.iface 143 v) .nilIface).run Tryz.prog w = .ok (.bool true) w := fun _ _ => by kernel_rfl
          have HG := Lib.hid give_yes
          clear hend hfb
          go_wp2_with fail
          refine HE.out.mono ?_
          rintro e wu ⟨v, rfl, hcu⟩
          have h2 := Hm.out.chg hcu (fun h => h)
          have h3 := H3.out.chg hcu (fun h => h)
          have hc := Hc.out.trans hcu
          have H2 := Lib.hid h2
          have H3 := Lib.hid h3
          have Hc := Lib.hid hc
          clear h2 h3 hc hcu
          go_wp2_with fail
          refine (HG.out wu).mono ?_
          rintro e wv ⟨rfl, rfl⟩
          go_wp2_with fail
          exact dec_bad He.out Hnm.out.hd H2.out H3.out Hc.out _ rfl rfl
        have HE := Lib.hid (end_none gr X.2 wr Hr.out hend.1 hend.2)
        have Hend := Lib.hid hend
        clear hend hfb
        go_wp2_with fail
        refine HE.out.mono ?_
        rintro e wu ⟨rfl, nn, rfl⟩
        go_wp2_with fail
        refine (give_no _).mono ?_
        rintro e wv ⟨rfl, rfl⟩
        have cu : Chg (fun _ => False) wr (wr.drewN nn) := (Chg.refl _ wr).drewN nn
        have h2 := Hm.out.chg cu (fun h => h)
        have h3 := H3.out.chg cu (fun h => h)
        have hc := Hc.out.trans cu
        have ho := Ho.out.chg cu (fun _ h => h.elim)
        generalize wr.drewN nn = wu at *
        have hld := ldM Hnm.out.hd h2
        have HX := Lib.hid (encode_calls X.1 K wu Hnm.out ho.isl)
        unfold EncE at HX
        have H2 := Lib.hid h2
        have H3 := Lib.hid h3
        have Hc := Lib.hid hc
        have Ho := Lib.hid ho
        clear h2 h3 hc ho cu
        obtain ⟨xs, xe, hxx⟩ : ∃ xs xe, encW X.1 = (xs, xe) := ⟨_, _, rfl⟩
        rw [hxx] at HX
        have Hfe := Hfe.out Hend.out
        have Hfo := Hfo.out Hend.out
        rw [hxx] at Hfe Hfo
        have Hfe := Lib.hid Hfe
        have Hfo := Lib.hid Hfo
        clear hxx
        go_wp2_with fail
        refine HX.out.mono ?_
        rintro e wv ⟨rfl, hcv⟩
        have h2 := H2.out.chg hcv (fun h => h)
        have h3 := H3.out.chg hcv (fun h => h)
        have hc := Hc.out.trans hcv
        have ho := Ho.out.chg hcv (fun _ h => h.elim)
        have H2 := Lib.hid h2
        have H3 := Lib.hid h3
        have Hc := Lib.hid hc
        have Ho := Lib.hid ho
        clear h2 h3 hc ho hcv hld
        go_upto_region 25 with fail
        by_cases hxe : xe = 0
        case neg =>
          have q0 : ((xe : Int) != 0) = true := by rw [bne_iff_ne]; omega
          have He := Lib.hid (Hbw.out.trans (Hfe.out (fun e => hxe (by injection e))))
          have HG := Lib.hid give_yes
          clear hxe
          go_wp2_with fail
          refine (HG.out wv).mono ?_
          rintro e wx ⟨rfl, rfl⟩
          go_wp2_with fail
          exact dec_bad He.out Hnm.out.hd H2.out H3.out Hc.out _ rfl rfl
        subst hxe
        cases hss : xs == s
        case false =>
          have hne : xs ≠ s := by simpa using hss
          have He := Lib.hid (Hbw.out.trans (Hfe.out (fun e => hne (by injection e))))
          have HG := Lib.hid give_yes
          clear hne
          go_wp2_with fail
          refine (HG.out wv).mono ?_
          rintro e wx ⟨rfl, rfl⟩
          go_wp2_with fail
          exact dec_bad He.out Hnm.out.hd H2.out H3.out Hc.out _ rfl rfl
        have heq : xs = s := by simpa using hss
        have He := Lib.hid (Hbw.out.trans (Hfo.out (by rw [heq])))
        have HG := Lib.hid give_no
        have hld := ldM Hnm.out.hd H2.out
        have hst := stM H2.out (mc_len _ _ Hnm.out.hd) Hnm.out.hd (Ho.out.isl).slc
        have h2 : IsM (wv.setRow w.heap.size (mcells X.1 K)) w.heap.size X.1 K := Blk.setRow H2.out _
        have cx : Chg (fun k => k = w.heap.size) wv (wv.setRow w.heap.size (mcells X.1 K)) := Chg.setRow (g := w.heap.size) (Chg.refl (fun k => k = w.heap.size) wv) (.inl rfl) _
        have h3 := H3.out.chg cx (fun e => by omega)
        have f0 := h3.cell 0
        have z0 := h3.frozen 0
        have hc := Hc.out.andThen cx (fun k hk e => by omega)
        have ho := Ho.out.chg cx (fun b e => by have := Hg2.out; have := Hg6.out; omega)
        have H2 := Lib.hid h2
        have H3 := Lib.hid h3
        have Hc := Lib.hid hc
        have Ho := Lib.hid ho
        have Hlow := Lib.hid (show w.heap.size ≤ base by have := Hg2.out; have := Hg6.out; omega)
        clear heq h2 cx h3 hc ho
        go_wp2_with fail
        refine (HG.out wv).mono ?_
        rintro e wx ⟨rfl, rfl⟩
        go_wp2_with fail
        have cs : Chg (fun k => k = w.heap.size + 1) (wv.setRow w.heap.size (mcells X.1 K)) ((wv.setRow w.heap.size (mcells X.1 K)).setCell ⟨w.heap.size + 1, 0, none⟩ (.int .i64 0)) := (Chg.refl (fun k => k = w.heap.size + 1) _).setCell (.inl rfl) _
        have ho := Ho.out.chg cs (fun b e => by have := Hg2.out; have := Hg6.out; omega)
        exact dec_door He.out Hnm.out.hd (H2.out.chg cs (fun e => by omega)) (Blk.set_ H3.out 0 _) (Hc.out.andThen cs (fun k hk e => by omega)) ⟨own_low ho.t Hlow.out, own_low ho.s Hlow.out, own_low ho.p Hlow.out, own_low ho.y Hlow.out⟩ _ rfl rfl
theorem decode_calls (s : List UInt8) (w : World) (hsl : s.length ≤ 1000000000) : Calls Tryz.prog 22 #[S s] w fun e w' => DecE s w w' e := by
  by_cases h4 : s.length < 4
  · exact dec_stub s w h4
  by_cases hf : (foll s).2 = 0
  · by_cases hl : s.length - 4 < (foll s).1
    · exact dec_short s w (by omega) (by omega) hf hl
    · exact dec_whole s w (by omega) hsl hf hl
  · exact dec_foll s w (by omega) (by omega) hf
end Go.Proofs.YthkfcfkkamffpaaGreat
