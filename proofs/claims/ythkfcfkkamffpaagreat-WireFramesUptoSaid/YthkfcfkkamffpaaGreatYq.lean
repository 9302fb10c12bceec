/-
  Layer 27: the Reader's Push.
-/
import Derived.Test.YthkfcfkkamffpaaGreatYp
namespace Go.Proofs.YthkfcfkkamffpaaGreat
open Go.RowKit
set_option linter.unusedVariables false
set_option linter.unusedSimpArgs false
open Wm (M)
def strLen : Value → Nat
  | .string b => b.size
  | _ => 0
theorem strLen_S (l : List UInt8) : strLen (S l) = l.length := by simp [strLen, ByteArray.size]
theorem mcells_flat (m : M) (L : Ls) : (mcells m L).toList = mc m L := by simp [mcells]
theorem Reads.new_ (w : World) (t : TypeId) (cs : Array Value) : Reads (w.alloc (.cells cs t)) (w.heap.size + 1) cs.size (some ⟨w.heap.size, 0, none⟩) 1 cs.toList := by
  refine Reads.many _ _ _ _ _ ?_ ?_ <;> simp
theorem cat_S (a b : List UInt8) : (⟨a.toArray⟩ : ByteArray) ++ (⟨b.toArray⟩ : ByteArray) = ⟨(a ++ b).toArray⟩ := by
  apply ByteArray.ext
  simp
theorem Reads.old {w w' : World} {B size n : Nat} {A : Option Addr} {xs : List Value} (h : Reads w B size A n xs) (hc : Chg (fun _ => False) w w') (hB : B ≤ w.heap.size) : Reads w' B size A n xs := h.chg hc hB (fun _ _ h => h)
/-- the Reader's cells stored: what it holds -/
theorem rd_hold {w wr : World} {g : Nat} {a : List UInt8} {n : Nat} (h : IsRd w g a n) (hc : Chg (fun _ => False) w wr) (b : List UInt8) : IsRd (wr.setCell ⟨g, 0, none⟩ (S b)) g b n := (Blk.chg h hc (fun h => h)).set_ 0 (S b)
theorem rd_fall {w wr : World} {g : Nat} {a : List UInt8} {n : Nat} (h : IsRd w g a n) (hc : Chg (fun _ => False) w wr) (c : Nat) : IsRd ((wr.setCell ⟨g, 0, none⟩ (S [])).setCell ⟨g, 1, none⟩ (.int .i64 c)) g [] c :=
  ((Blk.chg h hc (fun h => h)).set_ 0 (S [])).set_ 1 (.int .i64 c)
theorem push_keep {w wr : World} {g : Nat} {held : List UInt8} {X : List (M × Ls)} {ov : Value} (h : IsRd w g held 0) (hown : wr.ownsRow w.heap.size 36 84 ov X.length (X.flatMap fun x => mc x.1 x.2)) (hsep : Sep wr w.heap.size X) (hchg : Chg (fun _ => False) w wr)
    {W : World} (hc : Chg (fun k => k = g) wr W) : W.ownsRow w.heap.size 36 84 ov X.length (X.flatMap fun x => mc x.1 x.2) ∧ Sep W w.heap.size X ∧ Chg (fun k => k = g) w W := by
  have hB := Blk.chg h hchg (fun h => h)
  have hgl := Blk.lt h
  refine ⟨own_chg hown hc (fun k hk e => by subst e; exact own_blk_ne hown hB (by decide) hk), hsep.chg hc (fun x hx b hb e => by have := ((hsep.mem x hx).lt hb).1; omega), (hchg.mono (fun _ _ h => h.elim)).trans hc⟩
theorem push_end {w wr : World} {g : Nat} {held piece s0 rest : List UInt8} {X : List (M × Ls)} {ov : Value} (hw : pushW held 0 piece = ((feedW s0).1, (feedW s0).2.1, (feedW s0).2.2, (feedW s0).2.1)) (hf : feedW s0 = (X.map Prod.fst ++ (feedW rest).1, (feedW rest).2)) (hr : feedW rest = ([], 0, rest))
    (h : IsRd w g held 0) (hown : wr.ownsRow w.heap.size 36 84 ov X.length (X.flatMap fun x => mc x.1 x.2)) (hsep : Sep wr w.heap.size X) (hchg : Chg (fun _ => False) w wr) :
    PushE g held 0 piece w (wr.setCell ⟨g, 0, none⟩ (S rest)) (.returned (.tuple #[ov, .int .i64 0])) := by
  obtain ⟨h1, h2, h3⟩ := push_keep h hown hsep hchg (Chg.setCell (Chg.refl (fun k => k = g) wr) (p := ⟨g, 0, none⟩) (.inl rfl) (S rest))
  rw [hr] at hf
  refine ⟨ov, X, ?_, ?_, h1, h2, ?_, h3⟩
  · rw [hw, hf]; rfl
  · rw [hw, hf]; simp
  · rw [hw, hf]; exact rd_hold h hchg rest
theorem push_fail {w wr : World} {g c : Nat} {held piece s0 rest : List UInt8} {X : List (M × Ls)} {ov : Value} (hw : pushW held 0 piece = ((feedW s0).1, (feedW s0).2.1, (feedW s0).2.2, (feedW s0).2.1)) (hf : feedW s0 = (X.map Prod.fst ++ (feedW rest).1, (feedW rest).2)) (hr : feedW rest = ([], c, []))
    (h : IsRd w g held 0) (hown : wr.ownsRow w.heap.size 36 84 ov X.length (X.flatMap fun x => mc x.1 x.2)) (hsep : Sep wr w.heap.size X) (hchg : Chg (fun _ => False) w wr) :
    PushE g held 0 piece w ((wr.setCell ⟨g, 0, none⟩ (S [])).setCell ⟨g, 1, none⟩ (.int .i64 c)) (.returned (.tuple #[ov, .int .i64 c])) := by
  obtain ⟨h1, h2, h3⟩ := push_keep h hown hsep hchg (Chg.setCell (Chg.setCell (Chg.refl (fun k => k = g) wr) (p := ⟨g, 0, none⟩) (.inl rfl) (S [])) (p := ⟨g, 1, none⟩) (.inl rfl) (.int .i64 c))
  rw [hr] at hf
  refine ⟨ov, X, ?_, ?_, h1, h2, ?_, h3⟩
  · rw [hw, hf]
  · rw [hw, hf]; simp
  · rw [hw, hf]; exact rd_fall h hchg c
attribute [local go_sem ↓] ld_msg st_msg bs_msgs
set_option maxHeartbeats 8000000 in
set_option maxRecDepth 100000 in
theorem push_live (g : Nat) (held piece : List UInt8) (w : World) (h : IsRd w g held 0) (hlen : (held ++ piece).length ≤ 2199023255552) : Calls Tryz.prog 26 #[pt g, S piece] w fun e w' => PushE g held 0 piece w w' e := by
  obtain ⟨i0, hi0, hz0, hz1, hz2⟩ := info_parts info_msgz
  have c0 : w.cell? ⟨g, 0, none⟩ = some (S held) := Blk.cell h 0
  have c1 : w.cell? ⟨g, 1, none⟩ = some (.int .i64 0) := Blk.cell h 1
  have Hw := Lib.hid (show pushW held 0 piece = ((feedW (held ++ piece)).1, (feedW (held ++ piece)).2.1, (feedW (held ++ piece)).2.2, (feedW (held ++ piece)).2.1) by unfold pushW; rw [if_neg (by omega)])
  have hlen2 : held.length + piece.length ≤ 2199023255552 := by rw [← List.length_append]; exact hlen
  have hgl := Blk.lt h
  have H := Lib.hid h
  have Hgl := Lib.hid hgl
  clear h
  go_enter Tryz.func26, Tryz.ntmps26
  have hcat := cat_S held piece
  obtain ⟨s0, hs0⟩ : ∃ s0, held ++ piece = s0 := ⟨_, rfl⟩
  rw [hs0] at hcat hlen Hw
  clear hs0
  have Hlen := Lib.hid hlen
  clear hlen
  go_wp2_with fail
  go_loopw [6, 7] (fun ov sv wr => ∃ (X : List (M × Ls)) (rest : List UInt8), sv = S rest ∧ wr.ownsRow w.heap.size 36 84 ov X.length (X.flatMap fun x => mc x.1 x.2) ∧ Sep wr w.heap.size X ∧ Chg (fun _ => False) w wr ∧
    feedW s0 = (X.map Prod.fst ++ (feedW rest).1, (feedW rest).2) ∧ X.length * 13 + rest.length ≤ 2199023255552) (fun _ sv _ => strLen sv)
  case atStart => exact ⟨[], s0, rfl, World.ownsRow_nil _ _ _ _, trivial, Chg.refl _ _, by simp, by simpa using Hlen.out⟩
  case round =>
    obtain ⟨X, rest, rfl, hown, hsep, hchg, hfeed, hcnt⟩ := hrel
    have hB := (H.out : Blk w g _ _).chg hchg (fun h => h)
    have c0 : wr.cell? ⟨g, 0, none⟩ = some (S held) := hB.cell 0
    have c1 : wr.cell? ⟨g, 1, none⟩ = some (.int .i64 0) := hB.cell 1
    have z0 := hB.frozen 0
    have z1 := hB.frozen 1
    have Hown := Lib.hid hown
    have Hsep := Lib.hid hsep
    have Hchg := Lib.hid hchg
    have Hfeed := Lib.hid hfeed
    have hrl : rest.length ≤ 2199023255552 := by omega
    by_cases h4 : rest.length < 4
    · have q4 : decide (4 ≤ rest.length) = false := decide_eq_false (by omega)
      have q4' : decide ((4 : Int) ≤ (rest.length : Int)) = false := decide_eq_false (by omega)
      have HE := Lib.hid (push_end Hw.out hfeed (feed_short h4) H.out hown hsep hchg)
      clear hown hsep hchg hfeed hB h4
      go_wp2_with fail
      go_ret2
      exact HE.out
    have q4 : decide (4 ≤ rest.length) = true := decide_eq_true (by omega)
    have q4' : decide ((4 : Int) ≤ (rest.length : Int)) = true := decide_eq_true (by omega)
    have hF : ∀ w, Calls Tryz.prog 51 #[S rest] w fun e w' => e = .returned (.tuple #[.int .i64 ((foll rest).1 : Nat), .int .i64 ((foll rest).2 : Nat)]) ∧ Chg (fun _ => False) w w' := fun w => follow_calls rest w (by omega) (by omega)
    have HF := Lib.hid hF
    have H4 := Lib.hid h4
    by_cases hf0 : (foll rest).2 = 0
    case neg =>
      have hr := feed_foll h4 hf0
      have q0 : (((foll rest).2 : Int) == 0) = false := beq_eq_false_iff_ne.2 (by omega)
      have q1 : (((foll rest).2 : Int) != 0) = true := by rw [bne_iff_ne]; omega
      have HE := Lib.hid (fun (W : World) (hW : Chg (fun _ => False) wr W) => push_fail Hw.out hfeed hr H.out (own_chg hown hW (fun _ _ h => h)) (hsep.chg hW (fun _ _ _ _ h => h)) (hchg.trans hW))
      have HB := Lib.hid hB
      clear hF h4 hr hf0 hfeed hown hsep hchg c0 c1 z0 z1 hB
      generalize (foll rest).1 = n at *
      generalize (foll rest).2 = c at *
      go_wp2_with fail
      refine (HF.out wr).mono ?_
      rintro e wx ⟨rfl, hcx⟩
      have hy := hcx.alloc (.cells Tryz.zeroCells36 36)
      have hB := HB.out.chg hy (fun h => h)
      have c0 := hB.cell 0
      have c1 := hB.cell 1
      have z0 := hB.frozen 0
      have z1 := hB.frozen 1
      have HE' := Lib.hid (HE.out _ hy)
      clear hcx hy hB
      go_wp2_with fail
      go_ret2
      exact HE'.out
    by_cases hwl : rest.length - 4 < (foll rest).1
    · have hr := feed_waits h4 ⟨hf0, hwl⟩
      have ql : decide ((rest.length : Int) - 4 < ((foll rest).1 : Int)) = true := decide_eq_true (by omega)
      have HE := Lib.hid (fun (W : World) (hW : Chg (fun _ => False) wr W) => push_end Hw.out hfeed hr H.out (own_chg hown hW (fun _ _ h => h)) (hsep.chg hW (fun _ _ _ _ h => h)) (hchg.trans hW))
      have HB := Lib.hid hB
      rw [hf0] at HF
      clear hF h4 hr hf0 hwl hfeed hown hsep hchg c0 c1 z0 z1 hB
      generalize (foll rest).1 = n at *
      go_wp2_with fail
      refine (HF.out wr).mono ?_
      rintro e wx ⟨rfl, hcx⟩
      have hB := HB.out.chg hcx (fun h => h)
      have c0 := hB.cell 0
      have z0 := hB.frozen 0
      have HE' := Lib.hid (HE.out _ hcx)
      clear hcx hB
      go_wp2_with fail
      go_ret2
      exact HE'.out
    have ql : decide ((rest.length : Int) - 4 < ((foll rest).1 : Int)) = false := decide_eq_false (by omega)
    have hpos := foll_pos hf0
    have hr1 := feed_bad h4 hf0 hwl
    have hr2 := feed_good h4 hf0 hwl
    rw [hf0] at HF
    obtain ⟨N, hN⟩ : ∃ N, (foll rest).1 + 4 = N := ⟨_, rfl⟩
    rw [hN] at hr1 hr2
    have eN : ((foll rest).1 : Int) + 4 = (N : Int) := by omega
    have hNl : N ≤ rest.length := by omega
    have hNb : 13 ≤ N ∧ N ≤ 1048576 := by omega
    clear hF hf0 hwl hpos hN c0 c1 z0 z1
    generalize (foll rest).1 = n at *
    have ex1 : (⟨rest.toArray⟩ : ByteArray).extract 0 N = ⟨(rest.take N).toArray⟩ := by rw [extract_S]; simp
    have ex2 : (⟨rest.toArray⟩ : ByteArray).extract N rest.length = ⟨(rest.drop N).toArray⟩ := by
      rw [extract_S, List.take_of_length_le (by simp)]
    have hdl : (rest.drop N).length = rest.length - N := List.length_drop
    have HD := Lib.hid (fun w => decode_calls (rest.take N) w (by simp; omega))
    have Hnm := Lib.hid (decW_nm (rest.take N))
    obtain ⟨m, c, hd⟩ : ∃ m c, decW (rest.take N) = (m, c) := ⟨_, _, rfl⟩
    unfold DecE at HD
    rw [hd] at HD Hnm hr1 hr2
    dsimp only at HD Hnm hr1 hr2
    have Hr1 := Lib.hid hr1
    have Hr2 := Lib.hid hr2
    have Hown := Lib.hid hown
    have Hsep := Lib.hid hsep
    have Hchg := Lib.hid hchg
    have Hfeed := Lib.hid hfeed
    have HB := Lib.hid hB
    clear hd hr1 hr2 hown hsep hchg hfeed hB h4
    generalize rest.take N = hdr at *
    obtain ⟨tl, htl⟩ : ∃ tl, rest.drop N = tl := ⟨_, rfl⟩
    rw [htl] at ex2 hdl Hr2
    clear htl
    go_wp2_with fail
    refine (HF.out wr).mono ?_
    rintro e wx ⟨rfl, hcx⟩
    have Hcx := Lib.hid hcx
    clear hcx
    go_wp2_with fail
    refine (HD.out _).mono ?_
    rintro e wd ⟨L, rfl, hol, hcd⟩
    have hsx := Hcx.out.size
    have hsd := hcd.size
    have hbm := (Blk.new wx 36 Tryz.zeroCells36).chg hcd (fun h => h)
    have hst := stM hbm (by rw [zero_msg]; exact mc_len _ _ (only_dg 0 0)) Hnm.out.hd hol.isl.slc
    have hcs : Chg (fun k => k = wx.heap.size) wd (wd.setRow wx.heap.size (mcells m L)) := Chg.setRow (g := wx.heap.size) (Chg.refl (fun k => k = wx.heap.size) wd) (.inl rfl) _
    have hm : IsM (wd.setRow wx.heap.size (mcells m L)) wx.heap.size m L := Blk.setRow hbm _
    have hcr : Chg (fun _ => False) wr (wd.setRow wx.heap.size (mcells m L)) := ((Hcx.out.alloc _).trans hcd).andThen hcs (fun k hk e => by omega)
    simp only [World.alloc] at hol
    have hol' : OwnL (wd.setRow wx.heap.size (mcells m L)) (wx.heap.size + 1) m L := by
      have h1 := hol
      simp at h1
      exact h1.keep hcs (fun b hb e => by have := (h1.lt hb).1; omega)
    have hgs : g < wx.heap.size := by have := HB.out.lt; omega
    have Hst := Lib.hid hst
    have Hm := Lib.hid hm
    have Hcr := Lib.hid hcr
    have Hol := Lib.hid hol'
    have Hgs := Lib.hid hgs
    clear hol hol' hcd hsd hbm hcs hm hcr hgs hsx Hst
    go_upto_region 13 with fail
    generalize wd.setRow wx.heap.size (mcells m L) = ws at *
    have hB := HB.out.chg Hcr.out (fun h => h)
    have HB' := Lib.hid hB
    by_cases hc0 : c = 0
    case neg =>
      have q1 : ((c : Int) != 0) = true := by rw [bne_iff_ne]; omega
      have c0 := hB.cell 0
      have c1 := hB.cell 1
      have z0 := hB.frozen 0
      have z1 := hB.frozen 1
      have HE := Lib.hid (push_fail Hw.out Hfeed.out (Hr1.out hc0) H.out (own_chg Hown.out Hcr.out (fun _ _ h => h)) (Hsep.out.chg Hcr.out (fun _ _ _ _ h => h)) (Hchg.out.trans Hcr.out))
      clear hB hc0
      go_wp2_with fail
      go_ret2
      exact HE.out
    have hr2 := Hr2.out hc0
    subst hc0
    have hld := ldM Hnm.out.hd Hm.out
    have hbs := bs_msg m L Hnm.out.hd ws
    have hown3 := (own_chg Hown.out Hcr.out (fun _ _ h => h)).alloc (.cells (mcells m L) 36)
    have hslc := (Hol.out.isl).slc
    have hone : ∀ u ∈ mc m L, u.oneCell' = true := fun u hu => by
      have := mcells_one m L hslc
      rw [Array.all_eq_true_iff_forall_mem] at this
      exact this u (by simpa [mcells] using hu)
    have hlen84 : (mc m L).length = 84 := by simpa [mcells] using mc_len m L Hnm.out.hd
    have hwsz := (Hchg.out.trans Hcr.out).size
    have hrd : Reads (ws.alloc (.cells (mcells m L) 36)) (ws.heap.size + 1) 84 (some ⟨ws.heap.size, 0, none⟩) 1 (mc m L) := Reads.many _ _ _ _ _ hlen84 rfl
    have Hr2' := Lib.hid hr2
    clear hr2 hB hcat c0 c1
    have hXb : (X.length + 1) * 312 ≤ 140737488355328 := by omega
    have hXm : X.length + 1 ≤ maxLen := by unfold maxLen; omega
    have hzc : (Value.agg Tryz.zeroCells36).cells.size = 84 := by rw [zero_msg]; exact mc_len _ _ (only_dg 0 0)
    have hbase : w.heap.size ≤ (ws.alloc (.cells (mcells m L) 36)).heap.size := by simp; omega
    have happ := fun (o : Oper) (ops : Array Oper) (rest : List Oper) (a : Act) (Q : Exit → Act → World → Prop) h1 h2 h3 h4 => wpList_append_any (P := Tryz.prog) (ops := ops) (rest := rest) (o := o) (a := a) (Q := Q) (ws.alloc (.cells (mcells m L) 36)) h1 (.tmp 66) (.tmp 68) 47 h2 w.heap.size 36 i0 (.agg Tryz.zeroCells36) 84 312 Tryz.underlying47 hi0 hz0 hz1 hz2 hzc (by decide) u6 X.length (X.flatMap fun x => mc x.1 x.2) h3 hown3 (ws.heap.size + 1) (some ⟨ws.heap.size, 0, none⟩) 1 1 (mc m L) h4 hrd hone hXm hXb hbase
    have Happ := Lib.hid happ
    have Hat := Lib.hid hown3
    clear happ hown3 hrd hone hXm hXb hbase hzc hi0 hz0 hz1 hz2
    go_wp2_with (at_builtin; refine Happ.out _ _ _ _ _ rfl rfl rfl rfl ?_; intro v4 w4 hown4 hgr hat)
    have hw4 : Chg (fun k => u6.ownBlock = some k) (ws.alloc (.cells (mcells m L) 36)) w4 := Chg.of_grown hgr
    have hcra := Hcr.out.alloc (.cells (mcells m L) 36)
    have hsx := Hcx.out.size
    have hs1 : Sep (ws.alloc (.cells (mcells m L) 36)) w.heap.size X := Hsep.out.chg hcra (fun _ _ _ _ h => h)
    have hs2 : Sep (ws.alloc (.cells (mcells m L) 36)) (wx.heap.size + 1) [(m, L)] := by
      have h1 : OwnL (ws.alloc (.cells (mcells m L) 36)) (wx.heap.size + 1) m L := Hol.out.keep ((Chg.refl (fun _ => False) ws).alloc _) (fun _ _ h => h)
      exact ⟨h1, (ws.alloc (.cells (mcells m L) 36)).heap.size + (wx.heap.size + 1), by omega, fun b hb => by have := (h1.lt hb).2; omega, trivial⟩
    have hs3 := Sep.append hs2 hs1 (by have := Hchg.out.size; omega) (fun x hx b hb => by have := ((Hsep.out.mem x hx).lt hb).2; omega)
    refine ⟨⟨X ++ [(m, L)], tl, rfl, ?_, ?_, ?_, ?_, ?_⟩, ?_⟩
    · rw [List.length_append, List.flatMap_append]
      simpa using hown4
    · exact hs3.chg hw4 (fun x hx b hb e => LB.ne (hs3.mem x hx) Hat.out hb e)
    · exact (Hchg.out.trans hcra).andThen hw4 (fun k hk e => by have := (Hat.out.lt k e).1; omega)
    · rw [Hfeed.out, Hr2'.out]
      simp
    · rw [List.length_append]
      simp only [List.length_singleton]
      omega
    · have e : strLen (.string ⟨tl.toArray⟩) = tl.length := strLen_S tl
      rw [e, strLen_S]
      omega
theorem push_calls (g : Nat) (held piece : List UInt8) (st : Nat) (w : World) (h : IsRd w g held st) (hlen : (held ++ piece).length ≤ 2199023255552) : Calls Tryz.prog 26 #[pt g, S piece] w fun e w' => PushE g held st piece w w' e := by
  by_cases hst : st = 0
  · subst hst
    exact push_live g held piece w h hlen
  · exact push_dead g held st piece w h hst
end Go.Proofs.YthkfcfkkamffpaaGreat
