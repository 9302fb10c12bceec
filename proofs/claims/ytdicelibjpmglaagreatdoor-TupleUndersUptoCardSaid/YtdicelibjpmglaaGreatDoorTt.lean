/-
  Layer 3: items appended; bytes as a source; Unpack of the byte 01.
-/
import Derived.Test.YtdicelibjpmglaaGreatDoorTr
namespace Go.Proofs.YtdicelibjpmglaaGreatDoor
open Go.RowKit
set_option linter.unusedVariables false
set_option linter.unusedSimpArgs false
attribute [local go_sem] run_store_float
open Tp (It)

theorem info_item : (Tryz.prog.info? 40).map (fun i => (i.zero, i.size, i.bytes)) = some (some (.agg #[.int .u8 0, .bool false, .int .i64 0, .float .f64 0, .string ⟨#[]⟩, .slice none 0 0]), 6, 64) := by kernel_rfl
/-- a text's bytes as new memory -/
theorem bytes_src (w : World) (l : List UInt8) (hl : l.length ≤ 1000000) : ∃ (c : Nat) (wb : World), (convert 9 51 (S l)).run Tryz.prog w = .ok (.slice (some ⟨w.heap.size, 0, none⟩) l.length c) wb ∧
    Reads wb (w.heap.size + 1) 1 (some ⟨w.heap.size, 0, none⟩) l.length (bys l) ∧ l.length ≤ c ∧ c ≤ maxLen ∧ Chg (fun _ => False) w wb ∧ wb.heap.size = w.heap.size + 1 := by
  have e : (⟨l.toArray⟩ : ByteArray).size = l.length := by simp [ByteArray.size]
  have hr := run_bytes_of_string w 9 51 5 ⟨l.toArray⟩ Tryz.underlying9 Tryz.underlying51 Tryz.underlying5
  have hge := grownCap_ge w (⟨l.toArray⟩ : ByteArray).size 0 5
  have hle := grownCap_le_maxLen w (⟨l.toArray⟩ : ByteArray).size 0 5 (by rw [e]; unfold maxLen; omega)
  generalize grownCap w (⟨l.toArray⟩ : ByteArray).size 0 5 = c at hr hge hle
  rw [e] at hr hge
  have hg : ∀ j (h : j < l.length), (bytesRow ⟨l.toArray⟩ c)[j]? = some (.int .u8 (l[j].toNat : Int)) := by
    intro j h
    unfold bytesRow
    rw [Array.getElem?_append_left (by simpa using h)]
    simp [h]
  generalize bytesRow ⟨l.toArray⟩ c = R at hr hg
  have hh : (w.drew.alloc (.cells R 5 (R.size, R.size + 1))).heap[w.heap.size]? = some (.cells R 5 (R.size, R.size + 1)) := heap_alloc_new w.drew _
  refine ⟨_, _, hr, ⟨by simp [bys], fun hn => ⟨_, rfl, Nat.lt_succ_self _, fun j u hu => ?_⟩⟩, hge, hle, ((Chg.refl _ w).drew).alloc _, by simp⟩
  have hadd : (⟨w.heap.size, 0, none⟩ : Addr).add j = ⟨w.heap.size, j, none⟩ := by unfold Addr.add; split <;> simp_all
  have hj : j < l.length := by have := (List.getElem?_eq_some_iff.1 hu).1; simpa [bys] using this
  rw [hadd, cell_of_row _ _ _ _ _ _ hh, hg j hj, ← hu]
  simp [bys, hj]
theorem Reads.item (w : World) (c : Array Value) (xs : List Value) (hx : xs.length = 6) (hc : c = xs.toArray) : Reads (w.alloc (.cells c 40)) (w.heap.size + 1) 6 (some ⟨w.heap.size, 0, none⟩) 1 xs :=
  ⟨by omega, fun _ => ⟨_, rfl, Nat.lt_succ_self _, fun j u hu => by
    have hadd : (⟨w.heap.size, 0, none⟩ : Addr).add j = ⟨w.heap.size, j, none⟩ := by unfold Addr.add; split <;> simp_all
    rw [hadd, (Blk.new w _ c).cell, hc]
    simpa using hu⟩⟩

theorem Reads.item1 (w : World) (o1 : Obj) (c : Array Value) (xs : List Value) (hx : xs.length = 6) (hc : c = xs.toArray) : Reads ((w.alloc o1).alloc (.cells c 40)) (w.heap.size + 1 + 1) 6 (some ⟨w.heap.size + 1, 0, none⟩) 1 xs := by
  have := Reads.item (w.alloc o1) c xs hx hc
  rwa [show (w.alloc o1).heap.size = w.heap.size + 1 by simp] at this

set_option maxHeartbeats 4000000 in
set_option maxRecDepth 100000 in
theorem unpack_null (w : World) :
    Calls Tryz.prog 12 #[S [1]] w fun e w' =>
      ∃ g cap, e = .returned (.tuple #[.slice (some ⟨g, 0, none⟩) 1 cap, .int .i64 0]) ∧ w'.cell? ⟨g, 0, none⟩ = some (.int .u8 1) ∧ Chg (fun _ => False) w w' := by
  obtain ⟨i0, hi, hz0, hz1, hz2⟩ := info_parts info_item
  obtain ⟨c, wb, hcv, hrd, hlc, hcm, hcb, hsb⟩ := bytes_src w [1] (by simp)
  simp only [List.length_cons, List.length_nil, Nat.zero_add] at hcv hrd hlc
  have Hsrc := Lib.hid (show Src (wb.alloc (.cells #[.slice (some ⟨w.heap.size, 0, none⟩) 1 c, .int .i64 0] 53)) wb.heap.size [1] 0 from ⟨_, c, Blk.new wb _ _, (by rw [hsb]; exact hrd.alloc (by omega) _), hlc, hcm⟩)
  have b0 : (wb.alloc (.cells #[.slice (some ⟨w.heap.size, 0, none⟩) 1 c, .int .i64 0] 53)).cell? ⟨wb.heap.size, 0, none⟩ = some (.slice (some ⟨w.heap.size, 0, none⟩) 1 c) := by rw [(Blk.new wb _ _).cell]; rfl
  have Hcb := Lib.hid (hcb.alloc (.cells #[.slice (some ⟨w.heap.size, 0, none⟩) 1 c, .int .i64 0] 53))
  have hsz : (wb.alloc (.cells #[.slice (some ⟨w.heap.size, 0, none⟩) 1 c, .int .i64 0] 53)).heap.size = wb.heap.size + 1 := by simp
  have Hsb := Lib.hid hsb
  clear hrd hlc hcm hcb hsb
  go_enter Tryz.func12, Tryz.ntmps12
  go_wp2_with fail
  obtain ⟨W1, hW1⟩ : ∃ W1, W1 = wb.alloc (.cells #[.slice (some ⟨w.heap.size, 0, none⟩) 1 c, .int .i64 0] 53) := ⟨_, rfl⟩
  rw [← hW1] at Hsrc b0 Hcb hsz ⊢
  clear hW1
  go_loopw [5] (fun lv wr => (lv = .slice none 0 0 ∧ wr = W1) ∨ (∃ gl cap, lv = .slice (some ⟨gl, 0, none⟩) 1 cap ∧ wr.cell? ⟨gl, 0, none⟩ = some (.int .u8 1) ∧ Src wr wb.heap.size [] 1 ∧ Chg (fun _ => False) w wr)) (fun lv _ => match lv with | .slice none _ _ => 1 | _ => 0)
  case atStart => exact .inl ⟨rfl, rfl⟩
  case round =>
    rcases hrel with ⟨rfl, rfl⟩ | ⟨gl, cap, rfl, hgl, hsrc, hcw⟩
    · have HI := Lib.hid (item_null wb.heap.size wr Hsrc.out)
      go_wp2_with fail
      refine HI.out.mono ?_
      rintro e w3 ⟨rfl, hs3, hc3⟩
      have hsz3 := hc3.size
      have hne3 : w3.heap.size ≠ wb.heap.size := by omega
      go_wp2_with (at_builtin; refine wpList_append_any _ rfl (.tmp 24) (.tmp 26) _ rfl wr.heap.size 40 i0 _ 6 64 Tryz.underlying22 hi hz0 hz1 hz2 rfl (by omega) _ 0 [] rfl (World.ownsRow_nil _ _ _ _) (w3.heap.size + 1 + 1) (some ⟨w3.heap.size + 1, 0, none⟩) 1 1 (icells 1 false 0 0 [] (.slice none 0 0)) rfl (Reads.item1 w3 _ _ _ rfl rfl) (by simp [Value.oneCell', icells]) (by unfold maxLen; omega) (by omega) (by simp; omega) ?_; intro v4 w4 hown4 hgr4 hat; obtain ⟨gl, cap, rfl, -, -⟩ := hown4.form (by omega))
      go_roundw
      case rel =>
        have hgl : wr.heap.size ≤ gl := (hown4.lt gl rfl).1
        have hcell := hown4.cells (g := gl) rfl 0 (.int .u8 1) rfl
        have hc4 : Chg (fun _ => False) w3 w4 := ((((Chg.refl (fun _ => False) w3).alloc _).alloc _).grown hgr4 (fun k hk => by have h0 : (none : Option Nat) = some k := hk; cases h0))
        refine .inr ⟨gl, cap, rfl, ?_, hs3.keep hc4 , ((Hcb.out).andThen hc3 ?_).trans hc4⟩
        · simpa [Addr.add] using hcell
        · intro k hk e
          have := Hsb.out
          omega
      case measure => simp
    · obtain ⟨A2, cap2, hb2, hrr, hcc⟩ := hsrc
      have e0 : wr.cell? ⟨wb.heap.size, 0, none⟩ = some (.slice A2 0 cap2) := by rw [hb2.cell]; rfl
      have Hg := Lib.hid hgl
      have Hcw := Lib.hid hcw
      clear hgl hcw hb2 hrr hcc
      go_wp2_with fail
      go_ret2
      exact ⟨gl, cap, rfl, Hg.out, Hcw.out⟩
end Go.Proofs.YtdicelibjpmglaaGreatDoor
