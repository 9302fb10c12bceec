/-
  Layer 27: what follows a frame's first four bytes; Decode's two closures.
-/
import Derived.Test.YthkfcfkkamffpaaGreatYk
import Derived.Defers
import Derived.Recover
namespace Go.Proofs.YthkfcfkkamffpaaGreat
open Go.RowKit
set_option linter.unusedVariables false
set_option linter.unusedSimpArgs false
open Wm (M)
theorem rtake4 {s : List UInt8} (h : s.length = 4) : (Pk.Rd.take ⟨s, 0, 0⟩ 4).1 = Pk.num s := by
  unfold Pk.Rd.take
  rw [if_neg (by simp), if_neg (by simp [Pk.Rd.left, h])]
  show Pk.num (List.take 4 s) = _
  rw [List.take_of_length_le (by omega)]
theorem num4 {s : List UInt8} (h : s.length = 4) : Pk.num s < 4294967296 := by
  have := num_lt s 4 (by omega)
  simpa using this
theorem tk32 {n : Nat} (h : n < 4294967296) : tk .u32 n = n := by
  unfold tk; rw [IntKind.wrap_u32']; omega
theorem run_panic_i {P : Program} (t : TypeId) (v : Value) (w : World) : (Instr.panic (.iface t v)).run P w = .halt (.panic (.iface t v)) w := rfl
/-- v is the number of four bytes -/
def FolE (s : List UInt8) (w w' : World) (e : Ending) : Prop := e = .returned (.tuple #[.int .i64 ((foll s).1 : Nat), .int .i64 ((foll s).2 : Nat)]) ∧ Chg (fun _ => False) w w'
set_option maxHeartbeats 2000000 in
set_option maxRecDepth 100000 in
theorem follow_calls (s : List UInt8) (w : World) (h4 : 4 ≤ s.length) (hsl : s.length ≤ 140737488355328) : Calls Tryz.prog 51 #[S s] w fun e w' => FolE s w w' e := by
  have hl : (s.take 4).length = 4 := by simp; omega
  have hn := num4 hl
  have HO := Lib.hid (open_calls (s.take 4) w (by omega))
  have HT := fun (w : World) h => take_uint32 w.heap.size ⟨s.take 4, 0, 0⟩ h
  have Hfo : foll s = if Pk.num (s.take 4) < 9 then (0, 271) else if 1048576 < Pk.num (s.take 4) + 4 then (0, 4) else (Pk.num (s.take 4), 0) := rfl
  have Hfo := Lib.hid Hfo
  have HT' : ∀ (w1 : World), IsR w1 w.heap.size ⟨s.take 4, 0, 0⟩ → Calls Tryz.prog 54 #[pt w.heap.size] w1 fun e w' => e = .returned (.int .u32 (Pk.num (s.take 4))) ∧ Chg (fun k => k = w.heap.size) w1 w' := fun w1 h => by
    refine (take_uint32 w.heap.size ⟨s.take 4, 0, 0⟩ w1 h).mono fun e w' ⟨h1, h2⟩ => ⟨?_, h2.2⟩
    rw [h1, rtake4 hl, tk32 hn]
  have HT' := Lib.hid HT'
  generalize Pk.num (s.take 4) = n at *
  clear HT hl
  have Hn := Lib.hid hn
  have hle : s.length ≤ 140737488355328 := hsl
  go_enter Tryz.func51, Tryz.ntmps51
  by_cases h9 : n < 9
  · have d9 : decide ((n : Int) < 9) = true := decide_eq_true (by omega)
    have d9' : decide (n < 9) = true := decide_eq_true h9
    have H9 := Lib.hid h9
    clear h9
    go_wp2_with fail
    rw [extract_S]
    refine HO.out.mono ?_
    rintro e w1 ⟨rfl, h1, hb, _⟩
    have Hb := Lib.hid (Chg.of_below hb (fun _ => False))
    have H1 := Lib.hid h1
    clear h1 hb
    go_wp2_with fail
    refine (HT'.out w1 H1.out).mono ?_
    rintro e w2 ⟨rfl, hc⟩
    have Hc := Lib.hid hc
    clear hc
    go_wp2_with fail
    go_ret2
    exact ⟨by rw [Hfo.out, if_pos H9.out]; rfl, Hb.out.andThen Hc.out (fun k hk e => by omega)⟩
  · have d9 : decide ((n : Int) < 9) = false := decide_eq_false (by omega)
    have d9' : decide (n < 9) = false := decide_eq_false h9
    have H9 := Lib.hid h9
    clear h9
    by_cases hb : 1048576 < n + 4
    · have d8 : decide ((1048576 : Int) < (n : Int) + 4) = true := decide_eq_true (by omega)
      have Hbig := Lib.hid hb
      clear hb
      go_wp2_with fail
      rw [extract_S]
      refine HO.out.mono ?_
      rintro e w1 ⟨rfl, h1, hb, _⟩
      have Hb := Lib.hid (Chg.of_below hb (fun _ => False))
      have H1 := Lib.hid h1
      clear h1 hb
      go_wp2_with fail
      refine (HT'.out w1 H1.out).mono ?_
      rintro e w2 ⟨rfl, hc⟩
      have Hc := Lib.hid hc
      clear hc
      go_wp2_with fail
      go_ret2
      exact ⟨by rw [Hfo.out, if_neg H9.out, if_pos Hbig.out]; rfl, Hb.out.andThen Hc.out (fun k hk e => by omega)⟩
    · have d8 : decide ((1048576 : Int) < (n : Int) + 4) = false := decide_eq_false (by omega)
      have Hbig := Lib.hid hb
      clear hb
      go_wp2_with fail
      rw [extract_S]
      refine HO.out.mono ?_
      rintro e w1 ⟨rfl, h1, hb, _⟩
      have Hb := Lib.hid (Chg.of_below hb (fun _ => False))
      have H1 := Lib.hid h1
      clear h1 hb
      go_wp2_with fail
      refine (HT'.out w1 H1.out).mono ?_
      rintro e w2 ⟨rfl, hc⟩
      have Hc := Lib.hid hc
      clear hc
      go_wp2_with fail
      go_ret2
      exact ⟨by rw [Hfo.out, if_neg H9.out, if_neg Hbig.out]; rfl, Hb.out.andThen Hc.out (fun k hk e => by omega)⟩
set_option maxHeartbeats 2000000 in
set_option maxRecDepth 100000 in
theorem give_no (w : World) : Calls Tryz.prog 53 #[.bool false] w fun e w' => e = .returned (.tuple #[]) ∧ w = w' := by
  go_enter Tryz.func53, Tryz.ntmps53
  go_wp2_with fail
  go_end0
  exact ⟨rfl, rfl⟩
def badP (up : Bool) : PanicEntry := { v := .iface 101 (.agg #[]), recovered := up }
set_option maxHeartbeats 2000000 in
set_option maxRecDepth 100000 in
theorem give_yes (w : World) : Calls Tryz.prog 53 #[.bool true] w fun e w' => e = .panicked [badP false] ∧ w = w' := by
  have hp := fun v w => run_panic_i (P := Tryz.prog) 101 v w
  go_enter Tryz.func53, Tryz.ntmps53
  go_wp2_with fail
  exact ⟨rfl, rfl, rfl⟩
theorem zero_agg : Value.agg Tryz.zeroCells36 = .agg (mcells zeroM nolist) := by rw [zero_msg]; rfl
theorem st_zero {w : World} {g : Nat} {m : M} {L : Ls} (hd : Dg m) (h : IsM w g m L) : (stAgg 36 (.pointer (some ⟨g, 0, none⟩)) (.agg Tryz.zeroCells36)).run Tryz.prog w = .ok () (w.setRow g (mcells zeroM nolist)) := by
  rw [zero_agg]
  exact stM h (mc_len m L hd) (only_dg 0 0) slc_no
attribute [local go_sem ↓] ld_msg st_msg
set_option maxHeartbeats 2000000 in
set_option maxRecDepth 100000 in
theorem catch_panicking (g2 g3 : Nat) (m : M) (L : Ls) (c : Int) (older : List PanicEntry) (w : World) (hd : Dg m) (h2 : IsM w g2 m L) (h3 : Blk w g3 24 #[.int .i64 c]) (hne : g2 ≠ g3) :
    CallsD Tryz.prog 52 #[pt g2, pt g3] (.panicking (badP false :: older)) w fun e u' w' =>
      e = .returned (.tuple #[]) ∧ u' = .panicking (badP true :: older) ∧ IsM w' g2 zeroM nolist ∧ Blk w' g3 24 #[.int .i64 271] ∧ Chg (fun k => k = g2 ∨ k = g3) w w' := by
  have hta : ∀ w, (Instr.typeAssert (.iface 101 (.agg #[])) 20 101 true).run Tryz.prog w = .ok (.tuple #[.agg #[], .bool true]) w := fun _ => by kernel_rfl
  have h2' : IsM (w.alloc (.cells #[] 101)) g2 m L := h2.alloc _
  have hst := st_zero hd h2'
  have h2'' : IsM ((w.alloc (.cells #[] 101)).setRow g2 (mcells zeroM nolist)) g2 zeroM nolist := Blk.setRow h2' _
  have hcx : Chg (fun k => k = g2) w ((w.alloc (.cells #[] 101)).setRow g2 (mcells zeroM nolist)) := Chg.setRow (g := g2) ((Chg.refl (fun k => k = g2) w).alloc _) (.inl rfl) _
  have h3' := h3.chg hcx (fun e => hne e.symm)
  have f0 : ((w.alloc (.cells #[] 101)).setRow g2 (mcells zeroM nolist)).cell? ⟨g3, 0, none⟩ = some (.int .i64 c) := h3'.cell 0
  have z0 := h3'.frozen 0
  have H2 := Lib.hid h2''
  have H3 := Lib.hid h3'
  have Hcx := Lib.hid hcx
  clear h2 h2' h2'' h3 h3' hcx
  refine callsD_of_wpS Tryz.func52 rfl fun c₀ cs hu => ?_
  unfold badP at hu
  change Code.wpS _ _ _ { tmps := #[.pointer (some ⟨g2, 0, none⟩), .pointer (some ⟨g3, 0, none⟩), undef, undef, undef, undef, undef, undef, undef, undef, undef, undef, undef, undef, undef, undef, undef], defers := [] } _ _
  apply wpS_seq
  apply wpS_region
  simp [wpOpsS, go_sem, recoverD, hu, Exit.thenS]
  refine wpS_of_wp ?_
  go_wp2_with fail
  refine ⟨rfl, _, rfl, .tuple #[], by simp [results, Tryz.results52], rfl, rfl, ?_, ?_, ?_⟩
  · exact Blk.far H2.out (by simpa using hne) _
  · exact Blk.set_ H3.out 0 _
  · exact (Hcx.out.mono (fun k _ h => .inl h)).setCell (.inl (.inr rfl)) _
set_option maxHeartbeats 2000000 in
set_option maxRecDepth 100000 in
theorem catch_idle (g2 g3 : Nat) (w : World) :
    CallsD Tryz.prog 52 #[pt g2, pt g3] .returning w fun e u' w' => e = .returned (.tuple #[]) ∧ u' = .returning ∧ w' = w := by
  refine callsD_of_wpS Tryz.func52 rfl fun c₀ cs hu => ?_
  change Code.wpS _ _ _ { tmps := #[.pointer (some ⟨g2, 0, none⟩), .pointer (some ⟨g3, 0, none⟩), undef, undef, undef, undef, undef, undef, undef, undef, undef, undef, undef, undef, undef, undef, undef], defers := [] } _ _
  apply wpS_seq
  apply wpS_region
  simp [wpOpsS, go_sem, recoverD, hu, Exit.thenS]
  refine wpS_of_wp ?_
  go_wp2_with fail
  obtain ⟨_, _, _, _, _, _, _⟩ := c₀
  dsimp only at hu
  subst hu
  exact ⟨rfl, _, rfl, .tuple #[], by simp [results, Tryz.results52], rfl, rfl, rfl⟩
end Go.Proofs.YthkfcfkkamffpaaGreat
