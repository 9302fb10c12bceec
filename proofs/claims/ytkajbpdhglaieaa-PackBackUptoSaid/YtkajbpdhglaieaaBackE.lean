/-
  heartwoodlaw01.back: a Step that was laid is read back; a list of lists of bytes. Printed by gen_back.py.
-/
import Derived.Test.YtkajbpdhglaieaaBack
import Derived.Test.YtkajbpdhglaieaaListB
import Derived.BigQuiet
namespace Go.Proofs.Ytkajbpdhglaieaa
open Go.RowKit
set_option linter.unusedVariables false

theorem be_one (b : UInt8) : Pk.be 1 (b.toNat : Nat) = [b] := by
  have hb := b.toNat_lt
  simp only [Pk.be]
  congr 1
  apply UInt8.toNat_inj.1
  simp
  omega
theorem At.byte {r : Pk.Rd} {b : UInt8} {t : List UInt8} (h : At r [b] t) : byte1 r = (b, ⟨r.s, r.pos + 1, 0⟩) := by
  rw [← be_one] at h
  have h1 := h.take
  have hb := b.toNat_lt
  unfold byte1
  rw [h1]
  simp
theorem flat_ones (l : List UInt8) : (l.map fun b => [b]).flatten = l := by
  induction l with
  | nil => rfl
  | cons b l ih => simp [ih]
theorem At.bytes {r : Pk.Rd} {l t : List UInt8} (h : At r (Pk.text l) t) (hl : l.length ≤ 1099511627776) : rbytes r = (l, ⟨r.s, r.pos + (Pk.text l).length, 0⟩) := by
  have h2 : At r (Pk.free l.length ++ (l.map fun b => [b]).flatten) t := by rw [flat_ones]; exact h
  have h3 := At.lists byte1 (fun b => [b]) (fun _ => True) (fun b r t _ h => by rw [h.byte]; rfl) (fun _ => by simp) l r t 1099511627776 (fun _ _ => trivial) (by omega) (by omega) h2
  rw [flat_ones] at h3
  exact h3

set_option maxHeartbeats 2000000 in
set_option maxRecDepth 100000 in
theorem back_16 (gr : Nat) (x : St) (r : Pk.Rd) (t : List UInt8) (w0 w : World) (hr : MineR w0 w gr r) (hx : x.Ok w0) (hat : At r (Pk.free x.an ++ (x.parts.map Pk.text).flatten) t) (hlen : r.s.length ≤ 4398046511104) (hk : Hid (x.kind = 16)) :
    Calls Try.prog 41 #[.pointer (some ⟨gr, 0, none⟩), .agg x.cells] w fun e w' => e = .returned (.bool true) ∧ MineR w0 w' gr ⟨r.s, r.pos + (Pk.free x.an ++ (x.parts.map Pk.text).flatten).length, 0⟩ := by
  have hpl := Lib.hid hx.pl
  have hnl := Lib.hid hx.nl
  obtain ⟨kind, n, i, s, A, an, ac, parts, B, bn, bc, ns, width, most, bound⟩ := x
  obtain ⟨hn, hi, hkk, hwd, hmo, hbo, hA, hB, hns, hrm⟩ := hx
  unfold St.cells
  dsimp only at *
  have hAg : 0 < an → ∀ ad, A = some ad → ad.block = gr → False := fun hn ad ha e => by have := hA.lt hn ad ha; have := hr.g0; omega
  have hBg : 0 < bn → ∀ ad, B = some ad → ad.block = gr → False := fun hn ad ha e => by have := hB.lt hn ad ha; have := hr.g0; omega
  have hA := hA.chg0 hr.chg
  have hB := hB.chg0 hr.chg
  have hle := hr.is.le
  have hgr0 := hr.is.blk.lt
  obtain ⟨rfl⟩ := hk
  go_enter Try.func41, Try.ntmps41
  go_wp2_with fail
  refine (size_calls _ _).mono ?_
  rintro e w1 ⟨rfl, c1⟩
  have hz : sz 16 = 0 := rfl
  rw [hz]
  clear hz
  have k0 : w1.cell? ⟨w.heap.size, 0, none⟩ = some (.int .i64 16) := cells_keep c1 0
  have k4 : w1.cell? ⟨w.heap.size, 4, none⟩ = some (.slice A an ac) := cells_keep c1 4
  have hA := (hA.alloc _).chg0 c1
  have hB := (hB.alloc _).chg0 c1
  have hr := hr.below (((Chg.refl _ w).alloc _).trans c1)
  have hbg : ¬ (w.heap.size = gr) := fun e => by have := hgr0; omega
  have hgne : gr ≠ w.heap.size := by omega
  have hbs := Blk.lt (((Blk.new w 39 _).chg c1 (fun h => h)))
  have hall : ∀ x ∈ parts, x.length ≤ 4194304 := fun x hx => by have := flat_le hx; omega
  have Hlist := Lib.hid (At.lists rbytes Pk.text (fun x => x.length ≤ 4194304) (fun x r t hx h => h.bytes (by omega)) (fun x => by unfold Pk.text; rw [List.length_append]; have := Pk.free_length_pos x.length; omega) parts r t (an : Int) hall (by rw [hpl.out]; omega) (by rw [hpl.out]; omega) (by rw [hpl.out]; exact hat))
  go_wp2_with fail
  refine (list_rows rbytes gr 87 #[] (an : Int) r _ hr.is (by unfold I64; omega) hlen (fun _ _ => by kernel_rfl) (bytes_reads gr)).mono ?_
  rintro e w2 ⟨v, vs, rfl, hown, hrows, hir, hs2, hch⟩
  rw [Hlist.out] at hown hrows hir
  clear hs2
  have hred : Red _ w2 gr _ := ⟨hir, hch⟩
  have hr2 := hr.red hred
  obtain ⟨ao, cp, rfl⟩ := own_form hown
  have k4 := (hred.2.cell (p := ⟨w.heap.size, 4, none⟩) hbs hbg).trans k4
  have hl1 : Lst w2 ao parts.length vs := Lst.of_own hown
  have hA2 := hA.chg hred.2 (fun hn ad ha hs => hAg hn ad ha hs)
  have hplb : parts.length = an := hpl.out
  obtain ⟨ln, hln⟩ : ∃ ln, ln = parts.length := ⟨_, rfl⟩
  rw [← hln] at hl1 hplb ⊢
  subst hplb
  have Hrows := Lib.hid hrows
  clear hown hrows
  go_wp2_with fail
  go_loopw [14] (fun iv wr => ∃ k j : Nat, k ≤ ln ∧ iv = .int .i64 k ∧ wr = w2.drewN j) (fun iv _ => ln - (intOf iv).toNat)
  case atStart => exact ⟨0, 0, by omega, rfl, rfl⟩
  case round =>
    obtain ⟨k, j, hk, rfl, rfl⟩ := hrel
    by_cases hp : k < ln
    · obtain ⟨b1, off1, u1, rfl, hu1, hcell1⟩ := hl1.at_ hp
      obtain ⟨b2, off2, u2, rfl, hu2, hcell2⟩ := hA2.at_ hp
      obtain ⟨l, hlk, rfl⟩ : ∃ l, parts[k]? = some l ∧ u2 = S l := by
        simp only [strs, List.getElem?_map, Option.map_eq_some_iff] at hu2
        obtain ⟨l, h1, h2⟩ := hu2
        exact ⟨l, h1, h2.symm⟩
      have hrow := Hrows.out.2 k u1 l hu1 hlk
      obtain ⟨ao1, cp1, rfl⟩ := own_form hrow
      have hcv : ∀ m : Nat, (convert 76 9 (.slice ao1 l.length cp1)).run Try.prog ((w2.drewN j).drewN m) = .ok (S l) ((w2.drewN j).drewN m) := fun m =>
        run_convert_own (P := Try.prog) ((w2.drewN j).drewN m) 76 9 5 Try.underlying76 Try.underlying5 Try.underlying9 (own_chg hrow (((Chg.refl (fun _ => False) w2).drewN j).drewN m) (fun _ _ h => h))
      have hcv2 : ∀ m : Nat, (convert 76 9 (.slice ao1 l.length cp1)).run Try.prog (w2.drewN m) = .ok (S l) (w2.drewN m) := fun m =>
        run_convert_own (P := Try.prog) (w2.drewN m) 76 9 5 Try.underlying76 Try.underlying5 Try.underlying9 (own_chg hrow ((Chg.refl (fun _ => False) w2).drewN m) (fun _ _ h => h))
      clear hu1 hu2 hlk hrow
      go_wp2_with fail
      go_quiet (fail)
      go_wp2_with fail
      go_roundw
      case rel => exact ⟨k + 1, j + nq, by omega, by go_num, rfl⟩
      case measure => simp [intOf]; omega
    · go_wp2_with fail
      go_ret
      exact ⟨rfl, by have h9 := hr2.quiet j; rw [← hln] at h9; exact h9⟩
end Go.Proofs.Ytkajbpdhglaieaa
