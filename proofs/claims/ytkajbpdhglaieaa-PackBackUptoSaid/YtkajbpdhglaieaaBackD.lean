/-
  heartwoodlaw01.back: a Step that was laid is read back; a digest. Printed by gen_back.py.
-/
import Derived.Test.YtkajbpdhglaieaaBack
import Derived.Test.YtkajbpdhglaieaaEqd
import Derived.Test.YtkajbpdhglaieaaRdig
import Derived.Deep.RegionLaw
namespace Go.Proofs.Ytkajbpdhglaieaa
open Go.RowKit
set_option linter.unusedVariables false
attribute [local go_sem ↓] loadDig_eq

set_option maxHeartbeats 2000000 in
set_option maxRecDepth 100000 in
theorem back_13 (gr : Nat) (x : St) (r : Pk.Rd) (t : List UInt8) (w0 w : World) (hr : MineR w0 w gr r) (hx : x.Ok w0) (hat : At r ((dig x.s).take (wd x.width)) t) (hlen : r.s.length ≤ 4398046511104) (hk : Hid (x.kind = 13)) :
    Calls Try.prog 41 #[.pointer (some ⟨gr, 0, none⟩), .agg x.cells] w fun e w' => e = .returned (.bool true) ∧ MineR w0 w' gr ⟨r.s, r.pos + ((dig x.s).take (wd x.width)).length, 0⟩ := by
  have hpl := Lib.hid hx.pl
  have hnl := Lib.hid hx.nl
  obtain ⟨kind, n, i, s, A, an, ac, parts, B, bn, bc, ns, width, most, bound⟩ := x
  obtain ⟨hn, hi, hkk, hwd, hmo, hbo, hA, hB, hns, hrm⟩ := hx
  unfold St.cells
  dsimp only at *
  have hAg : 0 < an → ∀ ad, A = some ad → ad.block = gr → False := fun hn ad ha e => by have := hA.lt hn ad ha; have := hr.g0; omega
  have hBg : 0 < bn → ∀ ad, B = some ad → ad.block = gr → False := fun hn ad ha e => by have := hB.lt hn ad ha; have := hr.g0; omega
  have hA := hA.chg0 hr.chg
  have hB := hB.chg0 hr.chg
  have hle := hr.is.le
  have hgr0 := hr.is.blk.lt
  obtain ⟨rfl⟩ := hk
  go_enter Try.func41, Try.ntmps41
  go_wp2_with fail
  refine (size_calls _ _).mono ?_
  rintro e w1 ⟨rfl, c1⟩
  have hz : sz 13 = 0 := rfl
  rw [hz]
  clear hz
  have k0 : w1.cell? ⟨w.heap.size, 0, none⟩ = some (.int .i64 13) := cells_keep c1 0
  have k3 : w1.cell? ⟨w.heap.size, 3, none⟩ = some (S s) := cells_keep c1 3
  have k6 : w1.cell? ⟨w.heap.size, 6, none⟩ = some (.int .i64 width) := cells_keep c1 6
  have hA := (hA.alloc _).chg0 c1
  have hB := (hB.alloc _).chg0 c1
  have hr := hr.below (((Chg.refl _ w).alloc _).trans c1)
  have hbg : ¬ (w.heap.size = gr) := fun e => by have := hgr0; omega
  have hgne : gr ≠ w.heap.size := by omega
  have hbs := Blk.lt (((Blk.new w 39 _).chg c1 (fun h => h)))
  go_wp2_with fail
  refine (digest_calls s _ (by omega)).mono ?_
  rintro e w2 ⟨rfl, c2⟩
  have k6 := (c2.cell (p := ⟨w.heap.size, 6, none⟩) hbs (fun h => h)).trans k6
  have hbs2 : w.heap.size < w2.heap.size := Nat.lt_of_lt_of_le hbs c2.size
  have hr := hr.below c2
  have hdl := dig_length s
  have hsz : (bys (dig s)).toArray.size = 32 := by simp [bys, hdl]
  have hone := dig_one (dig s)
  have hz1 : Blk (w2.alloc (.cells (dgc [] 0) 65)) w2.heap.size 65 (dgc [] 0) := Blk.new w2 _ (dgc [] 0)
  obtain ⟨cs, hcs⟩ : ∃ cs, cs = (bys (dig s)).toArray := ⟨_, rfl⟩
  rw [← hcs] at hsz hone ⊢
  have hz2 := hz1.setRow cs
  have cz := ((Chg.refl (fun _ => False) w2).alloc (.cells (dgc [] 0) 65)).setRow (g := w2.heap.size) (.inr (Nat.le_refl _)) cs
  have k6' : ∀ (o : Obj) (cs : Array Value), ((w2.alloc o).setRow w2.heap.size cs).cell? ⟨w.heap.size, 6, none⟩ = some (.int .i64 width) := fun o cs => ((((Chg.refl (fun _ => False) w2).alloc o).setRow (g := w2.heap.size) (.inr (Nat.le_refl _)) cs).cell (p := ⟨w.heap.size, 6, none⟩) hbs2 (fun h => h)).trans k6
  have Hz2 := Lib.hid hz2
  have Hcz := Lib.hid cz
  have Hcs := Lib.hid hcs
  have Hsz := Lib.hid hsz
  have hwd3 : (width < 0 ∧ wd width = 0) ∨ ((0 ≤ width ∧ width ≤ 32) ∧ (wd width : Int) = width) ∨ (32 < width ∧ wd width = 32) := by
    rcases (show width < 0 ∨ (0 ≤ width ∧ width ≤ 32) ∨ 32 < width by omega) with h0 | ⟨h0, h1⟩ | h0
    · exact .inl ⟨h0, wd_neg h0⟩
    · exact .inr (.inl ⟨⟨h0, h1⟩, wd_mid h0 h1⟩)
    · exact .inr (.inr ⟨h0, wd_big h0⟩)
  have hwd2 := wd_le width
  obtain ⟨n0, hn0⟩ : ∃ n0, n0 = wd width := ⟨_, rfl⟩
  rw [← hn0] at hwd3 hwd2
  have Hn0 := Lib.hid hn0
  clear hsz hcs hz2 cz hdl hn0
  rcases hwd3 with ⟨p0, p1⟩ | ⟨⟨p0, p0'⟩, p1⟩ | ⟨p0, p1⟩
  all_goals
    have P1 := Lib.hid p1
    clear p1
    go_wp2_with (refine wpList_store_row rfl 65 (.tmp 8) (.tmp 92) rfl w2.heap.size cs rfl rfl 65 (dgc [] 0) hz1 (by rw [Hsz.out]; exact info_digest) (by rw [Hsz.out]; rfl) hone ?_)
    all_goals
      go_loopw [9] (fun iv wr => ∃ k : Nat, n0 ≤ k ∧ k ≤ 32 ∧ iv = .int .i64 k ∧ Blk wr w2.heap.size 65 (dgz (dig s) n0 k) ∧ Chg (fun _ => False) w2 wr) (fun iv _ => 32 - (intOf iv).toNat)
      case atStart => exact ⟨n0, Nat.le_refl _, hwd2, by have := P1.out; first | (rw [this]; rfl) | (congr 1; omega), by rw [dgz_start, ← Hcs.out]; exact Hz2.out, Hcz.out⟩
      case round =>
        obtain ⟨k, hk0, hk1, rfl, hb, hc⟩ := hrel
        have f1 := hb.frozen k
        by_cases hk : k < 32
        · obtain ⟨b0, hb0⟩ := dgz_at (dig s) n0 k hk0 (by rw [dig_length]; exact hk)
          have d1 : wr.cell? ⟨w2.heap.size, k, none⟩ = some (.int .u8 b0.toNat) := by rw [hb.cell]; exact hb0
          clear hb0
          go_wp2_with fail
          go_roundw
          case rel =>
            refine ⟨k + 1, by omega, by omega, by go_num, ?_, hc.setCell (.inr (Nat.le_refl _)) _⟩
            rw [← dgz_set (dig s) n0 k hk0 (by rw [dig_length]; exact hk)]
            exact hb.set_ k _
          case measure => simp [intOf]; omega
        · obtain rfl : k = 32 := by omega
          have hbl : ((dig s).take (wd width)).length = wd width := by have := wd_le width; rw [List.length_take, dig_length]; omega
          have hraw := hat.raw
          rw [hbl] at hraw
          rw [dgz_end (dig s) n0 (dig_length s) hwd2, Hn0.out] at hb
          have hcmp : ∀ w : World, (binOp .eql 65 (.agg (bys (dig ((dig s).take (wd width)))).toArray) (.agg (bys (dig ((dig s).take (wd width)))).toArray)).run Try.prog w = .ok (.bool true) w := fun w => by rw [eql_digest _ _ (dig_length _) (dig_length _)]; simp
          have hgd := guard_digest
          have hsz : (bys (dig ((dig s).take (wd width)))).toArray.size = 32 := by simp [bys, dig_length]
          obtain ⟨cs2, hcs2⟩ : ∃ cs2, cs2 = (bys (dig ((dig s).take (wd width)))).toArray := ⟨_, rfl⟩
          rw [← hcs2] at hb hcmp hsz
          have Hcs2 := Lib.hid hcs2
          have Hsz2 := Lib.hid hsz
          have Hraw := Lib.hid hraw
          have Hbl := Lib.hid hbl
          have hr := hr.below hc
          have k6 := (hc.cell (p := ⟨w.heap.size, 6, none⟩) hbs2 (fun h => h)).trans k6
          have hng : ¬ (w2.heap.size = gr) := fun e => by have := hr.g0; have := hgr0; omega
          have hld := loadDig_of hb.drew Hsz2.out
          clear hcs2 hsz hraw hbl k6' f1
          go_wp2_with fail
          go_region_with (go_at_call 35; refine (rdigest_calls gr width r _ ?_).mono ?_; exact hr.is.drewN 1; rintro e w5 ⟨rfl, hred⟩; rw [Hraw.out] at hred ⊢; simp only [← Hcs2.out]; have hld5 := loadDig_of (hb.drew.chg hred.2 hng) Hsz2.out)
          all_goals
            have hr2 := (hr.quiet 1).red hred
            go_wp2_with fail
            go_ret
            exact ⟨rfl, by rw [Hbl.out]; exact hr2⟩
end Go.Proofs.Ytkajbpdhglaieaa
