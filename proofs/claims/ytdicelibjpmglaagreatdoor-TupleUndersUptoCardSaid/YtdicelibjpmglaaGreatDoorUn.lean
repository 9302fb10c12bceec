/-
  Layer 3: the program's Under.
-/
import Derived.Test.YtdicelibjpmglaaGreatDoorBj
import Derived.Test.YtdicelibjpmglaaGreatDoorTm
import Derived.BigQuiet
import Derived.Deep.QuietTactic
namespace Go.Proofs.YtdicelibjpmglaaGreatDoor
open Go.RowKit
set_option linter.unusedVariables false
set_option linter.unusedSimpArgs false
attribute [local go_sem] run_store_float
open Tp (It)

theorem conv_cells (W : World) (g c : Nat) (l : List UInt8) (h : ∀ j b, l[j]? = some b → W.cell? ⟨g, j, none⟩ = some (.int .u8 b.toNat)) :
    (convert 51 9 (.slice (some ⟨g, 0, none⟩) l.length c)).run Tryz.prog W = .ok (S l) W := by
  refine run_convert_bytes_back (P := Tryz.prog) W 51 9 5 ⟨g, 0, none⟩ c l Tryz.underlying51 Tryz.underlying5 Tryz.underlying9 fun j hj => ?_
  have hadd : (⟨g, 0, none⟩ : Addr).add j = ⟨g, j, none⟩ := by unfold Addr.add; split <;> simp_all
  rw [hadd, h j _ (List.getElem?_eq_getElem hj)]
theorem pack_eq {l : List It} {c : Int} (h : Tp.check l = c) : Tp.pack l = if c = 0 then Tp.byt l else [] := by unfold Tp.pack; rw [h]

set_option maxHeartbeats 4000000 in
set_option maxRecDepth 100000 in
theorem under_calls {w0 : World} {B : Nat} {v : Value} {l : List It} (hrow : Row w0 B v l) (hG : Glob w0 B) (w : World) (hk : Keep w0 B w) (hs : Tp.sz l ≤ 1000000000000) :
    Calls Tryz.prog 22 #[v] w fun e w' => e = .returned (.tuple #[S (Tp.pack l), S (Tp.next (Tp.pack l)), .int .i64 (Tp.check l)]) ∧ Chg (fun _ => False) w w' := by
  have HP := Lib.hid (pack_calls hrow hG w hk hs)
  obtain ⟨A, cap, rfl, -, -⟩ := hrow.slice
  obtain ⟨c, hc⟩ : ∃ c, Tp.check l = c := ⟨_, rfl⟩
  have hq1 := pack_eq hc
  have hq2 : c = 0 → Tp.pack l ≠ [] → (Tp.pack l).length ≤ 4096 ∧ ∃ x r, Tp.pack l = x :: r ∧ x ≠ 255 := fun h0 hn => by
    obtain ⟨-, -, h3, h4⟩ := Tp.check_ok (hc.trans h0)
    rw [if_pos h0] at hq1
    rw [hq1] at hn ⊢
    exact ⟨h4, Tp.byt_first h3 hn⟩
  rw [hc] at HP ⊢
  obtain ⟨q, hq⟩ : ∃ q, Tp.pack l = q := ⟨_, rfl⟩
  rw [hq] at HP hq1 hq2 ⊢
  clear hrow hG hk hs hc hq
  by_cases h0 : c = 0
  · subst h0
    cases q with
    | nil =>
      clear hq1 hq2
      go_enter Tryz.func22, Tryz.ntmps22
      go_wp2_with fail
      refine HP.out.mono ?_
      rintro e w2 ⟨rfl, hc2⟩
      go_wp2_with fail
      go_ret3
      exact ⟨rfl, hc2⟩
    | cons y r =>
      obtain ⟨hl4, hfirst⟩ := hq2 rfl (by simp)
      clear hq1 hq2
      have hne : (y :: r) ≠ [] := by simp
      have hlen1 : r.length + 1 = (y :: r).length := rfl
      obtain ⟨q, hq⟩ : ∃ q, q = y :: r := ⟨_, rfl⟩
      rw [← hq] at HP hl4 hfirst hne hlen1 ⊢
      have hqb : (q == []) = false := by rw [hq]; rfl
      obtain ⟨n, hn⟩ : ∃ n, r.length = n := ⟨_, rfl⟩
      rw [hn] at hlen1
      clear hq hn
      have Hlen1 := Lib.hid hlen1
      have Hfirst := Lib.hid hfirst
      have hne1 : n < 4096 := by omega
      clear hlen1 hfirst hne
      go_enter Tryz.func22, Tryz.ntmps22
      go_wp2_with fail
      refine HP.out.mono ?_
      rintro e w2 ⟨rfl, hc2⟩
      obtain ⟨cp, wb, hcv, hcells, hfz, hcp, hcm, hcb, hsb⟩ := bytes_own w2 q (by omega)
      have Hch := Lib.hid (hc2.trans hcb)
      have Hcells := Lib.hid hcells
      have Hfz := Lib.hid hfz
      rw [← Hlen1.out] at hcv hcp
      obtain ⟨g, hg⟩ : ∃ g, w2.heap.size = g := ⟨_, rfl⟩
      have hsb2 : w.heap.size ≤ g := by have := hc2.size; omega
      rw [hg] at hcv Hcells Hfz hsb
      unfold maxLen at hcm
      clear hcells hfz hc2 hcb hg
      go_wp2_with fail
      go_loopw [5] (fun bv wr => ∃ j : Nat, j ≤ n ∧ bv = .slice (some ⟨g, 0, none⟩) (j + 1) cp ∧ Tp.next (q.take (j + 1)) = Tp.next q ∧ (∀ i b, q[i]? = some b → wr.cell? ⟨g, i, none⟩ = some (.int .u8 b.toNat)) ∧ (∀ i, i < q.length → wr.frozen? ⟨g, i, none⟩ = false) ∧ Chg (fun _ => False) w wr) (fun bv _ => match bv with | .slice _ k _ => k | _ => 0)
      case atStart => exact ⟨n, Nat.le_refl _, rfl, by rw [List.take_of_length_le (by have := Hlen1.out; omega)], Hcells.out, Hfz.out, Hch.out⟩
      case round =>
        obtain ⟨j, hj, rfl, hnx, hcl, hfr, hcw⟩ := hrel
        obtain ⟨x, hx⟩ : ∃ x, q[j]? = some x := ⟨_, List.getElem?_eq_getElem (by have := Hlen1.out; omega)⟩
        have c0 := hcl j x hx
        have f0 := hfr j (by have := Hlen1.out; omega)
        have Hx := Lib.hid hx
        have Hnx := Lib.hid hnx
        have Hcl := Lib.hid hcl
        have Hfr := Lib.hid hfr
        have Hcw := Lib.hid hcw
        clear hx hnx hcl hfr hcw hqb
        by_cases h255 : x = 255
        · subst h255
          have hstr := Tp.strip Hfirst.out Hx.out
          have hj0 := hstr.1
          have Hstr := Lib.hid hstr.2
          clear hstr
          obtain ⟨i, rfl⟩ : ∃ i, j = i + 1 := ⟨j - 1, by omega⟩
          go_wp2_with fail
          go_round
          case rel => exact ⟨i, by omega, rfl, by rw [← Hstr.out]; exact Hnx.out, Hcl.out, Hfr.out, Hcw.out⟩
          case measure => simp
        · have hx0 : x.toNat ≤ 254 := by
            have h1 : x.toNat ≠ 255 := fun e => h255 (UInt8.toNat_inj.1 (by simpa using e))
            have h2 := x.toNat_lt
            omega
          have e1 : ((x.toNat : Int) == 255) = false := by rw [beq_eq_false_iff_ne]; omega
          have hend := Tp.strip_end Hx.out h255
          have hxx : ((x.toNat : Int) + 1) = ((x + 1).toNat : Int) := by rw [Tp.up_toNat h255]; rfl
          have hcells2 : ∀ i b, (q.take j ++ [x + 1])[i]? = some b → (wr.setCell ⟨g, j, none⟩ (.int .u8 ((x.toNat : Int) + 1))).cell? ⟨g, i, none⟩ = some (.int .u8 b.toNat) := by
            intro i b hb
            rcases Nat.lt_or_ge i j with hij | hij
            · rw [World.cell?_setCell_other _ _ _ _ (fun e => by injection e with e1 e2; omega)]
              rw [List.getElem?_append_left (by rw [List.length_take]; have := Hlen1.out; omega), List.getElem?_take, if_pos hij] at hb
              exact (Hcl.out) i b hb
            · have hl1 : (q.take j).length = j := by rw [List.length_take]; have := Hlen1.out; omega
              rw [List.getElem?_append_right (by omega), hl1] at hb
              have hi : i = j := by
                have := (List.getElem?_eq_some_iff.1 hb).1
                simp at this; omega
              subst hi
              simp at hb
              subst hb
              rw [hxx]
              exact World.cell?_setCell_same _ _ _ (by rw [c0])
          have hcv1 := fun nq => conv_cells ((wr.setCell ⟨g, j, none⟩ (.int .u8 ((x.toNat : Int) + 1))).drewN nq) g cp (q.take j ++ [x + 1]) hcells2
          have hl2 : (q.take j ++ [x + 1]).length = j + 1 := by rw [List.length_append, List.length_take]; have := Hlen1.out; simp; omega
          rw [hl2] at hcv1
          have Hend := Lib.hid (show Tp.next q = q.take j ++ [x + 1] from (Hnx.out).symm.trans hend)
          clear hcells2 hend hl2 h255 hxx
          obtain ⟨z, hz⟩ : ∃ z, q.take j ++ [x + 1] = z := ⟨_, rfl⟩
          rw [hz] at hcv1 Hend
          clear hz
          go_wp2_with fail
          go_quiet (fail)
          go_wp2_with fail
          go_ret3
          rw [Hend.out]
          exact ⟨rfl, ((Hcw.out).setCell (.inr hsb2) _).drewN _⟩
  · have c1 : (c != 0) = true := by simpa using h0
    have c2 : (c == 0) = false := by simpa using h0
    rw [if_neg h0] at hq1
    subst hq1
    clear h0 hq2
    go_enter Tryz.func22, Tryz.ntmps22
    go_wp2_with fail
    refine HP.out.mono ?_
    rintro e w2 ⟨rfl, hc2⟩
    go_wp2_with fail
    go_ret3
    exact ⟨rfl, hc2⟩
end Go.Proofs.YtdicelibjpmglaaGreatDoor
