/-
  Layer 3: the document's size.
-/
import Derived.Test.YtdicelibjpmglaaGreatDoorTe
namespace Go.Proofs.YtdicelibjpmglaaGreatDoor
open Go.RowKit
set_option linter.unusedVariables false
set_option linter.unusedSimpArgs false
attribute [local go_sem] run_store_float
open Tp (It)

theorem byte_at (l : List UInt8) {k : Nat} (hk : k < l.length) : ∃ b, l[k]? = some b ∧ (⟨l.toArray⟩ : ByteArray)[k]'(by simpa [ByteArray.size] using hk) = b ∧ l.take (k + 1) = l.take k ++ [b] := by
  refine ⟨l[k], List.getElem?_eq_getElem hk, by simp [ByteArray.getElem_eq_getElem_data], ?_⟩
  rw [List.take_succ_eq_append_getElem hk]
theorem bz0 {b : UInt8} (h : b = 0) : ((b.toNat : Int) == 0) = true := by rw [h]; rfl
theorem bz1 {b : UInt8} (h : b ≠ 0) : ((b.toNat : Int) == 0) = false := by
  rw [beq_eq_false_iff_ne]
  intro e
  exact h (UInt8.toNat_inj.1 (by simpa using e))
/-- n is m, or above 4096 and not above m -/
def Nr (n m : Nat) : Prop := n ≤ m ∧ (n ≤ 4096 → n = m)
theorem take_snoc {α : Type} {l : List α} {j : Nat} {x : α} (h : l[j]? = some x) : l.take (j + 1) = l.take j ++ [x] := by
  rw [List.take_add_one, h]; rfl
theorem count_snoc {l : List UInt8} {k : Nat} {b : UInt8} (h : l[k]? = some b) : (l.take (k + 1)).count 0 = (l.take k).count 0 + if b = 0 then 1 else 0 := by
  rw [take_snoc h, List.count_append]
  congr 1
  by_cases hb : b = 0
  · subst hb; rfl
  · rw [if_neg hb, List.count_cons, List.count_nil]
    have : (b == 0) = false := by simpa using hb
    rw [this]; rfl

set_option maxHeartbeats 8000000 in
set_option maxRecDepth 100000 in
theorem rsize_calls {w0 : World} {B : Nat} {v : Value} {l : List It} (hrow : Row w0 B v l) : ∀ (w : World), Keep w0 B w → Tp.okB l = true → Tp.sz l ≤ 1000000000000 →
    Calls Tryz.prog 63 #[v] w fun e w' => ∃ r : Nat, e = .returned (.int .i64 r) ∧ Nr r (Tp.sz l) ∧ Chg (fun _ => False) w w' := by
  induction hrow with
  | nil A0 cap0 hcap0 =>
    intro w hk hok hs
    go_enter Tryz.func63, Tryz.ntmps63
    go_wp2_with fail
    go_loopw [3, 4] (fun nv jv wr => nv = .int .i64 0 ∧ jv = .int .i64 0 ∧ wr = w) (fun _ _ _ => 0)
    case atStart => exact ⟨rfl, rfl, rfl⟩
    case round =>
      obtain ⟨rfl, rfl, rfl⟩ := hrel
      go_wp2_with fail
      go_ret
      exact ⟨0, rfl, by simp [Nr, Tp.sz], Chg.refl _ _⟩
  | mk gr off cap l vs hgr hl hcap hc1 hin hcells hr ih =>
    intro w hk hok hs
    have Hok := Lib.hid hok
    clear hok
    go_enter Tryz.func63, Tryz.ntmps63
    go_wp2_with fail
    go_loopw [3, 4] (fun nv jv wr => ∃ (j n : Nat), j ≤ l.length ∧ nv = .int .i64 n ∧ jv = .int .i64 j ∧ Nr n (Tp.sz (l.take j)) ∧ Chg (fun _ => False) w wr) (fun _ jv _ => l.length - (intOf jv).toNat)
    case atStart => exact ⟨0, 0, by omega, rfl, rfl, by simp [Nr, Tp.sz], Chg.refl _ _⟩
    case round =>
      obtain ⟨j, n, hj, rfl, rfl, hn, hc'⟩ := hrel
      have hsj := Tp.sz_take_le l j
      rcases Nat.lt_or_ge j l.length with hlt | hge
      · rcases Nat.lt_or_ge 4096 n with hbig | hsmall
        · have Hn := Lib.hid (show Nr n (Tp.sz l) from ⟨by have := hn.1; omega, fun h => by omega⟩)
          have Hc' := Lib.hid hc'
          have nb1 : decide ((n : Int) ≤ 4096) = false := by rw [decide_eq_false_iff_not]; omega
          clear hk hin hcells hr ih hc' hl hn hs hsj
          go_wp2_with fail
          go_ret
          exact ⟨n, rfl, Hn.out, Hc'.out⟩
        · obtain rfl := hn.2 hsmall
          obtain ⟨⟨xk, xb, xn, xf, xt, xl⟩, hx⟩ : ∃ x, l[j]? = some x := ⟨_, List.getElem?_eq_getElem hlt⟩
          obtain ⟨xv, hxv⟩ : ∃ v, vs[j]? = some v := ⟨_, List.getElem?_eq_getElem (by omega)⟩
          have hin1 := hin xk xb xn xf xt xl (List.mem_of_getElem? hx)
          obtain ⟨hm, hokx⟩ := Tp.okB_mem (Hok.out) (List.mem_of_getElem? hx)
          have hxk := Tp.mayB_kind hm
          have hxl := Tp.mayB_list hm
          have hsx : Tp.sz (l.take (j + 1)) = Tp.sz (l.take j) + (Tp.len1 xk xn xt + Tp.sz xl) := by
            rw [take_snoc hx, Tp.sz_append]; simp [Tp.sz]
          have hsj1 := Tp.sz_take_le l (j + 1)
          have hk' := hk.chg hc' (fun k hkB e => e)
          have hcell : ∀ q u, (icells xk xb xn xf xt xv)[q]? = some u → wr.cell? ⟨gr, off + j * 6 + q, none⟩ = some u := fun q u hq => by
            rw [hk'.1 _ hgr]; exact hcells j xk xb xn xf xt xl xv hx hxv q u hq
          have c0 := hcell 0 _ rfl
          have c1 := hcell 1 _ rfl
          have c2 := hcell 2 _ rfl
          have c3 := hcell 3 _ rfl
          have c4 := hcell 4 _ rfl
          have c5 := hcell 5 _ rfl
          obtain ⟨A, xcap, rfl, hxc1, hxc2⟩ := (hr j xk xb xn xf xt xl xv hx hxv).slice
          rw [Nat.add_zero] at c0
          have HI : ∀ wc, Chg (fun _ => False) wr wc → _ := fun wc hcx => ih j xk xb xn xf xt xl _ hx hxv wc (hk'.chg hcx (fun k hkB e => e)) hokx (by omega)
          have HI := Lib.hid HI
          have nb1 : decide ((Tp.sz (l.take j) : Int) ≤ 4096) = true := by rw [decide_eq_true_iff]; omega
          have Hin := Lib.hid hin1
          have Hc' := Lib.hid hc'
          have Hsx := Lib.hid hsx
          have Hxl := Lib.hid hxl
          have Hsb := Lib.hid (show Tp.sz (l.take (j + 1)) ≤ 1000000000000 by omega)
          obtain ⟨m, hm0⟩ : ∃ m, Tp.sz (l.take j) = m := ⟨_, rfl⟩
          rw [hm0] at Hsx nb1 hsmall ⊢
          clear hin1 hk' hk hin hcells hr ih hx hxv hc' hl hcell hn hs hsj hsx hsj1 hm hokx hxl hm0
          rcases (show xk = 1 ∨ xk = 2 ∨ xk = 3 ∨ xk = 4 ∨ xk = 5 ∨ xk = 6 by omega) with rfl | rfl | rfl | rfl | rfl | rfl
          · go_wp2_with fail
            go_round
            case rel =>
              have h1 := Hsx.out
              have h2 := Hxl.out (by decide)
              subst h2
              simp only [Tp.len1, Tp.sz] at h1
              exact ⟨j + 1, m + 1, by omega, rfl, by go_num, by rw [h1]; exact ⟨by simp, fun _ => by simp⟩, (Hc'.out).alloc _⟩
            case measure => simp [intOf]; omega
          · go_wp2_with fail
            go_round
            case rel =>
              have h1 := Hsx.out
              have h2 := Hxl.out (by decide)
              subst h2
              simp only [Tp.len1, Tp.sz] at h1
              exact ⟨j + 1, m + 1, by omega, rfl, by go_num, by rw [h1]; exact ⟨by simp, fun _ => by simp⟩, (Hc'.out).alloc _⟩
            case measure => simp [intOf]; omega
          · obtain ⟨hk0, hn0, hn1, hf, ht⟩ := Hin.out
            have HF := Lib.hid (fun w => far_calls xn w hn0 hn1)
            have HN := Lib.hid (fun w => need_calls xn.natAbs w (natAbs_u64 hn0 hn1))
            have hnb := Tp.nb_le xn.natAbs
            obtain ⟨q, hq⟩ : ∃ q, Tp.nb xn.natAbs = q := ⟨_, rfl⟩
            rw [hq] at HN hnb
            have Hq := Lib.hid hq
            obtain ⟨a, ha⟩ : ∃ a, xn.natAbs = a := ⟨_, rfl⟩
            rw [ha] at HN HF
            clear hk0 hn0 hn1 hf ht hq ha
            go_wp2_with fail
            refine (HF.out _).mono ?_
            rintro e w2 ⟨rfl, rfl⟩
            go_wp2_with fail
            refine (HN.out _).mono ?_
            rintro e w2 ⟨rfl, rfl⟩
            go_wp2_with fail
            go_round
            case rel =>
              have h1 := Hsx.out
              have h2 := Hxl.out (by decide)
              subst h2
              have h3 := Hq.out
              simp only [Tp.len1, Tp.sz] at h1
              refine ⟨j + 1, m + 1 + q, by omega, by go_num, by go_num, ?_, (Hc'.out).alloc _⟩
              rw [h1]
              unfold Nr
              simp
              omega
            case measure => simp [intOf]; omega
          · go_wp2_with fail
            go_round
            case rel =>
              have h1 := Hsx.out
              have h2 := Hxl.out (by decide)
              subst h2
              simp only [Tp.len1, Tp.sz] at h1
              exact ⟨j + 1, m + 9, by omega, by go_num, by go_num, by rw [h1]; exact ⟨by simp, fun _ => by simp⟩, (Hc'.out).alloc _⟩
            case measure => simp [intOf]; omega
          · go_wp2_with fail
            go_loop [3, 6] (fun nv kv => ∃ n' k : Nat, nv = .int .i64 n' ∧ kv = .int .i64 k ∧ k ≤ xt.length ∧ Nr n' (m + 3 + k + (xt.take k).count 0)) (fun _ kv => xt.length - (intOf kv).toNat)
            case atStart => exact ⟨m + 3, 0, by go_num, rfl, by omega, by simp [Nr]⟩
            case round =>
              obtain ⟨n', k, rfl, rfl, hk, hn'⟩ := hrel
              have hxt := Hin.out.t
              have hcl : (xt.take k).count 0 ≤ xt.length := Nat.le_trans List.count_le_length (by rw [List.length_take]; omega)
              have hn9 := hn'.1
              rcases Nat.lt_or_ge k xt.length with hkl | hkl
              · rcases Nat.lt_or_ge 4096 n' with hbig | hsm
                · have nb2 : decide ((n' : Int) ≤ 4096) = false := by rw [decide_eq_false_iff_not]; omega
                  have hcx : (xt.take k).count 0 ≤ xt.count 0 := by
                    have := List.count_append (a := (0 : UInt8)) (l₁ := xt.take k) (l₂ := xt.drop k)
                    rw [List.take_append_drop] at this
                    omega
                  have Hn := Lib.hid (show n' ≤ m + 3 + xt.length + xt.count 0 by omega)
                  clear hn' hn9 hcl hxt hcx
                  go_wp2_with fail
                  go_round
                  case rel =>
                    have h1 := Hsx.out
                    have h2 := Hxl.out (by decide)
                    subst h2
                    simp only [Tp.len1, Tp.sz] at h1
                    have := Hn.out
                    refine ⟨j + 1, n', by omega, rfl, by go_num, ?_, (Hc'.out).alloc _⟩
                    rw [h1]
                    unfold Nr
                    simp
                    omega
                  case measure => simp [intOf]; omega
                · obtain ⟨b, hb, hbi, -⟩ := byte_at xt hkl
                  have nb2 : decide ((n' : Int) ≤ 4096) = true := by rw [decide_eq_true_iff]; omega
                  have hbs : k < (⟨xt.toArray⟩ : ByteArray).size := by simpa [ByteArray.size] using hkl
                  have hcs := count_snoc hb
                  have Hn := Lib.hid hn'
                  have Hcs := Lib.hid hcs
                  have Hkl := Lib.hid hkl
                  have hk9 : k ≤ 1048576 := by omega
                  clear hn' hn9 hcl hxt hb hcs
                  by_cases hb0 : b = 0
                  · have hz := bz0 hb0
                    have Hb := Lib.hid hb0
                    clear hb0
                    go_wp2_with fail
                    go_round
                    case rel =>
                      have h1 := Hcs.out
                      rw [if_pos Hb.out] at h1
                      have h2 := Hn.out
                      refine ⟨n' + 2, k + 1, by go_num, by go_num, by have := Hkl.out; omega, ?_⟩
                      rw [h1]
                      unfold Nr at h2 ⊢
                      omega
                    case measure => have := Hkl.out; simp [intOf]; omega
                  · have hz := bz1 hb0
                    have Hb := Lib.hid hb0
                    clear hb0
                    go_wp2_with fail
                    go_round
                    case rel =>
                      have h1 := Hcs.out
                      rw [if_neg Hb.out] at h1
                      have h2 := Hn.out
                      refine ⟨n' + 1, k + 1, by go_num, by go_num, by have := Hkl.out; omega, ?_⟩
                      rw [h1]
                      unfold Nr at h2 ⊢
                      omega
                    case measure => have := Hkl.out; simp [intOf]; omega
              · obtain rfl : k = xt.length := by omega
                have Hn := Lib.hid (show Nr n' (m + 3 + xt.length + xt.count 0) by rw [List.take_length] at hn'; exact hn')
                have hn7 : n' ≤ 1000000000 := by omega
                clear hn' hn9 hcl hxt
                go_wp2_with fail
                go_round
                case rel =>
                  have h1 := Hsx.out
                  have h2 := Hxl.out (by decide)
                  subst h2
                  simp only [Tp.len1, Tp.sz] at h1
                  have := Hn.out
                  refine ⟨j + 1, n', by omega, rfl, by go_num, ?_, (Hc'.out).alloc _⟩
                  rw [h1]
                  unfold Nr at this ⊢
                  simp
                  omega
                case measure => simp [intOf]; omega
          · have HI2 := Lib.hid (fun w2 h => (HI.out) w2 h)
            go_wp2_with fail
            refine ((HI.out _ ((Chg.refl _ _).alloc _))).mono ?_
            rintro e w2 ⟨r, rfl, hr, hc2⟩
            have hsb := Hsb.out
            have h1 := Hsx.out
            simp only [Tp.len1] at h1
            have hr1 := hr.1
            have hr2 : r ≤ 1000000000000 := by omega
            have Hr := Lib.hid hr
            have Hcx := Lib.hid (((Hc'.out).alloc _).andThen hc2 (fun _ _ h => h))
            have H1 := Lib.hid h1
            clear hr hr1 h1 hsb hc2
            go_wp2_with fail
            go_round
            case rel =>
              have h1 := H1.out
              have h2 := Hr.out
              refine ⟨j + 1, m + 1 + (1 + r), by omega, by go_num, by go_num, ?_, Hcx.out⟩
              rw [h1]
              unfold Nr at h2 ⊢
              simp
              omega
            case measure => simp [intOf]; omega
      · have hjl : j = l.length := by omega
        have Hn := Lib.hid (show Nr n (Tp.sz l) by rw [hjl, List.take_length] at hn; exact hn)
        have Hc' := Lib.hid hc'
        have hnl : ¬ ((j : Int) < (l.length : Int)) := by omega
        have hnl2 : decide ((j : Int) < (l.length : Int)) = false := by rw [decide_eq_false_iff_not]; omega
        clear hk hin hcells hr ih hc' hl hn hs hsj
        go_wp2_with fail
        go_ret
        exact ⟨n, rfl, Hn.out, Hc'.out⟩
end Go.Proofs.YtdicelibjpmglaaGreatDoor
