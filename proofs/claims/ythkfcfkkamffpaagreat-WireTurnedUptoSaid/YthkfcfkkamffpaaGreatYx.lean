/-
  Layer 27: the walk of WireTurned.
-/
import Derived.Test.YthkfcfkkamffpaaGreatYw
import Derived.Test.YthkfcfkkamffpaaGreatOpen
import Derived.Deep.DeepCutAuto
import Derived.Laws.IdiomStrings
namespace Go.Proofs.YthkfcfkkamffpaaGreat
open Go.RowKit
set_option linter.unusedVariables false
set_option linter.unusedSimpArgs false
open Wm (M)
section
open Go.ChangeShapes Go.WideShapes Go.ChangeAt
variable {H : Type} {enc : TypeId × Value → H}
set_option maxRecDepth 100000 in
/-- a byte that came in -/
theorem opens_u8 {W : World} {base : Nat} {v : Value} {d : DataW H} {p : List MemPlace} (hval : Value.okWide Tryz.prog W .any base 5 v)
    (h : DataW.Trod enc Tryz.prog W 0 (fun _ => true) true 5 v d p) : ∃ a : Nat, v = .int .u8 a ∧ a < 256 := by
  obtain ⟨x, rfl, rfl, rfl, hw⟩ := open_int Tryz.underlying5 hval h
  have hb : 0 ≤ x ∧ x < 256 := by
    simp [Lit.wf, IntKind.min, IntKind.max, IntKind.signed, IntKind.bits] at hw
    omega
  exact ⟨x.toNat, by congr 1; omega, by omega⟩
end
theorem wfrozen_mark {w : World} {R : Array Value} {j n : Nat} {t : TypeId} (hh : w.heap[n]? = some (.cells R t (R.size, R.size + 1))) (h : j < R.size) : w.frozen? ⟨n, j, none⟩ = false := by
  simp [World.frozen?, hh]
  intro h2
  omega
/-- a text's bytes as new memory -/
theorem wbytes_new (w : World) (l : List UInt8) : ∃ (c : Nat) (wb : World), (convert 9 49 (S l)).run Tryz.prog w = .ok (.slice (some ⟨w.heap.size, 0, none⟩) l.length c) wb ∧
    (∀ j (h : j < l.length), wb.cell? ⟨w.heap.size, j, none⟩ = some (.int .u8 (l[j].toNat : Int))) ∧ (∀ j, j < l.length → wb.frozen? ⟨w.heap.size, j, none⟩ = false) ∧ Chg (fun _ => False) w wb ∧ w.heap.size < wb.heap.size := by
  have e : (⟨l.toArray⟩ : ByteArray).size = l.length := by simp [ByteArray.size]
  have hr := run_bytes_of_string w 9 49 5 ⟨l.toArray⟩ Tryz.underlying9 Tryz.underlying49 Tryz.underlying5
  generalize grownCap w (⟨l.toArray⟩ : ByteArray).size 0 5 = c at hr
  rw [e] at hr
  have hs : l.length ≤ (bytesRow ⟨l.toArray⟩ c).size := by simp [bytesRow]
  have hg : ∀ j (h : j < l.length), (bytesRow ⟨l.toArray⟩ c)[j]? = some (.int .u8 (l[j].toNat : Int)) := by
    intro j h
    unfold bytesRow
    rw [Array.getElem?_append_left (by simpa using h)]
    simp [h]
  generalize bytesRow ⟨l.toArray⟩ c = R at hr hs hg
  have hh : (w.drew.alloc (.cells R 5 (R.size, R.size + 1))).heap[w.heap.size]? = some (.cells R 5 (R.size, R.size + 1)) := heap_alloc_new w.drew _
  refine ⟨_, _, hr, ?_, ?_, ?_, ?_⟩
  · intro j h
    rw [cell_of_row _ _ _ _ _ _ hh]
    exact hg j h
  · intro j h
    exact wfrozen_mark hh (Nat.lt_of_lt_of_le h hs)
  · exact ((Chg.refl _ w).drew).alloc _
  · simp
attribute [local go_sem ↓] ld_msg st_msg
set_option maxHeartbeats 8000000 in
set_option maxRecDepth 100000 in
theorem wireTurned_walk (m : M) (L : Ls) (a : Int) (b0 : Nat) (more : List UInt8) (w : World) (hm : Nm m) (hl : IsL w m L) (ha : I64 a) (hb0 : b0 < 256) (hmore : more.length ≤ 1048576) :
    Calls Tryz.prog 8 #[.agg (mcells m L), .int .i64 a, .int .u8 b0, S more] w fun e w' => e = .returned (.bool true) ∧ Chg (fun _ => False) w w' := by
  have bb : IsM (w.alloc (.cells (mcells m L) 36)) w.heap.size m L := Blk.new w 36 (mcells m L)
  have hE := fun (W : World) (h : IsL W m L) => encode_calls m L W hm h
  unfold EncE at hE
  have hd : (encW m).2 = 0 → encW m = ((encW m).1, 0) := fun h => by rw [← h]
  generalize hs1 : (encW m).1 = s at *
  generalize hc1 : (encW m).2 = c at *
  have Hd := Lib.hid hd
  clear hs1 hc1 hd
  have HA := Lib.hid awake_calls
  have HE := Lib.hid hE
  have B0 := Lib.hid bb
  have Hm := Lib.hid hm
  have Hl := Lib.hid (hl.chg ((Chg.refl (fun _ => False) w).alloc (.cells (mcells m L) 36)) (LOff.no _))
  clear hE bb hm hl
  go_enter Tryz.func8, Tryz.ntmps8
  go_wp2_with fail
  refine (HA.out _).mono ?_
  rintro e w1 ⟨rfl, hc⟩
  have B1 := Lib.hid (B0.out.chg hc (fun h => h))
  have L1 := Lib.hid (Hl.out.chg hc (LOff.no _))
  have C1 := Lib.hid (((Chg.refl (fun _ => False) w).alloc (.cells (mcells m L) 36)).trans hc)
  have hld1 := ldM Hm.out.hd B1.out
  clear hc
  go_wp2_with fail
  refine (HE.out w1 L1.out).mono ?_
  rintro e w2 ⟨rfl, hc⟩
  have C2 := Lib.hid (C1.out.trans hc)
  clear hc hld1
  by_cases hc0 : c = 0
  case neg =>
    have q1 : ((c : Int) != 0) = true := by rw [bne_iff_ne]; omega
    clear hc0
    go_wp2_with fail
    go_ret
    exact ⟨rfl, C2.out⟩
  have henc := Hd.out hc0
  obtain ⟨h13, h20⟩ := enc_len henc
  subst hc0
  obtain ⟨n, hn⟩ : ∃ n, s.length = n + 4 := ⟨s.length - 4, by omega⟩
  have en : (s.length : Int) - 4 = (n : Int) := by omega
  have hn9 : 9 ≤ n := by omega
  have hn20 : n ≤ 1048576 := by omega
  have hn0 : ¬ (n : Int) = 0 := by omega
  obtain ⟨r, hr, hr1, hr2⟩ : ∃ r : Int, a.tmod n = r ∧ -(n : Int) < r ∧ r < n := by
    have h1 := Int.tmod_lt_of_pos a (show (0 : Int) < n by omega)
    have h2 := Int.lt_tmod_of_pos a (show (0 : Int) < n by omega)
    exact ⟨_, rfl, h2, h1⟩
  have Henc := Lib.hid henc
  have Hn := Lib.hid hn
  clear henc hn
  go_upto_if 31 with fail
  go_cut [1] (fun s1 wx => ∃ A : Nat, A < n ∧ s1 = .int .i64 A ∧ wx = w2)
  case first =>
    rcases Int.lt_or_le r 0 with h | h
    · go_wp2_with fail
      go_meet
      exact ⟨(r + n).toNat, by omega, by congr 1; omega, rfl⟩
    · go_wp2_with fail
      go_meet
      exact ⟨r.toNat, by omega, by congr 1; omega, rfl⟩
  case rest =>
  obtain ⟨A, hA, rfl, rfl⟩ := hcut
  go_upto_if 36 with fail
  go_cut [2] (fun s2 wx => ∃ b : Nat, 0 < b ∧ b < 256 ∧ s2 = .int .u8 b ∧ wx = wc)
  case first =>
    by_cases hz : b0 = 0
    · subst hz
      go_wp2_with fail
      go_meet
      exact ⟨1, by omega, by omega, rfl, rfl⟩
    · have qz : ((b0 : Int) == 0) = false := beq_eq_false_iff_ne.2 (by omega)
      have hz' : 0 < b0 := by omega
      clear hz
      go_wp2_with fail
      go_meet
      exact ⟨b0, hz', hb0, rfl, rfl⟩
  case rest =>
  obtain ⟨b, hb1, hb2, rfl, rfl⟩ := hcut
  obtain ⟨i, hi⟩ : ∃ i : Nat, (4 : Int) + A = (i : Int) := ⟨4 + A, by omega⟩
  obtain ⟨cap, wb, hcv, hcell, hfr, hcb, hsz⟩ := wbytes_new wc s
  have hiE : i < s.length := by have := Hn.out; omega
  have hci := hcell i hiE
  have hfi := hfr i hiE
  have Hcell := Lib.hid hcell
  clear hcell hfr
  obtain ⟨b', hx, hne⟩ : ∃ b' : UInt8, bits .xor .u8 (s[i].toNat : Int) b = (b'.toNat : Int) ∧ s[i] ≠ b' := by
    have hb := s[i].toNat_lt
    have hxl : s[i].toNat ^^^ b < 256 := Nat.xor_lt_two_pow (n := 8) (by omega) (by omega)
    refine ⟨UInt8.ofNat (s[i].toNat ^^^ b), ?_, ?_⟩
    · rw [u8_xor_nat _ _ (by omega) hb2, UInt8.toNat_ofNat', Nat.mod_eq_of_lt hxl]
    · intro e
      have h1 := congrArg UInt8.toNat e
      rw [UInt8.toNat_ofNat', Nat.mod_eq_of_lt hxl] at h1
      have h2 : b = 0 := by
        have : s[i].toNat ^^^ (s[i].toNat ^^^ b) = s[i].toNat ^^^ s[i].toNat := by rw [← h1]
        rwa [← Nat.xor_assoc, Nat.xor_self, Nat.zero_xor] at this
      omega
  have hcv2 : (convert 49 9 (.slice (some ⟨wc.heap.size, 0, none⟩) s.length cap)).run Tryz.prog (wb.setCell ⟨wc.heap.size, i, none⟩ (.int .u8 (b'.toNat : Int))) = .ok (S (s.set i b')) (wb.setCell ⟨wc.heap.size, i, none⟩ (.int .u8 (b'.toNat : Int))) := by
    have := run_convert_bytes_back (P := Tryz.prog) (wb.setCell ⟨wc.heap.size, i, none⟩ (.int .u8 (b'.toNat : Int))) 49 9 5 ⟨wc.heap.size, 0, none⟩ cap (s.set i b') Tryz.underlying49 Tryz.underlying5 Tryz.underlying9 (fun j hj => by
      have hadd : (⟨wc.heap.size, 0, none⟩ : Addr).add j = ⟨wc.heap.size, j, none⟩ := by unfold Addr.add; split <;> simp_all
      have hj' : j < s.length := by simpa using hj
      rw [hadd]
      by_cases e : i = j
      · subst e
        rw [List.getElem_set_self]
        exact World.cell?_setCell_same _ _ _ hci
      · rw [List.getElem_set_ne e]
        have h := Hcell.out j hj'
        rw [← h]
        exact World.cell?_setCell_other _ _ _ _ (by intro h; injection h with _ h; exact e h))
    rw [List.length_set] at this
    exact this
  have C3 := Lib.hid ((C2.out.trans hcb).setCell (p := ⟨wc.heap.size, i, none⟩) (.inr C2.out.size) (.int .u8 (b'.toNat : Int)))
  have ht := dec_turned Henc.out (show 4 ≤ i by omega) (b := b') (fun c hc => by
    rw [List.getElem?_eq_getElem hiE] at hc
    injection hc with hc
    rw [← hc]; exact hne) hiE
  have HD := Lib.hid (fun W => decode_calls (s.set i b') W (by rw [List.length_set]; omega))
  have HG := Lib.hid (fun W => decode_calls (s ++ more) W (by rw [List.length_append]; omega))
  have N1 := Lib.hid (decW_nm (s.set i b'))
  have N2 := Lib.hid (decW_nm (s ++ more))
  unfold DecE at HD HG
  rw [ht] at HD
  have hg : (more = [] ∧ (decW (s ++ more)).2 = 0) ∨ (more ≠ [] ∧ (decW (s ++ more)).2 = 271) := by
    by_cases hm : more = []
    · refine .inl ⟨hm, ?_⟩
      subst hm
      rw [List.append_nil, dec_enc Hm.out.ok Henc.out]
    · exact .inr ⟨hm, dec_more Henc.out hm⟩
  generalize (decW (s ++ more)).2 = g at *
  generalize (decW (s ++ more)).1 = M2 at *
  generalize (decW (s.set i b')).1 = M1 at *
  have Hg := Lib.hid hg
  clear ht hg hne hcb
  go_wp2_with fail
  refine (HD.out _).mono ?_
  rintro e w4 ⟨K, rfl, hol, hc⟩
  have C4 := Lib.hid (C3.out.trans hc)
  clear hc hol hci hfi hcv hcv2
  go_wp2_with fail
  refine (HG.out _).mono ?_
  rintro e w5 ⟨K2, rfl, hol, hc⟩
  have hst := stM (Blk.new w5 36 Tryz.zeroCells36) (by rw [zero_msg]; exact mc_len _ _ (only_dg 0 0)) N2.out.hd hol.isl.slc
  have hcx : Chg (fun _ => False) w5 ((w5.alloc (.cells Tryz.zeroCells36 36)).setRow w5.heap.size (mcells M2 K2)) := Chg.setRow ((Chg.refl _ w5).alloc _) (.inr (Nat.le_refl _)) _
  have C5 := Lib.hid (C4.out.trans (hc.trans hcx))
  clear hol hc hcx
  rcases Hg.out with ⟨hm, hg⟩ | ⟨hm, hg⟩
  · subst hm
    subst hg
    go_wp2_with fail
    go_ret
    exact ⟨rfl, C5.out⟩
  · subst hg
    clear hm
    go_wp2_with fail
    go_ret
    exact ⟨rfl, C5.out⟩
end Go.Proofs.YthkfcfkkamffpaaGreat
