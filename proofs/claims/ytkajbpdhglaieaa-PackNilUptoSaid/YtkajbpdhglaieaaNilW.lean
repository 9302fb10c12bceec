/-
  PackNil: no writer, no reader, nothing that is called: the walk; a Step and a list of numbers that came in.
-/
import Derived.Test.YtkajbpdhglaieaaNil
import Derived.Test.YtkajbpdhglaieaaNilFn
import Derived.Test.YtkajbpdhglaieaaStands
import Derived.Test.YtkajbpdhglaieaaOpenStep
import Derived.Test.YtkajbpdhglaieaaApart
import Derived.Test.YtkajbpdhglaieaaWrites
namespace Go.Proofs.Ytkajbpdhglaieaa
open Go.ChangeShapes Go.WideShapes Go.ChangeAt Go.RowKit Go.Deep
set_option linter.unusedVariables false

section
variable {H : Type} {enc : TypeId × Value → H}
theorem open_struct_fields {P : Program} {w : World} {base b0 : Nat} {spare : Nat → Bool} {held : Bool} {t : TypeId} {fs : Array Field} {v : Value} {d : DataW H} {p : List MemPlace} (he : P.underlying t = some (.struct fs)) (hone : oneCellFields P fs = true) (hC : P.cellsOf t = fs.size)
    (hval : Value.okWide P w .any b0 t v) (h : DataW.Trod enc P w base spare held t v d p) :
    ∃ (cs : Array Value) (ys : List (DataW H × List MemPlace)) (n : Nat), v = .agg cs ∧ cs.size = fs.size ∧ d = .agg (ys.map (·.1)) ∧ ys.length = fs.size ∧
      ∀ (j : Nat) (f : Field), fs[j]? = some f → ∃ (u : Value) (y : DataW H × List MemPlace), cs[j]? = some u ∧ ys[j]? = some y ∧ DataW.trod enc P w base spare held n f.type [u] = some y := by
  obtain ⟨cs, rfl, hsz⟩ := okWide_struct he hval
  obtain ⟨fuel, hf⟩ := h
  have hc : (Value.agg cs).cells.toList = cs.toList := rfl
  rw [hc] at hf
  obtain ⟨ys, n', hn', hy, hlen, hyl, hff⟩ := DataW.trod_struct he hf
  simp only [Prod.mk.injEq] at hy
  refine ⟨cs, ys, n', rfl, by omega, hy.1, hyl, fun j f hj => ?_⟩
  obtain ⟨ho, hk⟩ := hone_of hone j f hj
  have hjl : j < fs.size := (Array.getElem?_eq_some_iff.1 hj).1
  have h1 := hff j f hj
  rw [ho, hk] at h1
  have hjc : j < cs.size := by omega
  have hone' : (cs.toList.drop j).take 1 = [cs[j]] := by
    rw [List.drop_eq_getElem_cons (by simpa using hjc)]
    simp
  rw [hone'] at h1
  have hys : ys[j]? = some (ys[j]'(by omega)) := List.getElem?_eq_getElem (by omega)
  exact ⟨cs[j], ys[j]'(by omega), Array.getElem?_eq_getElem hjc, hys, h1.trans hys⟩
set_option maxRecDepth 100000 in
/-- a Step that came in -/
theorem opens_step {W : World} {base : Nat} {v : Value} {d : DataW H} {p : List MemPlace} (hbd : Rows.uptoBulk d ≤ 1048576) (hval : Value.okWide Try.prog W .any base 39 v)
    (h : DataW.Trod enc Try.prog W 0 (fun _ => true) true 39 v d p) : ∃ x : St, v = .agg x.cells ∧ x.Ok W ∧ x.bulk ≤ Rows.uptoBulk d := by
  obtain ⟨cs, ys, n, rfl, hsz, rfl, hyl, hff⟩ := open_struct_fields Try.underlying39 (by kernel_rfl) cells_step hval h
  obtain ⟨u0, y0, c0, e0, t0⟩ := hff 0 _ rfl
  obtain ⟨u1, y1, c1, e1, t1⟩ := hff 1 _ rfl
  obtain ⟨u2, y2, c2, e2, t2⟩ := hff 2 _ rfl
  obtain ⟨u3, y3, c3, e3, t3⟩ := hff 3 _ rfl
  obtain ⟨u4, y4, c4, e4, t4⟩ := hff 4 _ rfl
  obtain ⟨u5, y5, c5, e5, t5⟩ := hff 5 _ rfl
  obtain ⟨u6, y6, c6, e6, t6⟩ := hff 6 _ rfl
  obtain ⟨u7, y7, c7, e7, t7⟩ := hff 7 _ rfl
  obtain ⟨u8, y8, c8, e8, t8⟩ := hff 8 _ rfl
  obtain ⟨a0, rfl, w0⟩ := int_at t0
  obtain ⟨a1, rfl, w1⟩ := u64_at t1
  obtain ⟨a2, rfl, w2⟩ := i64_at t2
  obtain ⟨a3, rfl, w3⟩ := str_at t3
  obtain ⟨A4, n4, cc4, a4, rfl, l4, b4⟩ := strs_at t4
  obtain ⟨A5, n5, cc5, a5, rfl, l5, w5, b5⟩ := u64s_at t5
  obtain ⟨a6, rfl, w6⟩ := int_at t6
  obtain ⟨a7, rfl, w7⟩ := u64_at t7
  obtain ⟨a8, rfl, w8⟩ := int_at t8
  have hys : ys = [y0, y1, y2, y3, y4, y5, y6, y7, y8] := by
    match ys, hyl, e0, e1, e2, e3, e4, e5, e6, e7, e8 with
    | [_, _, _, _, _, _, _, _, _], _, e0, e1, e2, e3, e4, e5, e6, e7, e8 => simp at e0 e1 e2 e3 e4 e5 e6 e7 e8; subst e0 e1 e2 e3 e4 e5 e6 e7 e8; rfl
  have hb : (St.mk a0 a1 a2 a3 A4 n4 cc4 a4 A5 n5 cc5 a5 a6 a7 a8).bulk ≤ Rows.uptoBulk (DataW.agg (ys.map (·.1)) : DataW H) := by
    rw [hys]
    simp only [St.bulk, List.map_cons, List.map_nil, Rows.uptoBulk, Rows.uptoBulkAll]
    omega
  refine ⟨St.mk a0 a1 a2 a3 A4 n4 cc4 a4 A5 n5 cc5 a5 a6 a7 a8, ?_, ⟨w1, w2, w0, w6, w7, w8, l4, l5, w5, ?_⟩, hb⟩
  · congr 1
    apply Array.ext'
    have hl : cs.toList.length = 9 := by simpa using hsz
    have g : ∀ j u, cs[j]? = some u → cs.toList[j]? = some u := fun j u h => by rw [Array.getElem?_toList]; exact h
    match hm : cs.toList, hl, g 0 _ c0, g 1 _ c1, g 2 _ c2, g 3 _ c3, g 4 _ c4, g 5 _ c5, g 6 _ c6, g 7 _ c7, g 8 _ c8 with
    | [_, _, _, _, _, _, _, _, _], _, g0, g1, g2, g3, g4, g5, g6, g7, g8 => simp at g0 g1 g2 g3 g4 g5 g6 g7 g8; subst g0 g1 g2 g3 g4 g5 g6 g7 g8; rfl
  · simp only [St.bulk] at hb ⊢; omega
set_option maxRecDepth 100000 in
/-- a list of numbers that came in -/
theorem opens_u64s {W : World} {base : Nat} {v : Value} {d : DataW H} {p : List MemPlace} (hval : Value.okWide Try.prog W .any base 37 v)
    (h : DataW.Trod enc Try.prog W 0 (fun _ => true) true 37 v d p) :
    ∃ (A : Option Addr) (n c : Nat) (ns : List Nat), v = .slice A n c ∧ Lst W A n (u64s ns) ∧ (∀ n ∈ ns, U64 n) ∧ n + 1 ≤ Rows.uptoBulk d := by
  obtain ⟨a0, len, cap, rfl⟩ := okWide_slice Try.underlying37 hval
  obtain ⟨fuel, hf⟩ := h
  obtain ⟨A, n, c, ns, e, h1, h2, h3⟩ := u64s_at (fuel := fuel) (v := .slice a0 len cap) hf
  exact ⟨A, n, c, ns, e, h1, h2, h3⟩
end

theorem end_same (w : World) : (binOp .neq 68 (.iface 57 (.int .i64 1)) (.iface 57 (.int .i64 1))).run Try.prog w = .ok (.bool false) w := by kernel_rfl
theorem dig_same (w : World) : (binOp .neq 65 (.agg (bys (dig [])).toArray) (.agg #[.int .u8 0, .int .u8 0, .int .u8 0, .int .u8 0, .int .u8 0, .int .u8 0, .int .u8 0, .int .u8 0, .int .u8 0, .int .u8 0, .int .u8 0, .int .u8 0, .int .u8 0, .int .u8 0, .int .u8 0, .int .u8 0, .int .u8 0, .int .u8 0, .int .u8 0, .int .u8 0, .int .u8 0, .int .u8 0, .int .u8 0, .int .u8 0, .int .u8 0, .int .u8 0, .int .u8 0, .int .u8 0, .int .u8 0, .int .u8 0, .int .u8 0, .int .u8 0])).run Try.prog w = .ok (.bool false) w := by
  have e : (.agg #[.int .u8 0, .int .u8 0, .int .u8 0, .int .u8 0, .int .u8 0, .int .u8 0, .int .u8 0, .int .u8 0, .int .u8 0, .int .u8 0, .int .u8 0, .int .u8 0, .int .u8 0, .int .u8 0, .int .u8 0, .int .u8 0, .int .u8 0, .int .u8 0, .int .u8 0, .int .u8 0, .int .u8 0, .int .u8 0, .int .u8 0, .int .u8 0, .int .u8 0, .int .u8 0, .int .u8 0, .int .u8 0, .int .u8 0, .int .u8 0, .int .u8 0, .int .u8 0] : Value) = .agg (bys (dig [])).toArray := rfl
  rw [e, run_neq_struct, run_equalIn_bytes 9998 _ 5 _ _ 32 under_digest Try.underlying5 size_byte (dig_length _) (dig_length _) w]
  simp [Result.andThen]

theorem Mine.med {w0 w w' : World} {g h : Nat} {v : Value} {xs : List UInt8} {r r' : Pk.Rd} (m : Mine w0 w g v xs) (hm : IsM w h r) (hd : Med w w' h r') (hh : w0.heap.size ≤ h) : Mine w0 w' g v xs := by
  have hne : g ≠ h := m.is.blk.ne_ hm.blk (by decide)
  exact ⟨⟨m.is.blk.chg hd.2 hne, own_chg m.is.own hd.2 (fun k hk e => by subst e; exact own_blk_ne m.is.own hm.blk (by decide) hk)⟩, m.chg.new hd.2 (fun k e => by subst e; exact hh), m.g0, m.v0⟩
theorem MineR.med {w0 w w' : World} {g h : Nat} {q r r' : Pk.Rd} (m : MineR w0 w g q) (hm : IsM w h r) (hd : Med w w' h r') (hh : w0.heap.size ≤ h) : MineR w0 w' g q :=
  ⟨m.is.chg hd.2 (m.is.blk.ne_ hm.blk (by decide)), m.chg.new hd.2 (fun k e => by subst e; exact hh), m.g0⟩

set_option maxHeartbeats 4000000 in
set_option maxRecDepth 100000 in
theorem nil_walk (x : St) (B : Option Addr) (n c : Nat) (ns : List Nat) (b : List UInt8) (w : World) (hx : x.Ok w) (hl : Lst w B n (u64s ns)) (hn : n ≤ 1048576) (hb : b.length ≤ 1048576) :
    Calls Try.prog 8 #[.agg x.cells, .slice B n c, S b] w fun e w' => e = .returned (.bool true) ∧ Chg (fun _ => False) w w' := by
  have hend := end_same
  have hdn := dig_same
  have hgd := guard_digest
  obtain ⟨kind, N, i, s, A, an, ac, parts, B1, bn, bc, ns1, width, most, bound⟩ := x
  have hx1 := hx.chg0 ((Chg.refl (fun _ => False) w).alloc (.cells (St.cells ⟨kind, N, i, s, A, an, ac, parts, B1, bn, bc, ns1, width, most, bound⟩) 39))
  have hk0 : I64 kind := hx.kind
  unfold St.cells at hx1 ⊢
  dsimp only at hx1 ⊢
  go_enter Try.func8, Try.ntmps8
  go_wp2_with fail
  refine (lay_nil ⟨kind, N, i, s, A, an, ac, parts, B1, bn, bc, ns1, width, most, bound⟩ _ hx1).mono ?_
  rintro e w1 ⟨rfl, hc1⟩
  have k0 : w1.cell? ⟨w.heap.size, 0, none⟩ = some (.int .i64 kind) := cells_keep hc1 0
  have hch := ((Chg.refl (fun _ => False) w).alloc _).trans hc1
  have hbs := World.block_lt_of_cell? _ _ k0
  have hl := hl.chg hch (fun _ _ _ h => h)
  have hz0 : w.heap.size < w1.heap.size := hbs
  clear hc1 hx1 hx
  go_wp2_with (first
    | (go_at_call 26; refine (eachw_nil_uint64 _ _ _ _ _).mono ?_; rintro e w' ⟨rfl, rfl⟩)
    | (go_at_call 28; refine (rlist_nil _ _ _).mono ?_; rintro e w' ⟨rfl, rfl⟩)
    | (go_at_call 20; refine (len_nil _).mono ?_; rintro e w' ⟨rfl, rfl⟩)
    | (go_at_call 16; refine (string_nil _).mono ?_; rintro e w' ⟨rfl, rfl⟩)
    | (go_at_call 30; refine (fixed_nil _ _).mono ?_; rintro e w' ⟨rfl, rfl⟩)
    | (go_at_call 31; refine (rfree_nil _ _).mono ?_; rintro e w' ⟨rfl, rfl⟩)
    | (go_at_call 32; refine (rsigned_nil _).mono ?_; rintro e w' ⟨rfl, rfl⟩)
    | (go_at_call 33; refine (rraw_nil _ _).mono ?_; rintro e w' ⟨rfl, rfl⟩)
    | (go_at_call 34; refine (rtext_nil _ _).mono ?_; rintro e w' ⟨rfl, rfl⟩))
  have hzm : IsM ((w1.alloc (.cells #[.int .i64 0] 3)).alloc (.cells #[.string ⟨#[]⟩, .int .i64 0, .int .i64 0] 59)) (w1.heap.size + 1) ⟨[], 0, 0⟩ := by
    refine ⟨?_, by simp, by simp⟩
    have := Blk.new (w1.alloc (.cells #[.int .i64 0] 3)) 59 #[.string ⟨#[]⟩, .int .i64 0, .int .i64 0]
    have e : (w1.alloc (.cells #[.int .i64 0] 3)).heap.size = w1.heap.size + 1 := by simp
    rw [e] at this
    exact this
  have hch2 := (hch.alloc (.cells #[.int .i64 0] 3)).alloc (.cells #[.string ⟨#[]⟩, .int .i64 0, .int .i64 0] 59)
  have hl2 := (hl.alloc (.cells #[.int .i64 0] 3)).alloc (.cells #[.string ⟨#[]⟩, .int .i64 0, .int .i64 0] 59)
  refine (rdigest_nil _ _).mono ?_
  rintro e w2 ⟨rfl, hc2⟩
  have hzm := hzm.chg hc2 (fun h => h)
  have hch := hch2.trans hc2
  have hl := hl2.chg hc2 (fun _ _ _ h => h)
  clear hch2 hl2 hc2
  go_wp2_with (first
    | (go_at_call 25; refine (rleft_nil _).mono ?_; rintro e w' ⟨rfl, rfl⟩)
    | (go_at_call 22; refine (rat_nil _).mono ?_; rintro e w' ⟨rfl, rfl⟩)
    | (go_at_call 24; refine (rfault_nil _).mono ?_; rintro e w' ⟨rfl, rfl⟩)
    | (go_at_call 36; refine (rend_nil _).mono ?_; rintro e w' ⟨rfl, rfl⟩))
  refine (mleft_calls _ ⟨[], 0, 0⟩ _ hzm).mono ?_
  rintro e w3 ⟨rfl, nq, rfl⟩
  rw [show (Pk.Rd.mk [] 0 0).left = 0 from rfl]
  have hch := hch.drewN nq
  have hl : Lst (w2.drewN nq) B n (u64s ns) := hl
  go_wp2_with fail
  refine (new_calls _).mono ?_
  rintro e w4 ⟨rfl, h4, hb4, hz4⟩
  have c4 := Chg.of_below hb4 (fun _ => False)
  have m4 : Mine w w4 (w2.drewN nq).heap.size (.slice none 0 0) [] := ⟨h4, hch.trans c4, hch.size, fun k h => (own_none k h).elim⟩
  have hl := hl.chg c4 (fun _ _ _ h => h)
  obtain ⟨g4, hg4⟩ : ∃ g, (w2.drewN nq).heap.size = g := ⟨_, rfl⟩
  rw [hg4] at m4 ⊢
  have Hg4 := Lib.hid (And.intro hg4 hz4)
  clear h4 hb4 hz4 hg4 c4 hch
  go_wp2_with fail
  refine (each_nil_uint64 g4 B n c _ _ _ m4.is (by omega) (by have := Pk.free_length_ten (n := n) (by omega); simp; omega)).mono ?_
  rintro e w5 ⟨rfl, hw⟩
  obtain ⟨v5, m5⟩ := m4.wrote hw
  clear hw m4 hl
  rw [List.nil_append] at m5
  go_wp2_with fail
  refine (open_calls b _ (by omega)).mono ?_
  rintro e w6 ⟨rfl, h6, hb6, hz6⟩
  have c6 := Chg.of_below hb6 (fun _ => False)
  have hz5 := m5.chg.size
  have m5 := m5.below c6
  have r6 : MineR w w6 w5.heap.size ⟨b, 0, 0⟩ := ⟨h6, m5.chg, hz5⟩
  obtain ⟨g6, hg6⟩ : ∃ g, w5.heap.size = g := ⟨_, rfl⟩
  rw [hg6] at r6 ⊢
  have Hg6 := Lib.hid (And.intro hg6 hz6)
  clear h6 hb6 hz6 hg6 c6
  go_wp2_with fail
  have hm7 : IsM (w6.alloc (.cells #[S b, .int .i64 0, .int .i64 0] 59)) w6.heap.size ⟨b, 0, 0⟩ := ⟨Blk.new w6 _ _, by simp, by simp only; omega⟩
  have hz6w := m5.chg.size
  have c7 := (Chg.refl (fun _ => False) w6).alloc (.cells #[S b, .int .i64 0, .int .i64 0] 59)
  have m5 := m5.below c7
  have r6 := r6.below c7
  obtain ⟨g7, hg7⟩ : ∃ g, w6.heap.size = g := ⟨_, rfl⟩
  have hz7 := r6.is.blk.lt
  rw [hg7] at hm7
  refine (mcount_calls w6.heap.size 1099511627776 ⟨b, 0, 0⟩ _ (by rw [hg7]; exact hm7) (by unfold I64; omega)).mono ?_
  rw [hg7]
  rintro e w8 ⟨rfl, hm8, hc8⟩
  have hg7w : w.heap.size ≤ g7 := by rw [← hg7]; exact hz6w
  have hne7 : g6 ≠ g7 := r6.is.blk.ne_ hm7.blk (by decide)
  have m5 := m5.med hm7 ⟨hm8, hc8⟩ hg7w
  have r6 := r6.med hm7 ⟨hm8, hc8⟩ hg7w
  clear hm7 hc8 c7
  go_wp2_with fail
  refine (list_nofn g6 1099511627776 ⟨b, 0, 0⟩ w8 r6.is (by unfold I64; omega) (by simp only; omega) rfl).mono ?_
  rintro e w9 ⟨vz, rfl, hown, h9, hc9⟩
  obtain ⟨m5, r9⟩ := m5.reads r6 ⟨h9, hc9⟩
  have hm9 := hm8.chg hc9 (fun e => hne7 e.symm)
  generalize (Pk.Rd.mk b 0 0).heads 1099511627776 = p at *
  obtain ⟨K, q⟩ := p
  simp only at *
  obtain ⟨ao, cp, rfl⟩ := own_form hown
  have hl9 := Lst.of_own hown
  have hK : K ≤ maxLen := by
    rcases hown.2 with ⟨_, h⟩ | ⟨_, cap, _, _, _, _, h1, h2, _⟩
    · omega
    · omega
  unfold maxLen at hK
  clear hown hm8 h9 hc9 r6
  go_wp2_with fail
  refine (string_calls g4 _ _ _ m5.is).mono ?_
  rintro e w' ⟨rfl, rfl⟩
  go_wp2_with fail
  refine (ref_free 2 n (by omega) (by unfold U64; omega) _).mono ?_
  rintro e w10 ⟨rfl, hc10⟩
  have r10 := r9.below hc10
  have hm10 := hm9.chg hc10 (fun h => h)
  have hl10 := hl9.chg hc10 (fun _ _ _ h => h)
  clear r9 hm9 hl9 m5 hc10
  go_wp2_with fail
  refine (stands_calls g6 g7 q _ r10.is hm10).mono ?_
  rintro e w11 ⟨rfl, hc11⟩
  have hl11 := hl10.chg hc11 (fun _ _ _ h => h)
  have hch := r10.chg.trans hc11
  clear r10 hm10 hl10 hc11
  go_wp2_with fail
  go_loop [17] (fun iv => ∃ k : Nat, k ≤ K ∧ iv = .int .i64 k) (fun iv => K - (intOf iv).toNat)
  case atStart => exact ⟨0, by omega, rfl⟩
  case round =>
    obtain ⟨k, hk, rfl⟩ := hrel
    by_cases hp : k < K
    · obtain ⟨b1, off1, u1, rfl, hu1, hcell1⟩ := hl11.at_ hp
      obtain rfl : u1 = .int .u64 0 := by
        unfold zeros at hu1
        rw [List.getElem?_replicate] at hu1
        simp [hp] at hu1
        exact hu1.symm
      clear hu1
      go_wp2_with fail
      go_round
      case rel => exact ⟨k + 1, by omega, by go_num⟩
      case measure => simp [intOf]; omega
    · go_wp2_with fail
      refine (lives_calls _).mono ?_
      rintro e w12 ⟨rfl, hc12⟩
      go_wp2_with fail
      go_ret
      exact ⟨rfl, hch.trans hc12⟩
end Go.Proofs.Ytkajbpdhglaieaa
