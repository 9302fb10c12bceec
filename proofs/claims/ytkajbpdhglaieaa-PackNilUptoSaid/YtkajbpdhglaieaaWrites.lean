/-
  PackWrites: two writers in turns, and the document's bytes.
-/
import Derived.Test.YtkajbpdhglaieaaOpenStep
namespace Go.Proofs.Ytkajbpdhglaieaa
open Go.RowKit
set_option linter.unusedVariables false

theorem St.Ok.far {x : St} {w0 w : World} {g : Nat} {v : Value} {xs : List UInt8} (hx : x.Ok w0) (h : Mine w0 w g v xs) : x.Far g v :=
  ⟨fun hn ad ha => ⟨by have := hx.A.lt hn ad ha; have := h.g0; omega, fun e => by have := hx.A.lt hn ad ha; have := h.v0 _ e; omega⟩,
   fun hn ad ha => ⟨by have := hx.B.lt hn ad ha; have := h.g0; omega, fun e => by have := hx.B.lt hn ad ha; have := h.v0 _ e; omega⟩⟩
theorem St.Ok.chg0 {x : St} {w w' : World} (h : x.Ok w) (hc : Chg (fun _ => False) w w') : x.Ok w' :=
  ⟨h.n, h.i, h.kind, h.width, h.most, h.bound, h.A.chg0 hc, h.B.chg0 hc, h.ns, h.room⟩
theorem frees_len (l : List Nat) (h : ∀ n ∈ l, U64 n) : ((l.map Pk.free).flatten).length ≤ 10 * l.length := by
  induction l with
  | nil => simp
  | cons x l ih =>
    have h1 := ih (fun n hn => h n (by simp [hn]))
    have h2 := Pk.free_length_ten (h x (by simp))
    simp only [List.map_cons, List.flatten_cons, List.length_append, List.length_cons]
    omega
theorem St.bytes_len {x : St} {w : World} (h : x.Ok w) : x.bytes.length ≤ 42 * x.bulk := by
  have hpl := h.pl
  have hnl := h.nl
  have hr := h.room
  unfold St.bytes
  split
  · simp
  · have h1 := free_len x.s.length (by omega)
    have h2 := free_len x.bn (by omega)
    have h3 := free_len x.an (by omega)
    have h4 := texts_len x.parts (by omega)
    have h5 := frees_len x.ns h.ns
    have h6 := Pk.free_length_ten h.n
    have h7 := Pk.free_length_ten (zig_u64 x.i h.i)
    have h8 := wd_le x.width
    have h9 := dig_length x.s
    unfold St.bulk
    split <;> first | omega | (simp only [Pk.be_length, List.length_append, List.length_take]; omega)
theorem bulk_at {xs : List St} : ∀ {i : Nat} {x : St}, xs[i]? = some x → x.bulk ≤ bulks xs := by
  induction xs with
  | nil => intro i x h; simp at h
  | cons y xs ih =>
    intro i x h
    have e : bulks (y :: xs) = y.bulk + bulks xs := by simp [bulks]
    rw [e]
    cases i with
    | zero => simp at h; subst h; omega
    | succ i => have := ih (i := i) (by simpa using h); omega
/-- the first k Steps' bytes -/
def laidBytes (xs : List St) (k : Nat) : List UInt8 := ((xs.take k).map St.bytes).flatten
theorem laid_next {xs : List St} {k : Nat} {x : St} (h : xs[k]? = some x) : laidBytes xs (k + 1) = laidBytes xs k ++ x.bytes := by
  unfold laidBytes; rw [List.take_add_one, h]; simp
theorem laid_over {xs : List St} {k : Nat} (h : xs.length ≤ k) : laidBytes xs (k + 1) = laidBytes xs k := by
  unfold laidBytes; rw [List.take_of_length_le (by omega), List.take_of_length_le h]
theorem laid_len {xs : List St} {w : World} (h : ∀ x ∈ xs, x.Ok w) (k : Nat) : (laidBytes xs k).length ≤ 42 * bulks xs := by
  induction xs generalizing k with
  | nil => simp [laidBytes]
  | cons x xs ih =>
    cases k with
    | zero => simp [laidBytes]
    | succ k =>
      have h1 := ih (fun y hy => h y (by simp [hy])) k
      have h2 := St.bytes_len (h x (by simp))
      unfold laidBytes bulks at *
      simp only [List.take_succ_cons, List.map_cons, List.flatten_cons, List.length_append, List.sum_cons]
      omega
/-- the cells of a Step -/
def StAt (w : World) (b o : Nat) (x : St) : Prop :=
  w.cell? ⟨b, o, none⟩ = some (.int .i64 x.kind) ∧ w.cell? ⟨b, o + 1, none⟩ = some (.int .u64 x.n) ∧ w.cell? ⟨b, o + 2, none⟩ = some (.int .i64 x.i) ∧ w.cell? ⟨b, o + 3, none⟩ = some (S x.s) ∧
  w.cell? ⟨b, o + 4, none⟩ = some (.slice x.A x.an x.ac) ∧ w.cell? ⟨b, o + 5, none⟩ = some (.slice x.B x.bn x.bc) ∧ w.cell? ⟨b, o + 6, none⟩ = some (.int .i64 x.width) ∧ w.cell? ⟨b, o + 7, none⟩ = some (.int .u64 x.most) ∧ w.cell? ⟨b, o + 8, none⟩ = some (.int .i64 x.bound)
/-- a Step that is read out of its list -/
theorem Steps.at_ {w : World} {A : Option Addr} {n : Nat} {xs : List St} (h : Steps w A n xs) {k : Nat} (hk : k < n) :
    ∃ b off x, A = some ⟨b, off, none⟩ ∧ xs[k]? = some x ∧ x.Ok w ∧ ∀ w', Chg (fun _ => False) w w' → StAt w' b (off + k * 9) x := by
  obtain ⟨hl, hok, hcell⟩ := h
  obtain ⟨b, off, rfl, hc2⟩ := hcell (by omega)
  have hx : xs[k]? = some (xs[k]'(by omega)) := List.getElem?_eq_getElem (by omega)
  refine ⟨b, off, _, rfl, hx, hok _ (List.getElem_mem _), fun w' hc => ?_⟩
  have key : ∀ j u, (xs[k]'(by omega)).cells[j]? = some u → w'.cell? ⟨b, off + k * 9 + j, none⟩ = some u := fun j u hu => by
    have h1 := hc2 k _ hx j u hu
    rw [Nat.add_assoc]
    exact (hc.cell (World.block_lt_of_cell? w _ h1) (fun h => h)).trans h1
  exact ⟨key 0 _ rfl, key 1 _ rfl, key 2 _ rfl, key 3 _ rfl, key 4 _ rfl, key 5 _ rfl, key 6 _ rfl, key 7 _ rfl, key 8 _ rfl⟩

set_option maxHeartbeats 4000000 in
set_option maxRecDepth 100000 in
theorem writes_walk (A B C : Option Addr) (n m l c d e : Nat) (p q : List St) (bs : List Bool) (w : World) (hp : Steps w A n p) (hq : Steps w B m q) (hb : Lst w C l (bools bs)) (hl : l ≤ 9223372036854775807)
    (hpb : bulks p + bulks q ≤ 1048576) (hnb : n ≤ 1048576) (hmb : m ≤ 1048576) :
    Calls Try.prog 6 #[.slice A n c, .slice B m d, .slice C l e] w fun e w' => e = .returned (.bool true) ∧ Chg (fun _ => False) w w' := by
  go_enter Try.func6, Try.ntmps6
  go_wp2_with fail
  refine (new_calls w).mono ?_
  rintro e w1 ⟨rfl, h1, hb1, hz1⟩
  have c1 := Chg.of_below hb1 (fun _ => False)
  have m1 : Mine w w1 w.heap.size (.slice none 0 0) [] := ⟨h1, c1, Nat.le_refl _, fun k h => (own_none k h).elim⟩
  clear h1 hb1
  obtain ⟨g1, hg1⟩ : ∃ g, w.heap.size = g := ⟨_, rfl⟩
  have hg1' : g1 < w1.heap.size := by omega
  rw [hg1] at m1 ⊢
  go_wp2_with fail
  refine (new_calls w1).mono ?_
  rintro e w2 ⟨rfl, h2, hb2, hz2⟩
  have c2 := Chg.of_below hb2 (fun _ => False)
  have m2 : Mine w w2 w1.heap.size (.slice none 0 0) [] := ⟨h2, c1.trans c2, m1.chg.size, fun k h => (own_none k h).elim⟩
  have m1 := m1.below c2
  obtain ⟨g2, hg2⟩ : ∃ g, w1.heap.size = g := ⟨_, rfl⟩
  rw [hg2] at m2 hg1' hz2 ⊢
  have n12 : g1 ≠ g2 := by omega
  have Hg := Lib.hid (And.intro hg1 (And.intro hg2 (And.intro hz1 hz2)))
  clear h2 hb2 hz2 hz1 hg1 hg2 hg1'
  go_wp2_with fail
  go_loopw [9, 10, 11] (fun xv yv iv wr => ∃ (k : Nat) (v1 v2 : Value), (k ≤ n ∨ k ≤ m) ∧ iv = .int .i64 k ∧ xv = S (laidBytes p k) ∧ yv = S (laidBytes q k) ∧ Mine w wr g1 v1 (laidBytes p k) ∧ Mine w wr g2 v2 (laidBytes q k) ∧ (∀ j, v1.ownBlock = some j → v2.ownBlock ≠ some j)) (fun _ _ iv _ => n + m - (intOf iv).toNat)
  case atStart => exact ⟨0, _, _, .inl (by omega), rfl, rfl, rfl, m1, m2, fun k h => (own_none k h).elim⟩
  case round =>
    obtain ⟨k, v1, v2, hk, rfl, rfl, rfl, m1, m2, hap⟩ := hrel
    by_cases hk1 : k < n
    · obtain ⟨b1, off1, x1, rfl, hx1, hok1, hat1⟩ := hp.at_ hk1
      obtain ⟨k0, k1, k2, k3, k4, k5, k6, k7, k8⟩ := hat1 _ m1.chg
      have hln1 := laid_next hx1
      have hle1 := laid_len hp.2.1 k
      have hbl1 := St.bytes_len hok1
      have hbk1 := bulk_at hx1
      have hadd1 := fun w => add_S (laidBytes p k) x1.bytes (by omega) w
      have hroom1 : (laidBytes p k).length + x1.bytes.length ≤ 140737488354000 := by omega
      have Hln1 := Lib.hid hln1
      clear hln1 hx1
      go_wp2_with fail
      refine (lay_calls g1 x1 v1 (laidBytes p k) _ m1.is (hok1.chg0 m1.chg) (hok1.far m1) hroom1).mono ?_
      clear k0 k1 k2 k3 k4 k5 k6 k7 k8
      rintro e wa1 ⟨rfl, hw⟩
      obtain ⟨v1', m1', m2', hap'⟩ := m1.wrote2 hw m2 (n12) (hap)
      clear hw m1 m2
      obtain ⟨k0, k1, k2, k3, k4, k5, k6, k7, k8⟩ := hat1 _ m1'.chg
      go_wp2_with fail
      refine (laid_calls x1 _ (hok1.chg0 m1'.chg)).mono ?_
      clear k0 k1 k2 k3 k4 k5 k6 k7 k8
      rintro e wb1 ⟨rfl, cb⟩
      have m1 := m1'.below cb
      have m2 := m2'.below cb
      clear m1' m2' cb
      rw [← Hln1.out] at m1 hadd1
      have hap := hap'
      clear hap'
      by_cases hk2 : k < m
      · obtain ⟨b2, off2, x2, rfl, hx2, hok2, hat2⟩ := hq.at_ hk2
        obtain ⟨k0, k1, k2, k3, k4, k5, k6, k7, k8⟩ := hat2 _ m2.chg
        have hln2 := laid_next hx2
        have hle2 := laid_len hq.2.1 k
        have hbl2 := St.bytes_len hok2
        have hbk2 := bulk_at hx2
        have hadd2 := fun w => add_S (laidBytes q k) x2.bytes (by omega) w
        have hroom2 : (laidBytes q k).length + x2.bytes.length ≤ 140737488354000 := by omega
        have Hln2 := Lib.hid hln2
        clear hln2 hx2
        go_wp2_with fail
        refine (lay_calls g2 x2 v2 (laidBytes q k) _ m2.is (hok2.chg0 m2.chg) (hok2.far m2) hroom2).mono ?_
        clear k0 k1 k2 k3 k4 k5 k6 k7 k8
        rintro e wa2 ⟨rfl, hw⟩
        obtain ⟨v2', m2', m1', hap'⟩ := m2.wrote2 hw m1 (Ne.symm n12) (fun j h1 h2 => hap j h2 h1)
        clear hw m2 m1
        obtain ⟨k0, k1, k2, k3, k4, k5, k6, k7, k8⟩ := hat2 _ m2'.chg
        go_wp2_with fail
        refine (laid_calls x2 _ (hok2.chg0 m2'.chg)).mono ?_
        clear k0 k1 k2 k3 k4 k5 k6 k7 k8
        rintro e wb2 ⟨rfl, cb⟩
        have m2 := m2'.below cb
        have m1 := m1'.below cb
        clear m2' m1' cb
        rw [← Hln2.out] at m2 hadd2
        have hap := fun j h1 h2 => hap' j h2 h1
        clear hap'
        by_cases hkl : k < l
        · obtain ⟨bc, offc, u, rfl, hu, hcell⟩ := (hb.chg0 m1.chg).at_ hkl
          obtain ⟨β, rfl⟩ : ∃ β : Bool, u = .bool β := by
            simp only [bools, List.getElem?_map, Option.map_eq_some_iff] at hu
            obtain ⟨β, _, rfl⟩ := hu
            exact ⟨β, rfl⟩
          clear hu
          cases β
          · go_wp2_with fail
            go_roundw
            case rel => exact ⟨k + 1, v1', v2', by omega, by go_num, rfl, rfl, m1, m2, hap⟩
            case measure => simp [intOf]; omega
          · go_wp2_with fail
            refine (string_calls g1 _ _ _ m1.is).mono ?_
            rintro e w' ⟨rfl, rfl⟩
            go_wp2_with fail
            refine (len_calls g1 _ _ _ m1.is).mono ?_
            rintro e w' ⟨rfl, rfl⟩
            go_wp2_with fail
            refine (string_calls g2 _ _ _ m2.is).mono ?_
            rintro e w' ⟨rfl, rfl⟩
            go_wp2_with fail
            go_roundw
            case rel => exact ⟨k + 1, v1', v2', by omega, by go_num, rfl, rfl, m1, m2, hap⟩
            case measure => simp [intOf]; omega
        · go_wp2_with fail
          go_roundw
          case rel => exact ⟨k + 1, v1', v2', by omega, by go_num, rfl, rfl, m1, m2, hap⟩
          case measure => simp [intOf]; omega
      · by_cases hkl : k < l
        · obtain ⟨bc, offc, u, rfl, hu, hcell⟩ := (hb.chg0 m1.chg).at_ hkl
          obtain ⟨β, rfl⟩ : ∃ β : Bool, u = .bool β := by
            simp only [bools, List.getElem?_map, Option.map_eq_some_iff] at hu
            obtain ⟨β, _, rfl⟩ := hu
            exact ⟨β, rfl⟩
          clear hu
          cases β
          · go_wp2_with fail
            go_roundw
            case rel => exact ⟨k + 1, v1', v2, by omega, by go_num, rfl, by rw [laid_over (by rw [hq.1]; omega)], m1, by rw [laid_over (by rw [hq.1]; omega)]; exact m2, hap⟩
            case measure => simp [intOf]; omega
          · go_wp2_with fail
            refine (string_calls g1 _ _ _ m1.is).mono ?_
            rintro e w' ⟨rfl, rfl⟩
            go_wp2_with fail
            refine (len_calls g1 _ _ _ m1.is).mono ?_
            rintro e w' ⟨rfl, rfl⟩
            go_wp2_with fail
            refine (string_calls g2 _ _ _ m2.is).mono ?_
            rintro e w' ⟨rfl, rfl⟩
            go_wp2_with fail
            go_roundw
            case rel => exact ⟨k + 1, v1', v2, by omega, by go_num, rfl, by rw [laid_over (by rw [hq.1]; omega)], m1, by rw [laid_over (by rw [hq.1]; omega)]; exact m2, hap⟩
            case measure => simp [intOf]; omega
        · go_wp2_with fail
          go_roundw
          case rel => exact ⟨k + 1, v1', v2, by omega, by go_num, rfl, by rw [laid_over (by rw [hq.1]; omega)], m1, by rw [laid_over (by rw [hq.1]; omega)]; exact m2, hap⟩
          case measure => simp [intOf]; omega
    · by_cases hk2 : k < m
      · obtain ⟨b2, off2, x2, rfl, hx2, hok2, hat2⟩ := hq.at_ hk2
        obtain ⟨k0, k1, k2, k3, k4, k5, k6, k7, k8⟩ := hat2 _ m2.chg
        have hln2 := laid_next hx2
        have hle2 := laid_len hq.2.1 k
        have hbl2 := St.bytes_len hok2
        have hbk2 := bulk_at hx2
        have hadd2 := fun w => add_S (laidBytes q k) x2.bytes (by omega) w
        have hroom2 : (laidBytes q k).length + x2.bytes.length ≤ 140737488354000 := by omega
        have Hln2 := Lib.hid hln2
        clear hln2 hx2
        go_wp2_with fail
        refine (lay_calls g2 x2 v2 (laidBytes q k) _ m2.is (hok2.chg0 m2.chg) (hok2.far m2) hroom2).mono ?_
        clear k0 k1 k2 k3 k4 k5 k6 k7 k8
        rintro e wa2 ⟨rfl, hw⟩
        obtain ⟨v2', m2', m1', hap'⟩ := m2.wrote2 hw m1 (Ne.symm n12) (fun j h1 h2 => hap j h2 h1)
        clear hw m2 m1
        obtain ⟨k0, k1, k2, k3, k4, k5, k6, k7, k8⟩ := hat2 _ m2'.chg
        go_wp2_with fail
        refine (laid_calls x2 _ (hok2.chg0 m2'.chg)).mono ?_
        clear k0 k1 k2 k3 k4 k5 k6 k7 k8
        rintro e wb2 ⟨rfl, cb⟩
        have m2 := m2'.below cb
        have m1 := m1'.below cb
        clear m2' m1' cb
        rw [← Hln2.out] at m2 hadd2
        have hap := fun j h1 h2 => hap' j h2 h1
        clear hap'
        by_cases hkl : k < l
        · obtain ⟨bc, offc, u, rfl, hu, hcell⟩ := (hb.chg0 m1.chg).at_ hkl
          obtain ⟨β, rfl⟩ : ∃ β : Bool, u = .bool β := by
            simp only [bools, List.getElem?_map, Option.map_eq_some_iff] at hu
            obtain ⟨β, _, rfl⟩ := hu
            exact ⟨β, rfl⟩
          clear hu
          cases β
          · go_wp2_with fail
            go_roundw
            case rel => exact ⟨k + 1, v1, v2', by omega, by go_num, by rw [laid_over (by rw [hp.1]; omega)], rfl, by rw [laid_over (by rw [hp.1]; omega)]; exact m1, m2, hap⟩
            case measure => simp [intOf]; omega
          · go_wp2_with fail
            refine (string_calls g1 _ _ _ m1.is).mono ?_
            rintro e w' ⟨rfl, rfl⟩
            go_wp2_with fail
            refine (len_calls g1 _ _ _ m1.is).mono ?_
            rintro e w' ⟨rfl, rfl⟩
            go_wp2_with fail
            refine (string_calls g2 _ _ _ m2.is).mono ?_
            rintro e w' ⟨rfl, rfl⟩
            go_wp2_with fail
            go_roundw
            case rel => exact ⟨k + 1, v1, v2', by omega, by go_num, by rw [laid_over (by rw [hp.1]; omega)], rfl, by rw [laid_over (by rw [hp.1]; omega)]; exact m1, m2, hap⟩
            case measure => simp [intOf]; omega
        · go_wp2_with fail
          go_roundw
          case rel => exact ⟨k + 1, v1, v2', by omega, by go_num, by rw [laid_over (by rw [hp.1]; omega)], rfl, by rw [laid_over (by rw [hp.1]; omega)]; exact m1, m2, hap⟩
          case measure => simp [intOf]; omega
      · go_wp2_with fail
        refine (string_calls g1 _ _ _ m1.is).mono ?_
        rintro e w' ⟨rfl, rfl⟩
        go_wp2_with fail
        refine (string_calls g2 _ _ _ m2.is).mono ?_
        rintro e w' ⟨rfl, rfl⟩
        go_wp2_with fail
        refine (len_calls g1 _ _ _ m1.is).mono ?_
        rintro e w' ⟨rfl, rfl⟩
        go_wp2_with fail
        refine (len_calls g2 _ _ _ m2.is).mono ?_
        rintro e w' ⟨rfl, rfl⟩
        go_wp2_with fail
        refine (lives_calls _).mono ?_
        rintro e w3 ⟨rfl, c3⟩
        go_wp2_with fail
        go_ret
        exact ⟨rfl, m1.chg.trans c3⟩
end Go.Proofs.Ytkajbpdhglaieaa
