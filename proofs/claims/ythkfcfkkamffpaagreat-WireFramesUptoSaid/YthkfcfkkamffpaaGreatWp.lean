/-
  Layer 27: a part, whatever its field is: what its four functions do. Printed by gen_wp.py.
-/
import Derived.Test.YthkfcfkkamffpaaGreatWo
namespace Go.Proofs.YthkfcfkkamffpaaGreat
open Go.RowKit
set_option linter.unusedVariables false
set_option linter.unusedSimpArgs false
open Wm (M)

def LR (w : World) (size : Nat) (v : Value) (n : Nat) (xs : List Value) : Prop := ∃ A c, v = .slice A n c ∧ RL w A size n xs
def ROff (Q : Nat → Prop) (v : Value) : Prop := ∀ A n c, v = .slice A n c → Off Q A n
theorem LR.chg {Q : Nat → Prop} {w w' : World} {size n : Nat} {v : Value} {xs : List Value} (h : LR w size v n xs) (hc : Chg Q w w') (ho : ROff Q v) : LR w' size v n xs := by
  obtain ⟨A, c, e, hr⟩ := h
  exact ⟨A, c, e, hr.chg hc (ho A n c e)⟩
structure IsL (w : World) (m : M) (L : Ls) : Prop where
  t : LR w 32 L.t m.trail.length (m.trail.flatMap fun x => bys x)
  s : LR w 32 L.s m.since.length (m.since.flatMap fun x => bys x)
  p : LR w 2 L.p m.pairs.length (m.pairs.flatMap fun x => [S x.1, S x.2])
  y : LR w 1 L.y m.way.length (m.way.flatMap fun x => [.int .i64 x])
structure LOff (Q : Nat → Prop) (L : Ls) : Prop where
  t : ROff Q L.t
  s : ROff Q L.s
  p : ROff Q L.p
  y : ROff Q L.y
theorem IsL.chg {Q : Nat → Prop} {w w' : World} {m : M} {L : Ls} (h : IsL w m L) (hc : Chg Q w w') (ho : LOff Q L) : IsL w' m L :=
  ⟨h.t.chg hc ho.t, h.s.chg hc ho.s, h.p.chg hc ho.p, h.y.chg hc ho.y⟩
theorem ROff.no (v : Value) : ROff (fun _ => False) v := fun _ _ _ _ _ _ _ _ h => h
theorem LOff.no (L : Ls) : LOff (fun _ => False) L := ⟨ROff.no _, ROff.no _, ROff.no _, ROff.no _⟩
/-- the lists are the walk's own -/
structure OwnL (w : World) (base : Nat) (m : M) (L : Ls) : Prop where
  t : w.ownsRow base 27 32 L.t m.trail.length (m.trail.flatMap fun x => bys x)
  s : w.ownsRow base 27 32 L.s m.since.length (m.since.flatMap fun x => bys x)
  p : w.ownsRow base 75 2 L.p m.pairs.length (m.pairs.flatMap fun x => [S x.1, S x.2])
  y : w.ownsRow base 3 1 L.y m.way.length (m.way.flatMap fun x => [.int .i64 x])
theorem OwnL.chg {Q : Nat → Prop} {w w' : World} {base : Nat} {m : M} {L : Ls} (h : OwnL w base m L) (hc : Chg Q w w') (hq : ∀ b, Q b → b < base) : OwnL w' base m L :=
  ⟨own_chg h.t hc (fun b hb hs => by have := (h.t.lt b hb).1; have := hq b hs; omega), own_chg h.s hc (fun b hb hs => by have := (h.s.lt b hb).1; have := hq b hs; omega),
   own_chg h.p hc (fun b hb hs => by have := (h.p.lt b hb).1; have := hq b hs; omega), own_chg h.y hc (fun b hb hs => by have := (h.y.lt b hb).1; have := hq b hs; omega)⟩
theorem own_low {w : World} {b b' size n : Nat} {e : TypeId} {v : Value} {xs : List Value} (h : w.ownsRow b e size v n xs) (hb : b' ≤ b) : w.ownsRow b' e size v n xs :=
  ⟨h.1, h.2.elim Or.inl (fun ⟨g, cap, cur, hv, hg, r⟩ => Or.inr ⟨g, cap, cur, hv, Nat.le_trans hb hg, r⟩)⟩
/-- a message's numbers are the machine's -/
structure Nm (m : M) : Prop where
  hd : Dg m
  kind : m.kind < 256
  id : m.id < 4294967296
  code : I64 m.code
  limit : I64 m.limit
  frm : U64 m.frm
  size : U64 m.size
  hsize : U64 m.hsize
  ever : U64 m.ever
  ecnt : U64 m.ecnt
  trail : ∀ d ∈ m.trail, d.length = 32
  since : ∀ d ∈ m.since, d.length = 32
  way : ∀ n ∈ m.way, I64 n
  nt : m.trail.length ≤ 1048576
  ns : m.since.length ≤ 1048576
  np : m.pairs.length ≤ 1048576
  ny : m.way.length ≤ 1048576
  ne : m.enote.length ≤ 1000000000
def boxV : Wm.Fd → List Value
  | .K => [fn0 104, .int .i64 1024]
  | .T => [fn0 105, .int .i64 1024]
  | .V => [fn0 109, .int .i64 1024]
  | .L => [fn0 107, fn0 108, .int .i64 0, .int .i64 256]
  | .F => [fn0 102]
  | .S => [fn0 110]
  | .f => [fn0 150]
  | .m => [fn0 133]
  | .C => [fn0 151, fn0 152, .int .i64 1, .int .i64 65535]
  | .H => []
  | .E => []
  | .t => [fn0 163, .int .i64 64, fn0 154, fn0 156, fn0 164]
  | .s => [fn0 165, .int .i64 64, fn0 154, fn0 156, fn0 164]
  | .P => [fn0 128, .int .i64 256, fn0 129, fn0 130, fn0 131]
  | .W => [fn0 91, .int .i64 33, fn0 92, fn0 93, fn0 94]
  | .B => [fn0 179, .int .i64 1048576]
def layF : Wm.Fd → FuncId
  | .K => 139
  | .T => 139
  | .V => 139
  | .L => 145
  | .F => 135
  | .S => 135
  | .f => 174
  | .m => 174
  | .C => 145
  | .H => 153
  | .E => 158
  | .t => 183
  | .s => 183
  | .P => 166
  | .W => 111
  | .B => 139
def takeF : Wm.Fd → FuncId
  | .K => 141
  | .T => 141
  | .V => 141
  | .L => 146
  | .F => 136
  | .S => 136
  | .f => 176
  | .m => 176
  | .C => 146
  | .H => 155
  | .E => 159
  | .t => 185
  | .s => 185
  | .P => 168
  | .W => 113
  | .B => 141
def copyF : Wm.Fd → FuncId
  | .K => 143
  | .T => 143
  | .V => 143
  | .L => 147
  | .F => 137
  | .S => 137
  | .f => 178
  | .m => 178
  | .C => 147
  | .H => 157
  | .E => 160
  | .t => 187
  | .s => 187
  | .P => 170
  | .W => 115
  | .B => 143
def mayF : Wm.Fd → FuncId
  | .K => 144
  | .T => 144
  | .V => 144
  | .L => 148
  | .F => 138
  | .S => 138
  | .f => 138
  | .m => 138
  | .C => 148
  | .H => 138
  | .E => 161
  | .t => 188
  | .s => 188
  | .P => 171
  | .W => 116
  | .B => 144
def layI : Wm.Fd → List Nat
  | .K => [0]
  | .T => [0]
  | .V => [0]
  | .L => [0]
  | .F => [0]
  | .S => [0]
  | .f => [0]
  | .m => [0]
  | .C => [0]
  | .H => []
  | .E => []
  | .t => [0, 2]
  | .s => [0, 2]
  | .P => [0, 2]
  | .W => [0, 2]
  | .B => [0]
def takeI : Wm.Fd → List Nat
  | .K => [1, 0]
  | .T => [1, 0]
  | .V => [1, 0]
  | .L => [1, 3]
  | .F => [0]
  | .S => [0]
  | .f => [0]
  | .m => [0]
  | .C => [1, 3]
  | .H => []
  | .E => []
  | .t => [1, 3, 0]
  | .s => [1, 3, 0]
  | .P => [1, 3, 0]
  | .W => [1, 3, 0]
  | .B => [1, 0]
def copyI : Wm.Fd → List Nat
  | .K => [0]
  | .T => [0]
  | .V => [0]
  | .L => [1, 0]
  | .F => [0]
  | .S => [0]
  | .f => [0]
  | .m => [0]
  | .C => [1, 0]
  | .H => []
  | .E => []
  | .t => [0]
  | .s => [0]
  | .P => [0]
  | .W => [0]
  | .B => [0]
def mayI : Wm.Fd → List Nat
  | .K => [0, 1]
  | .T => [0, 1]
  | .V => [0, 1]
  | .L => [0, 2, 3]
  | .F => []
  | .S => []
  | .f => []
  | .m => []
  | .C => [0, 2, 3]
  | .H => []
  | .E => []
  | .t => [0, 1, 4]
  | .s => [0, 1, 4]
  | .P => [0, 1, 4]
  | .W => [0, 1, 4]
  | .B => [0, 1]

def caps (bs : List Nat) (ix : List Nat) : Array Value := (ix.map fun i => pt (bs.getD i 0)).toArray
/-- the part's boxes -/
def PartAt (w : World) (c : Wm.Fd) (bs : List Nat) : Prop := ∀ i v, (boxV c)[i]? = some v → w.cell? ⟨bs.getD i 0, 0, none⟩ = some v
def POff (Q : Nat → Prop) (c : Wm.Fd) (bs : List Nat) : Prop := ∀ i, i < (boxV c).length → ¬ Q (bs.getD i 0)
theorem PartAt.chg {Q : Nat → Prop} {w w' : World} {c : Wm.Fd} {bs : List Nat} (h : PartAt w c bs) (hc : Chg Q w w') (ho : POff Q c bs) : PartAt w' c bs :=
  fun i v hv => keepC hc (ho i (List.getElem?_eq_some_iff.1 hv).1) (h i v hv)
def putL (K L : Ls) : Wm.Fd → Ls
  | .t => { K with t := L.t }
  | .s => { K with s := L.s }
  | .P => { K with p := L.p }
  | .W => { K with y := L.y }
  | _ => K
theorem OwnL.to {w : World} {b : Nat} {m m' : M} {L : Ls} (h : OwnL w b m L) (e1 : m'.trail = m.trail) (e2 : m'.since = m.since) (e3 : m'.pairs = m.pairs) (e4 : m'.way = m.way) : OwnL w b m' L :=
  ⟨by rw [e1]; exact h.t, by rw [e2]; exact h.s, by rw [e3]; exact h.p, by rw [e4]; exact h.y⟩
theorem IsM.of {w : World} {g : Nat} {m : M} {L : Ls} {cs : Array Value} (h : Blk w g 36 cs) (e : cs = mcells m L) : IsM w g m L := by subst e; exact h
set_option maxRecDepth 100000
theorem run_lay (c : Wm.Fd) : ∀ (args : Array Value) (w : World), (callFunc (layF c) args).run Tryz.prog w = .ok (.enter (layF c) args) w := by cases c <;> exact fun _ _ => by kernel_rfl
theorem run_take (c : Wm.Fd) : ∀ (args : Array Value) (w : World), (callFunc (takeF c) args).run Tryz.prog w = .ok (.enter (takeF c) args) w := by cases c <;> exact fun _ _ => by kernel_rfl
theorem run_copy (c : Wm.Fd) : ∀ (args : Array Value) (w : World), (callFunc (copyF c) args).run Tryz.prog w = .ok (.enter (copyF c) args) w := by cases c <;> exact fun _ _ => by kernel_rfl
theorem run_may (c : Wm.Fd) : ∀ (args : Array Value) (w : World), (callFunc (mayF c) args).run Tryz.prog w = .ok (.enter (mayF c) args) w := by cases c <;> exact fun _ _ => by kernel_rfl
theorem flat_id (l : List (List UInt8)) : (l.flatMap fun d => d) = l.flatten := by induction l <;> simp_all
theorem flat_len {α : Type} (f : α → List UInt8) (k : Nat) : ∀ l : List α, (∀ x ∈ l, (f x).length ≤ k) → (l.flatMap f).length ≤ l.length * k
  | [], _ => by simp
  | x :: l, h => by
    have h1 := h x (by simp)
    have h2 := flat_len f k l (fun y hy => h y (by simp [hy]))
    rw [List.flatMap_cons, List.length_append, List.length_cons, Nat.succ_mul]
    omega
theorem free10 (n : Nat) (h : n < 18446744073709551616) : (Pk.free n).length ≤ 10 := Pk.free_length_ten h
theorem dec_int (a : Nat) (b : Nat) : decide ((a : Int) ≤ (b : Int)) = decide (a ≤ b) := by rw [decide_eq_decide]; omega
theorem all_yes {α : Type} (l : List α) : (l.all fun _ => true) = true := by simp

set_option maxRecDepth 100000 in
theorem part_copy (c : Wm.Fd) (bs : List Nat) (go gm : Nat) (n m : M) (K L : Ls) (w : World) (hp : PartAt w c bs) (hg : IsM w go n K) (hmm : IsM w gm m L) (hn : Dg n) (hk : Nm m) (hl : IsL w m L) (n1 : gm ≠ go) (ho : POff (fun k => k = go) c bs) :
    Calls Tryz.prog (copyF c) (#[pt go, pt gm] ++ caps bs (copyI c)) w fun e w' => e = .returned (.tuple #[]) ∧ IsM w' go (Wm.put n m c) (putL K L c) ∧ Chg (fun k => k = go) w w' := by
  have hm := hmm.mf hk.hd
  cases c with
  | K =>
    exact (text_copy 104 3 tells_key1 go gm (bs.getD 0 0) m.key (mcells n K) w (hp 0 _ rfl) hm.key hg (by rw [mc_len n K hn]; omega) (ho 0 (by decide)) n1).mono fun e w' ⟨h1, h2, h3⟩ => ⟨h1, IsM.of h2 (set_key n K m.key), h3⟩
  | T =>
    exact (text_copy 105 4 tells_to1 go gm (bs.getD 0 0) m.to (mcells n K) w (hp 0 _ rfl) hm.to hg (by rw [mc_len n K hn]; omega) (ho 0 (by decide)) n1).mono fun e w' ⟨h1, h2, h3⟩ => ⟨h1, IsM.of h2 (set_to n K m.to), h3⟩
  | V =>
    exact (text_copy 109 5 tells_val1 go gm (bs.getD 0 0) m.val (mcells n K) w (hp 0 _ rfl) hm.val hg (by rw [mc_len n K hn]; omega) (ho 0 (by decide)) n1).mono fun e w' ⟨h1, h2, h3⟩ => ⟨h1, IsM.of h2 (set_val n K m.val), h3⟩
  | L =>
    exact (small_copy 107 108 6 gets_limit sets_limit go gm (bs.getD 0 0) (bs.getD 1 0) m.limit (mcells n K) w (hp 0 _ rfl) (hp 1 _ rfl) hm.limit hg (by rw [mc_len n K hn]; omega) (ho 0 (by decide)) (ho 1 (by decide))).mono fun e w' ⟨h1, h2, h3⟩ => ⟨h1, IsM.of h2 (set_limit n K m.limit), h3⟩
  | F =>
    exact (free_copy 102 7 tells_from1 go gm (bs.getD 0 0) m.frm (mcells n K) w (hp 0 _ rfl) hm.frm hg (by rw [mc_len n K hn]; omega) (ho 0 (by decide)) n1).mono fun e w' ⟨h1, h2, h3⟩ => ⟨h1, IsM.of h2 (set_frm n K m.frm), h3⟩
  | S =>
    exact (free_copy 110 8 tells_size1 go gm (bs.getD 0 0) m.size (mcells n K) w (hp 0 _ rfl) hm.size hg (by rw [mc_len n K hn]; omega) (ho 0 (by decide)) n1).mono fun e w' ⟨h1, h2, h3⟩ => ⟨h1, IsM.of h2 (set_size n K m.size), h3⟩
  | f =>
    exact (truth_copy 150 9 tells_found1 go gm (bs.getD 0 0) m.found (mcells n K) w (hp 0 _ rfl) hm.found hg (by rw [mc_len n K hn]; omega) (ho 0 (by decide)) n1).mono fun e w' ⟨h1, h2, h3⟩ => ⟨h1, IsM.of h2 (set_found n K m.found), h3⟩
  | m =>
    exact (truth_copy 133 10 tells_told2 go gm (bs.getD 0 0) m.more (mcells n K) w (hp 0 _ rfl) hm.more hg (by rw [mc_len n K hn]; omega) (ho 0 (by decide)) n1).mono fun e w' ⟨h1, h2, h3⟩ => ⟨h1, IsM.of h2 (set_more n K m.more), h3⟩
  | C =>
    exact (small_copy 151 152 2 gets_code sets_code go gm (bs.getD 0 0) (bs.getD 1 0) m.code (mcells n K) w (hp 0 _ rfl) (hp 1 _ rfl) hm.code hg (by rw [mc_len n K hn]; omega) (ho 0 (by decide)) (ho 1 (by decide))).mono fun e w' ⟨h1, h2, h3⟩ => ⟨h1, IsM.of h2 (set_code n K m.code), h3⟩
  | H =>
    exact head_copy go gm n m K L w hg hmm hn hk.hd
  | E =>
    exact entry_copy go gm n m K L w hg hmm hn hk.hd
  | t =>
    obtain ⟨A, cp, eA, _⟩ := hl.t
    exact (list_copy_dig 163 79 tells_trail1 go gm (bs.getD 0 0) A m.trail.length cp (mcells n K) w (hp 0 _ rfl) (hm.t.trans (by rw [eA])) hg (by rw [mc_len n K hn]; omega) (ho 0 (by decide)) n1).mono fun e w' ⟨h1, h2, h3⟩ => ⟨h1, by rw [set_t n K hn, ← eA] at h2; exact h2, h3⟩
  | s =>
    obtain ⟨A, cp, eA, _⟩ := hl.s
    exact (list_copy_dig 165 80 tells_since1 go gm (bs.getD 0 0) A m.since.length cp (mcells n K) w (hp 0 _ rfl) (hm.s.trans (by rw [eA])) hg (by rw [mc_len n K hn]; omega) (ho 0 (by decide)) n1).mono fun e w' ⟨h1, h2, h3⟩ => ⟨h1, by rw [set_s n K hn, ← eA] at h2; exact h2, h3⟩
  | P =>
    obtain ⟨A, cp, eA, _⟩ := hl.p
    exact (list_copy_pair 128 81 tells_told1 go gm (bs.getD 0 0) A m.pairs.length cp (mcells n K) w (hp 0 _ rfl) (hm.p.trans (by rw [eA])) hg (by rw [mc_len n K hn]; omega) (ho 0 (by decide)) n1).mono fun e w' ⟨h1, h2, h3⟩ => ⟨h1, by rw [set_p n K hn, ← eA] at h2; exact h2, h3⟩
  | W =>
    obtain ⟨A, cp, eA, _⟩ := hl.y
    exact (list_copy_int 91 82 tells_parts1 go gm (bs.getD 0 0) A m.way.length cp (mcells n K) w (hp 0 _ rfl) (hm.y.trans (by rw [eA])) hg (by rw [mc_len n K hn]; omega) (ho 0 (by decide)) n1).mono fun e w' ⟨h1, h2, h3⟩ => ⟨h1, by rw [set_y n K hn, ← eA] at h2; exact h2, h3⟩
  | B =>
    exact (text_copy 179 83 tells_data1 go gm (bs.getD 0 0) m.bytes (mcells n K) w (hp 0 _ rfl) hm.bytes hg (by rw [mc_len n K hn]; omega) (ho 0 (by decide)) n1).mono fun e w' ⟨h1, h2, h3⟩ => ⟨h1, IsM.of h2 (set_bytes n K hn m.bytes), h3⟩

set_option maxRecDepth 100000 in
theorem part_may (c : Wm.Fd) (bs : List Nat) (gm : Nat) (m : M) (L : Ls) (w : World) (hp : PartAt w c bs) (hmm : IsM w gm m L) (hk : Nm m) (hl : IsL w m L) :
    Calls Tryz.prog (mayF c) (#[pt gm] ++ caps bs (mayI c)) w fun e w' => e = .returned (.bool (Wm.fit m c)) ∧ Chg (fun _ => False) w w' := by
  have hm := hmm.mf hk.hd
  cases c with
  | K =>
    exact (text_may 104 3 tells_key1 gm (bs.getD 0 0) (bs.getD 1 0) 1024 m.key w (hp 0 _ rfl) (hp 1 _ rfl) hm.key).mono fun e w' ⟨h1, h2⟩ => ⟨h1.trans (congrArg (fun b => Ending.returned (.bool b)) (dec_int _ _)), h2⟩
  | T =>
    exact (text_may 105 4 tells_to1 gm (bs.getD 0 0) (bs.getD 1 0) 1024 m.to w (hp 0 _ rfl) (hp 1 _ rfl) hm.to).mono fun e w' ⟨h1, h2⟩ => ⟨h1.trans (congrArg (fun b => Ending.returned (.bool b)) (dec_int _ _)), h2⟩
  | V =>
    exact (text_may 109 5 tells_val1 gm (bs.getD 0 0) (bs.getD 1 0) 1024 m.val w (hp 0 _ rfl) (hp 1 _ rfl) hm.val).mono fun e w' ⟨h1, h2⟩ => ⟨h1.trans (congrArg (fun b => Ending.returned (.bool b)) (dec_int _ _)), h2⟩
  | L =>
    exact small_may 107 6 gets_limit gm (bs.getD 0 0) (bs.getD 2 0) (bs.getD 3 0) m.limit 0 256 w (hp 0 _ rfl) (hp 2 _ rfl) (hp 3 _ rfl) hm.limit
  | F =>
    exact yes_calls gm w
  | S =>
    exact yes_calls gm w
  | f =>
    exact yes_calls gm w
  | m =>
    exact yes_calls gm w
  | C =>
    exact small_may 151 2 gets_code gm (bs.getD 0 0) (bs.getD 2 0) (bs.getD 3 0) m.code 1 65535 w (hp 0 _ rfl) (hp 2 _ rfl) (hp 3 _ rfl) hm.code
  | H =>
    exact yes_calls gm w
  | E =>
    exact entry_may gm m L w hmm hk.hd hk.ne
  | t =>
    obtain ⟨A, cp, eA, hr⟩ := hl.t
    exact (list_may_dig 163 164 79 tells_trail1 (fun _ _ => by kernel_rfl) gm (bs.getD 0 0) (bs.getD 1 0) (bs.getD 4 0) 64 A cp m.trail (fun _ => true) w (hp 0 _ rfl) (hp 1 _ rfl) (hp 4 _ rfl) (hm.t.trans (by rw [eA])) hr hk.trail hk.nt (fun d _ w => any1_calls d w)).mono fun e w' ⟨h1, h2⟩ => ⟨h1.trans (congrArg (fun b => Ending.returned (.bool b)) (by rw [show (64 : Int) = ((64 : Nat) : Int) from rfl, dec_int, all_yes, Bool.and_true]; rfl)), h2⟩
  | s =>
    obtain ⟨A, cp, eA, hr⟩ := hl.s
    exact (list_may_dig 165 164 80 tells_since1 (fun _ _ => by kernel_rfl) gm (bs.getD 0 0) (bs.getD 1 0) (bs.getD 4 0) 64 A cp m.since (fun _ => true) w (hp 0 _ rfl) (hp 1 _ rfl) (hp 4 _ rfl) (hm.s.trans (by rw [eA])) hr hk.since hk.ns (fun d _ w => any1_calls d w)).mono fun e w' ⟨h1, h2⟩ => ⟨h1.trans (congrArg (fun b => Ending.returned (.bool b)) (by rw [show (64 : Int) = ((64 : Nat) : Int) from rfl, dec_int, all_yes, Bool.and_true]; rfl)), h2⟩
  | P =>
    obtain ⟨A, cp, eA, hr⟩ := hl.p
    exact (list_may_pair 128 131 81 tells_told1 (fun _ _ => by kernel_rfl) gm (bs.getD 0 0) (bs.getD 1 0) (bs.getD 4 0) 256 A cp m.pairs (fun p => Wm.short p.1 && Wm.short p.2) w (hp 0 _ rfl) (hp 1 _ rfl) (hp 4 _ rfl) (hm.p.trans (by rw [eA])) hr hk.np (fun p _ w => shortPair_calls p w)).mono fun e w' ⟨h1, h2⟩ => ⟨h1.trans (congrArg (fun b => Ending.returned (.bool b)) (by rw [show (256 : Int) = ((256 : Nat) : Int) from rfl, dec_int]; rfl)), h2⟩
  | W =>
    obtain ⟨A, cp, eA, hr⟩ := hl.y
    exact (list_may_int 91 94 82 tells_parts1 (fun _ _ => by kernel_rfl) gm (bs.getD 0 0) (bs.getD 1 0) (bs.getD 4 0) 33 A cp m.way (fun n => decide (0 ≤ n ∧ n ≤ 65535)) w (hp 0 _ rfl) (hp 1 _ rfl) (hp 4 _ rfl) (hm.y.trans (by rw [eA])) hr hk.ny (fun n _ w => step_calls n w)).mono fun e w' ⟨h1, h2⟩ => ⟨h1.trans (congrArg (fun b => Ending.returned (.bool b)) (by rw [show (33 : Int) = ((33 : Nat) : Int) from rfl, dec_int]; rfl)), h2⟩
  | B =>
    exact (text_may 179 83 tells_data1 gm (bs.getD 0 0) (bs.getD 1 0) 1048576 m.bytes w (hp 0 _ rfl) (hp 1 _ rfl) hm.bytes).mono fun e w' ⟨h1, h2⟩ => ⟨h1.trans (congrArg (fun b => Ending.returned (.bool b)) (dec_int _ _)), h2⟩

set_option maxRecDepth 100000 in
theorem part_lay (c : Wm.Fd) (bs : List Nat) (g gm : Nat) (m : M) (L : Ls) (v : Value) (xs : List UInt8) (w : World) (h : IsW w g v xs) (hp : PartAt w c bs) (hmm : IsM w gm m L) (hk : Nm m) (hl : IsL w m L) (hfit : Wm.fit m c = true) (hroom : xs.length ≤ 100000000)
    (ngm : ¬ (gm = g ∨ v.ownBlock = some gm)) (ho : POff (fun k => k = g ∨ v.ownBlock = some k) c bs) (hoff : LOff (fun k => k = g ∨ v.ownBlock = some k) L) :
    Calls Tryz.prog (layF c) (#[pt g, pt gm] ++ caps bs (layI c)) w fun e w' => e = .returned (.tuple #[]) ∧ Wrote w w' g v (xs ++ Wm.fb m c) := by
  have hm := hmm.mf hk.hd
  cases c with
  | K =>
    have hf : m.key.length ≤ 1024 := of_decide_eq_true hfit
    have h10 := free10 m.key.length (by omega)
    exact text_lay 104 3 tells_key1 g gm (bs.getD 0 0) m.key v xs w h (hp 0 _ rfl) hm.key (by rw [List.length_append]; omega)
  | T =>
    have hf : m.to.length ≤ 1024 := of_decide_eq_true hfit
    have h10 := free10 m.to.length (by omega)
    exact text_lay 105 4 tells_to1 g gm (bs.getD 0 0) m.to v xs w h (hp 0 _ rfl) hm.to (by rw [List.length_append]; omega)
  | V =>
    have hf : m.val.length ≤ 1024 := of_decide_eq_true hfit
    have h10 := free10 m.val.length (by omega)
    exact text_lay 109 5 tells_val1 g gm (bs.getD 0 0) m.val v xs w h (hp 0 _ rfl) hm.val (by rw [List.length_append]; omega)
  | L =>
    have hf : 0 ≤ m.limit ∧ m.limit ≤ 256 := of_decide_eq_true hfit
    have h10 := free10 m.limit.toNat (by omega)
    exact small_lay 107 6 gets_limit g gm (bs.getD 0 0) m.limit v xs w h (hp 0 _ rfl) hm.limit (by omega) hk.limit (by omega)
  | F =>
    have h10 := free10 m.frm hk.frm
    exact free_lay 102 7 tells_from1 g gm (bs.getD 0 0) m.frm v xs w h (hp 0 _ rfl) hm.frm hk.frm (by omega)
  | S =>
    have h10 := free10 m.size hk.size
    exact free_lay 110 8 tells_size1 g gm (bs.getD 0 0) m.size v xs w h (hp 0 _ rfl) hm.size hk.size (by omega)
  | f =>
    exact truth_lay 150 9 tells_found1 g gm (bs.getD 0 0) m.found v xs w h (hp 0 _ rfl) hm.found (by omega)
  | m =>
    exact truth_lay 133 10 tells_told2 g gm (bs.getD 0 0) m.more v xs w h (hp 0 _ rfl) hm.more (by omega)
  | C =>
    have hf : 1 ≤ m.code ∧ m.code ≤ 65535 := of_decide_eq_true hfit
    have h10 := free10 m.code.toNat (by omega)
    exact small_lay 151 2 gets_code g gm (bs.getD 0 0) m.code v xs w h (hp 0 _ rfl) hm.code (by omega) hk.code (by omega)
  | H =>
    exact head_lay g gm m L v xs w h hmm hk.hd hk.hsize (fun e => ngm (.inl e)) (fun e => ngm (.inr e)) (by omega)
  | E =>
    have hf : m.enote.length ≤ 32 := of_decide_eq_true hfit
    exact entry_lay g gm m L v xs w h hmm hk.hd hk.ever hk.ecnt (by omega) (fun e => ngm (.inl e)) (fun e => ngm (.inr e)) (by omega)
  | t =>
    have hf : m.trail.length ≤ 64 := of_decide_eq_true hfit
    have hfl := flat_len (fun d => d) 32 m.trail (fun d hd => by rw [hk.trail d hd]; omega)
    obtain ⟨A, cp, eA, hr⟩ := hl.t
    exact (list_lay_dig 163 154 79 tells_trail1 (fun _ _ => by kernel_rfl) g gm (bs.getD 0 0) (bs.getD 2 0) A cp m.trail (fun d => d) v xs w h (hp 0 _ rfl) (hp 2 _ rfl) (hm.t.trans (by rw [eA])) hr hk.trail (hoff.t A _ cp eA) hk.nt (by omega) (ho 0 (by decide)) (ho 2 (by decide)) ngm (fun d hd v xs w h hr => layDigest_calls g d v xs w h (hk.trail d hd) (by omega))).mono fun e w' ⟨h1, h2⟩ => ⟨h1, by rw [flat_id] at h2; exact h2⟩
  | s =>
    have hf : m.since.length ≤ 64 := of_decide_eq_true hfit
    have hfl := flat_len (fun d => d) 32 m.since (fun d hd => by rw [hk.since d hd]; omega)
    obtain ⟨A, cp, eA, hr⟩ := hl.s
    exact (list_lay_dig 165 154 80 tells_since1 (fun _ _ => by kernel_rfl) g gm (bs.getD 0 0) (bs.getD 2 0) A cp m.since (fun d => d) v xs w h (hp 0 _ rfl) (hp 2 _ rfl) (hm.s.trans (by rw [eA])) hr hk.since (hoff.s A _ cp eA) hk.ns (by omega) (ho 0 (by decide)) (ho 2 (by decide)) ngm (fun d hd v xs w h hr => layDigest_calls g d v xs w h (hk.since d hd) (by omega))).mono fun e w' ⟨h1, h2⟩ => ⟨h1, by rw [flat_id] at h2; exact h2⟩
  | P =>
    have hff := hfit
    simp only [Wm.fit, Bool.and_eq_true, decide_eq_true_eq, List.all_eq_true] at hff
    obtain ⟨hf, hall⟩ := hff
    have hpl : ∀ p ∈ m.pairs, (pairB p).length ≤ 2068 := fun p hp => by
      have := hall p hp
      unfold Wm.short at this
      simp only [decide_eq_true_eq] at this
      have ha := free10 p.1.length (by omega)
      have hb := free10 p.2.length (by omega)
      unfold pairB
      simp only [List.length_append]
      omega
    have hfl := flat_len pairB 2068 m.pairs hpl
    obtain ⟨A, cp, eA, hr⟩ := hl.p
    exact (list_lay_pair 128 129 81 tells_told1 (fun _ _ => by kernel_rfl) g gm (bs.getD 0 0) (bs.getD 2 0) A cp m.pairs pairB v xs w h (hp 0 _ rfl) (hp 2 _ rfl) (hm.p.trans (by rw [eA])) hr (hoff.p A _ cp eA) hk.np (by omega) (ho 0 (by decide)) (ho 2 (by decide)) ngm (fun p hp v xs w h hr => layPair_calls g p v xs w h hr))
  | W =>
    have hff := hfit
    simp only [Wm.fit, Bool.and_eq_true, decide_eq_true_eq, List.all_eq_true] at hff
    obtain ⟨hf, hall⟩ := hff
    have hpl : ∀ n ∈ m.way, (Pk.free n.toNat).length ≤ 10 := fun n hn => free10 _ (by have := hall n hn; omega)
    have hfl := flat_len (fun n : Int => Pk.free n.toNat) 10 m.way hpl
    obtain ⟨A, cp, eA, hr⟩ := hl.y
    exact (list_lay_int 91 92 82 tells_parts1 (fun _ _ => by kernel_rfl) g gm (bs.getD 0 0) (bs.getD 2 0) A cp m.way (fun n => Pk.free n.toNat) v xs w h (hp 0 _ rfl) (hp 2 _ rfl) (hm.y.trans (by rw [eA])) hr (hoff.y A _ cp eA) hk.ny (by omega) (ho 0 (by decide)) (ho 2 (by decide)) ngm (fun n hn v xs w h hr => layStep_calls g n v xs w h (hall n hn).1 (hk.way n hn) hr))
  | B =>
    have hf : m.bytes.length ≤ 1048576 := of_decide_eq_true hfit
    have h10 := free10 m.bytes.length (by omega)
    exact text_lay 179 83 tells_data1 g gm (bs.getD 0 0) m.bytes v xs w h (hp 0 _ rfl) hm.bytes (by rw [List.length_append]; omega)

def digS (r : Pk.Rd) : List UInt8 × Pk.Rd := (dig (r.raw 32).1, (r.raw 32).2)
def pairS (r : Pk.Rd) : (List UInt8 × List UInt8) × Pk.Rd := (((r.text 1024).1, ((r.text 1024).2.text 1024).1), ((r.text 1024).2.text 1024).2)
def stepS (r : Pk.Rd) : Int × Pk.Rd := (((r.free 65535).1 : Nat), (r.free 65535).2)
/-- a field read -/
def takeM (m : M) (r : Pk.Rd) : Wm.Fd → M × Pk.Rd
  | .K => ({ m with key := (r.text 1024).1 }, (r.text 1024).2)
  | .T => ({ m with to := (r.text 1024).1 }, (r.text 1024).2)
  | .V => ({ m with val := (r.text 1024).1 }, (r.text 1024).2)
  | .L => ({ m with limit := ((r.free 256).1 : Nat) }, (r.free 256).2)
  | .F => ({ m with frm := (r.free 18446744073709551615).1 }, (r.free 18446744073709551615).2)
  | .S => ({ m with size := (r.free 18446744073709551615).1 }, (r.free 18446744073709551615).2)
  | .f => ({ m with found := (tk .u8 (r.take 1).1 == 1) }, (r.take 1).2)
  | .m => ({ m with more := (tk .u8 (r.take 1).1 == 1) }, (r.take 1).2)
  | .C => ({ m with code := ((r.free 65535).1 : Nat) }, (r.free 65535).2)
  | .H => ({ m with hsize := (r.free MAX).1, hlog := dig ((r.free MAX).2.raw 32).1 }, ((r.free MAX).2.raw 32).2)
  | .E => ({ m with ever := (r.free MAX).1, ecnt := ((r.free MAX).2.free MAX).1, esum := dig (((r.free MAX).2.free MAX).2.raw 32).1, enote := ((((r.free MAX).2.free MAX).2.raw 32).2.text 32).1 }, ((((r.free MAX).2.free MAX).2.raw 32).2.text 32).2)
  | .t => ({ m with trail := (r.list 64 digS).1 }, (r.list 64 digS).2)
  | .s => ({ m with since := (r.list 64 digS).1 }, (r.list 64 digS).2)
  | .P => ({ m with pairs := (r.list 256 pairS).1 }, (r.list 256 pairS).2)
  | .W => ({ m with way := (r.list 33 stepS).1 }, (r.list 33 stepS).2)
  | .B => ({ m with bytes := (r.text 1048576).1 }, (r.text 1048576).2)

set_option maxRecDepth 100000 in
theorem part_take (c : Wm.Fd) (bs : List Nat) (g gm base : Nat) (m : M) (L : Ls) (r : Pk.Rd) (w : World) (h : IsR w g r) (hlen : r.s.length ≤ 1000000000) (hp : PartAt w c bs) (hmm : IsM w gm m L) (hd : Dg m) (hol : OwnL w base m L) (hbg : g < base) (hbm : gm < base) (hbase : base ≤ w.heap.size) (n2 : gm ≠ g)
    (ho : POff (fun k => k = g ∨ k = gm) c bs) :
    Calls Tryz.prog (takeF c) (#[pt g, pt gm] ++ caps bs (takeI c)) w fun e w' => ∃ L', e = .returned (.tuple #[]) ∧ IsR w' g (takeM m r c).2 ∧ IsM w' gm (takeM m r c).1 L' ∧ OwnL w' base (takeM m r c).1 L' ∧ Chg (fun k => k = g ∨ k = gm) w w' := by
  cases c with
  | K =>
    exact (text_take 104 3 tells_key1 g gm (bs.getD 0 0) (bs.getD 1 0) 1024 r (mcells m L) w h (by unfold I64; omega) (hp 0 _ rfl) (hp 1 _ rfl) hmm (by rw [mc_len m L hd]; omega) (fun e => ho 0 (by decide) (.inl e)) (fun e => ho 1 (by decide) (.inl e)) n2 (fun e => ho 0 (by decide) (.inr e)) (fun e => ho 1 (by decide) (.inr e))).mono fun e w' ⟨h1, h2, h3, h4⟩ => ⟨L, h1, h2, IsM.of h3 (set_key m L _), (hol.chg h4 (fun b hb => by rcases hb with e | e <;> omega)).to rfl rfl rfl rfl, h4⟩
  | T =>
    exact (text_take 105 4 tells_to1 g gm (bs.getD 0 0) (bs.getD 1 0) 1024 r (mcells m L) w h (by unfold I64; omega) (hp 0 _ rfl) (hp 1 _ rfl) hmm (by rw [mc_len m L hd]; omega) (fun e => ho 0 (by decide) (.inl e)) (fun e => ho 1 (by decide) (.inl e)) n2 (fun e => ho 0 (by decide) (.inr e)) (fun e => ho 1 (by decide) (.inr e))).mono fun e w' ⟨h1, h2, h3, h4⟩ => ⟨L, h1, h2, IsM.of h3 (set_to m L _), (hol.chg h4 (fun b hb => by rcases hb with e | e <;> omega)).to rfl rfl rfl rfl, h4⟩
  | V =>
    exact (text_take 109 5 tells_val1 g gm (bs.getD 0 0) (bs.getD 1 0) 1024 r (mcells m L) w h (by unfold I64; omega) (hp 0 _ rfl) (hp 1 _ rfl) hmm (by rw [mc_len m L hd]; omega) (fun e => ho 0 (by decide) (.inl e)) (fun e => ho 1 (by decide) (.inl e)) n2 (fun e => ho 0 (by decide) (.inr e)) (fun e => ho 1 (by decide) (.inr e))).mono fun e w' ⟨h1, h2, h3, h4⟩ => ⟨L, h1, h2, IsM.of h3 (set_val m L _), (hol.chg h4 (fun b hb => by rcases hb with e | e <;> omega)).to rfl rfl rfl rfl, h4⟩
  | L =>
    exact (small_take 107 108 6 sets_limit g gm (bs.getD 1 0) (bs.getD 3 0) 256 r (mcells m L) w h (by omega) (hp 1 _ rfl) (hp 3 _ rfl) hmm (by rw [mc_len m L hd]; omega) (fun e => ho 1 (by decide) (.inl e)) (fun e => ho 3 (by decide) (.inl e)) n2 (fun e => ho 1 (by decide) (.inr e)) (fun e => ho 3 (by decide) (.inr e))).mono fun e w' ⟨h1, h2, h3, h4⟩ => ⟨L, h1, h2, IsM.of h3 (set_limit m L _), (hol.chg h4 (fun b hb => by rcases hb with e | e <;> omega)).to rfl rfl rfl rfl, h4⟩
  | F =>
    exact (free_take 102 7 tells_from1 g gm (bs.getD 0 0) r (mcells m L) w h (hp 0 _ rfl) hmm (by rw [mc_len m L hd]; omega) n2).mono fun e w' ⟨h1, h2, h3, h4⟩ => ⟨L, h1, h2, IsM.of h3 (set_frm m L _), (hol.chg h4 (fun b hb => by rcases hb with e | e <;> omega)).to rfl rfl rfl rfl, h4⟩
  | S =>
    exact (free_take 110 8 tells_size1 g gm (bs.getD 0 0) r (mcells m L) w h (hp 0 _ rfl) hmm (by rw [mc_len m L hd]; omega) n2).mono fun e w' ⟨h1, h2, h3, h4⟩ => ⟨L, h1, h2, IsM.of h3 (set_size m L _), (hol.chg h4 (fun b hb => by rcases hb with e | e <;> omega)).to rfl rfl rfl rfl, h4⟩
  | f =>
    exact (truth_take 150 9 tells_found1 g gm (bs.getD 0 0) r (mcells m L) w h (hp 0 _ rfl) hmm (by rw [mc_len m L hd]; omega) n2).mono fun e w' ⟨h1, h2, h3, h4⟩ => ⟨L, h1, h2, IsM.of h3 (set_found m L _), (hol.chg h4 (fun b hb => by rcases hb with e | e <;> omega)).to rfl rfl rfl rfl, h4⟩
  | m =>
    exact (truth_take 133 10 tells_told2 g gm (bs.getD 0 0) r (mcells m L) w h (hp 0 _ rfl) hmm (by rw [mc_len m L hd]; omega) n2).mono fun e w' ⟨h1, h2, h3, h4⟩ => ⟨L, h1, h2, IsM.of h3 (set_more m L _), (hol.chg h4 (fun b hb => by rcases hb with e | e <;> omega)).to rfl rfl rfl rfl, h4⟩
  | C =>
    exact (small_take 151 152 2 sets_code g gm (bs.getD 1 0) (bs.getD 3 0) 65535 r (mcells m L) w h (by omega) (hp 1 _ rfl) (hp 3 _ rfl) hmm (by rw [mc_len m L hd]; omega) (fun e => ho 1 (by decide) (.inl e)) (fun e => ho 3 (by decide) (.inl e)) n2 (fun e => ho 1 (by decide) (.inr e)) (fun e => ho 3 (by decide) (.inr e))).mono fun e w' ⟨h1, h2, h3, h4⟩ => ⟨L, h1, h2, IsM.of h3 (set_code m L _), (hol.chg h4 (fun b hb => by rcases hb with e | e <;> omega)).to rfl rfl rfl rfl, h4⟩
  | H =>
    exact (head_take g gm m L r w h hmm hd n2).mono fun e w' ⟨h1, h2, h3, h4⟩ => ⟨L, h1, h2, h3, (hol.chg h4 (fun b hb => by rcases hb with e | e <;> omega)).to rfl rfl rfl rfl, h4⟩
  | E =>
    exact (entry_take g gm m L r w h hmm hd n2).mono fun e w' ⟨h1, h2, h3, h4⟩ => ⟨L, h1, h2, h3, (hol.chg h4 (fun b hb => by rcases hb with e | e <;> omega)).to rfl rfl rfl rfl, h4⟩
  | t =>
    exact (list_take_dig 163 156 79 tells_trail1 (fun _ _ => by kernel_rfl) digS g gm (bs.getD 0 0) (bs.getD 1 0) (bs.getD 3 0) 64 r (mcells m L) w h (by unfold I64; omega) hlen (fun rd => dig_length _) (hp 0 _ rfl) (hp 1 _ rfl) (hp 3 _ rfl) hmm (by rw [mc_len m L hd]; omega) (fun e => ho 0 (by decide) (.inl e)) (fun e => ho 1 (by decide) (.inl e)) (fun e => ho 3 (by decide) (.inl e)) n2 (fun e => ho 0 (by decide) (.inr e)) (fun e => ho 1 (by decide) (.inr e)) (fun e => ho 3 (by decide) (.inr e)) (fun rd w' h' _ => takeDigest_calls g rd w' h')).mono fun e w' ⟨v, h1, h2, h3, h5, h4⟩ => by
      have ho := hol.chg h4 (fun b hb => by rcases hb with e | e <;> omega)
      rw [set_t m L hd] at h3
      exact ⟨{ L with t := v }, h1, h2, h3, ⟨own_low h5 hbase, ho.s, ho.p, ho.y⟩, h4⟩
  | s =>
    exact (list_take_dig 165 156 80 tells_since1 (fun _ _ => by kernel_rfl) digS g gm (bs.getD 0 0) (bs.getD 1 0) (bs.getD 3 0) 64 r (mcells m L) w h (by unfold I64; omega) hlen (fun rd => dig_length _) (hp 0 _ rfl) (hp 1 _ rfl) (hp 3 _ rfl) hmm (by rw [mc_len m L hd]; omega) (fun e => ho 0 (by decide) (.inl e)) (fun e => ho 1 (by decide) (.inl e)) (fun e => ho 3 (by decide) (.inl e)) n2 (fun e => ho 0 (by decide) (.inr e)) (fun e => ho 1 (by decide) (.inr e)) (fun e => ho 3 (by decide) (.inr e)) (fun rd w' h' _ => takeDigest_calls g rd w' h')).mono fun e w' ⟨v, h1, h2, h3, h5, h4⟩ => by
      have ho := hol.chg h4 (fun b hb => by rcases hb with e | e <;> omega)
      rw [set_s m L hd] at h3
      exact ⟨{ L with s := v }, h1, h2, h3, ⟨ho.t, own_low h5 hbase, ho.p, ho.y⟩, h4⟩
  | P =>
    exact (list_take_pair 128 130 81 tells_told1 (fun _ _ => by kernel_rfl) pairS g gm (bs.getD 0 0) (bs.getD 1 0) (bs.getD 3 0) 256 r (mcells m L) w h (by unfold I64; omega) hlen (hp 0 _ rfl) (hp 1 _ rfl) (hp 3 _ rfl) hmm (by rw [mc_len m L hd]; omega) (fun e => ho 0 (by decide) (.inl e)) (fun e => ho 1 (by decide) (.inl e)) (fun e => ho 3 (by decide) (.inl e)) n2 (fun e => ho 0 (by decide) (.inr e)) (fun e => ho 1 (by decide) (.inr e)) (fun e => ho 3 (by decide) (.inr e)) (fun rd w' h' _ => takePair_calls g rd w' h')).mono fun e w' ⟨v, h1, h2, h3, h5, h4⟩ => by
      have ho := hol.chg h4 (fun b hb => by rcases hb with e | e <;> omega)
      rw [set_p m L hd] at h3
      exact ⟨{ L with p := v }, h1, h2, h3, ⟨ho.t, ho.s, own_low h5 hbase, ho.y⟩, h4⟩
  | W =>
    exact (list_take_int 91 93 82 tells_parts1 (fun _ _ => by kernel_rfl) stepS g gm (bs.getD 0 0) (bs.getD 1 0) (bs.getD 3 0) 33 r (mcells m L) w h (by unfold I64; omega) hlen (hp 0 _ rfl) (hp 1 _ rfl) (hp 3 _ rfl) hmm (by rw [mc_len m L hd]; omega) (fun e => ho 0 (by decide) (.inl e)) (fun e => ho 1 (by decide) (.inl e)) (fun e => ho 3 (by decide) (.inl e)) n2 (fun e => ho 0 (by decide) (.inr e)) (fun e => ho 1 (by decide) (.inr e)) (fun e => ho 3 (by decide) (.inr e)) (fun rd w' h' _ => takeStep_calls g rd w' h')).mono fun e w' ⟨v, h1, h2, h3, h5, h4⟩ => by
      have ho := hol.chg h4 (fun b hb => by rcases hb with e | e <;> omega)
      rw [set_y m L hd] at h3
      exact ⟨{ L with y := v }, h1, h2, h3, ⟨ho.t, ho.s, ho.p, own_low h5 hbase⟩, h4⟩
  | B =>
    exact (text_take 179 83 tells_data1 g gm (bs.getD 0 0) (bs.getD 1 0) 1048576 r (mcells m L) w h (by unfold I64; omega) (hp 0 _ rfl) (hp 1 _ rfl) hmm (by rw [mc_len m L hd]; omega) (fun e => ho 0 (by decide) (.inl e)) (fun e => ho 1 (by decide) (.inl e)) n2 (fun e => ho 0 (by decide) (.inr e)) (fun e => ho 1 (by decide) (.inr e))).mono fun e w' ⟨h1, h2, h3, h4⟩ => ⟨L, h1, h2, IsM.of h3 (set_bytes m L hd _), (hol.chg h4 (fun b hb => by rcases hb with e | e <;> omega)).to rfl rfl rfl rfl, h4⟩
end Go.Proofs.YthkfcfkkamffpaaGreat
