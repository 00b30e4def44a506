/- The law's play: the walk. -/
import Derived.Test.YtifhkjcimhhaiaaTerXc
namespace Go.Proofs.Ytifhkjcimhhaiaa
open Go Go.RowKit
theorem tmod_twice {i : Int} {n : Nat} (hn : 0 < n) : (i.tmod n + n).tmod n = (rnd i n : Int) ∧ 0 ≤ i.tmod n + n := by
  obtain ⟨h1, h2, h3, h4⟩ := tmod_rnd (i := i) hn
  have h5 := rnd_lt (i := i) hn
  by_cases h : i.tmod n < 0
  · have := h1 h
    rw [this, Int.tmod_eq_emod_of_nonneg (by omega), Int.emod_eq_of_lt (by omega) (by omega)]
    exact ⟨rfl, by omega⟩
  · have e := h2 h
    rw [e, Int.tmod_eq_emod_of_nonneg (by omega), Int.add_emod_right, Int.emod_eq_of_lt (by omega) (by omega)]
    exact ⟨rfl, by omega⟩
theorem atO_get' {α : Type} {m : List (Option α)} {i : Int} (h : 0 < m.length) : m[rnd i m.length]? = some (atO m i) := by
  have h1 : m[rnd i m.length]? = some (m[rnd i m.length]'(rnd_lt h)) := List.getElem?_eq_getElem (rnd_lt h)
  unfold atO
  rw [h1]
  rfl
abbrev mdR (b : Nat) (y : Option Addr × Nat) (m : List (Option Tm)) : List Res := [blkR b 25 [.slice y.1 m.length y.2], ownR (.slice y.1 m.length y.2) 34 1 m.length (vcs tmV m)]
theorem at_any (b : Nat) (y : Option Addr × Nat) (m : List (Option Tm)) (i : Int) (hm : AllO m) (hml : m.length ≤ 1000000) (w : World) (hw : OK w (fpL (mdR b y m)) (mdR b y m) w) :
    Fn Try.prog 27 [.int .i64 i, .pointer (some ⟨b, 0, none⟩)] (mdR b y m) w (fun _ : Unit => True) (fun _ => tmV (atO m i)) (fun _ => mdR b y m) := by
  refine enterF Try.func27 rfl Try.ntmps27 rfl hw ?_
  refine WC.seq ?_
  refine WC.region ?_
  refine WL.to (To.alloc (cs := [.string (strOfNums [])]) zr34 rfl) rfl ?_
  intro b3
  refine WL.nil ?_
  refine WC.seq ?_
  refine WC.seq ?_
  refine WC.region ?_
  refine WL.y (Yl.load on25 rfl (by repeat (first | exact Take1.head | apply Take1.tail)) (by rfl)) rfl ?_
  refine WL.y (Yl.len un25 rfl) rfl ?_
  refine WL.y (Yl.assign rfl) rfl ?_
  refine WL.nil ?_
  refine WC.seq ?_
  refine WC.region ?_
  refine WL.y (Yl.move rfl) rfl ?_
  refine WL.y (Yl.gtr rfl rfl) rfl ?_
  refine WL.nil ?_
  refine WC.condD rfl (fun g8 => ?_) (fun g8 => ?_)
  · refine WC.seq ?_
    obtain ⟨q1, q2⟩ := tmod_twice (i := i) (n := m.length) (by omega)
    obtain ⟨_, _, q3, q4⟩ := tmod_rnd (i := i) (n := m.length) (by omega)
    have q5 := rnd_lt (i := i) (n := m.length) (by omega)
    have qg := atO_get' (m := m) (i := i) (by omega)
    refine WC.drawTail 10 mixed (by kernel_rfl) ?_
    refine WH.y (Yl.load on25 rfl (by repeat (first | exact Take1.head | apply Take1.tail)) (by rfl)) rfl ?_
    refine WH.y (Yl.move rfl) rfl ?_
    refine WH.y (Yl.move rfl) rfl ?_
    refine WH.y (Yl.rem rfl rfl (by omega) rfl) rfl ?_
    refine WH.y (Yl.move rfl) rfl ?_
    refine WH.y (Yl.add rfl rfl (IntWalk.i64_in _ (by omega))) rfl ?_
    refine WH.y (Yl.move rfl) rfl ?_
    refine WH.y (Yl.rem rfl rfl (by omega) q1) rfl ?_
    refine WH.y (Yl.index un25 sz34 rfl rfl (Reads.of (r := ownR (.slice y.1 m.length y.2) 34 1 m.length (vcs tmV m)) RdOf.own (by repeat (first | exact Take1.head | apply Take1.tail))) rfl (by omega)) rfl ?_
    refine WH.y (Yl.loadV vtM hm rfl (Reads.of (r := ownR (.slice y.1 m.length y.2) 34 1 m.length (vcs tmV m)) RdOf.own (by repeat (first | exact Take1.head | apply Take1.tail))) rfl qg) rfl ?_
    refine WH.nil ?_
    refine WP.sto (Sto.agg sz34 rfl rfl (by repeat (first | exact Take1.head | apply Take1.tail)) (tm_ones _) rfl (by rfl) (show _ = tmC (atO m i) from rfl)) (fun _ h => nomatch h) ?_
    refine WP.nil ?_
    refine WC.ret ?_
    repeat (first | (with_reducible refine peelT ?_) | (with_reducible refine peelB ?_) | (with_reducible refine peelTX ?_) | (with_reducible refine peelBX ?_) | (with_reducible refine peelBN ?_) | (with_reducible refine peelBO rfl ?_))
    exact retC1 (cs := tmC (atO m i)) (.inr rfl) Try.results27 ag34 rfl (by repeat (first | exact Take1.head | apply Take1.tail)) rfl fun w' h => ⟨(), trivial, rfl, h.sub (by repeat (first | exact TakeL.nil | (apply TakeL.cons; · repeat (first | exact Take1.head | apply Take1.tail))))⟩
  · refine WC.skip ?_
    refine WC.seq ?_
    refine WC.region ?_
    refine WL.y (Yl.build rfl (cs := [.string (strOfNums [])]) (fun _ => by kernel_rfl)) rfl ?_
    refine WL.sto (Sto.agg sz34 rfl rfl (by repeat (first | exact Take1.head | apply Take1.tail)) (tm_ones none) rfl (by rfl) (show _ = tmC none from rfl)) (fun _ h => nomatch h) ?_
    refine WL.nil ?_
    refine WC.ret ?_
    repeat (first | (with_reducible refine peelT ?_) | (with_reducible refine peelB ?_) | (with_reducible refine peelTX ?_) | (with_reducible refine peelBX ?_) | (with_reducible refine peelBN ?_) | (with_reducible refine peelBO rfl ?_))
    have e : atO m i = none := by
      have : m = [] := List.eq_nil_of_length_eq_zero (by omega)
      subst this
      rfl
    rw [e]
    exact retC1 (cs := tmC none) (.inr rfl) Try.results27 ag34 rfl (by repeat (first | exact Take1.head | apply Take1.tail)) rfl fun w' h => ⟨(), trivial, rfl, h.sub (by repeat (first | exact TakeL.nil | (apply TakeL.cons; · repeat (first | exact Take1.head | apply Take1.tail))))⟩
theorem allO_id {α β : Type} (f : α → Option β) (l : List α) : allO id (l.map f) = allO f l := by
  induction l with
  | nil => rfl
  | cons x l ih => rw [List.map_cons, allO_cs, allO_cs, ih]; rfl
theorem bT_hash {m : List (Option Tm)} {d : Dt} (h : d.k = 3) : bT m d = hashO (d.n % 256) (d.l.map (atO m)) := by
  unfold bT hashO
  rw [if_neg (by omega), if_neg (by omega), if_pos h, List.length_map, allO_id]
theorem bT_two {m : List (Option Tm)} {d : Dt} (h : d.k = 2 ∨ d.k = 4) : bT m d = mkO d.k (atO m d.a) (atO m d.b) := by
  unfold bT mkO
  rw [if_neg (by omega), if_pos h]
  rfl
theorem bT_pub {m : List (Option Tm)} {d : Dt} (h : d.k = 5) : bT m d = pubO (atO m d.a) := by
  unfold bT pubO
  rw [if_neg (by omega), if_neg (by omega), if_neg (by omega), if_pos h]
theorem bT_sh {m : List (Option Tm)} {d : Dt} (h : d.k = 6) : bT m d = shO (atO m d.a) (atO m d.b) := by
  unfold bT shO
  rw [if_neg (by omega), if_neg (by omega), if_neg (by omega), if_neg (by omega), if_pos h]
  rfl
theorem bT_no {m : List (Option Tm)} {d : Dt} (h1 : d.k ≠ 1) (h2 : d.k ≠ 2) (h3 : d.k ≠ 3) (h4 : d.k ≠ 4) (h5 : d.k ≠ 5) (h6 : d.k ≠ 6) : bT m d = none := by
  unfold bT
  rw [if_neg h1, if_neg (by omega), if_neg h3, if_neg h5, if_neg h6]
theorem playT_take {l : List Dt} {i : Nat} {d : Dt} (h : l[i]? = some d) : playT (l.take (i + 1)) = playT (l.take i) ++ [bT (playT (l.take i)) d] := by rw [← take_snoc _ _ _ h, playT_snoc]
theorem playT_pre (a b : List Dt) : ∃ r, playT (a ++ b) = playT a ++ r := by
  refine snoc_ind (p := fun b => ∃ r, playT (a ++ b) = playT a ++ r) ⟨[], by simp⟩ (fun b d ih => ?_) b
  obtain ⟨r, hr⟩ := ih
  rw [← List.append_assoc, playT_snoc]
  exact ⟨r ++ [bT (playT (a ++ b)) d], by rw [hr, List.append_assoc]⟩
theorem playT_len (l : List Dt) : (playT l).length = l.length := by
  refine snoc_ind (p := fun l => (playT l).length = l.length) rfl (fun l d ih => ?_) l
  rw [playT_snoc, List.length_append, List.length_append, ih]; rfl
/-- What was made may be, and isn't great. -/
def Lm (o : Option Tm) : Prop := OkO o ∧ (encO o).length ≤ 40000
theorem made_lm {l : List Dt} (hd : ∀ d ∈ l, d.ok) (hL : Light (playR l).1) : ∀ o ∈ playT l, Lm o := by
  intro o ho
  have hr := play_rel l hd
  rw [hr.t] at ho
  unfold tmO at ho
  obtain ⟨x, hx, rfl⟩ := List.mem_map.1 ho
  cases x with
  | none => exact ⟨(fun t h => nomatch h), by show ([] : List Int).length ≤ _; simp⟩
  | some j =>
    have hj := hr.m j hx
    have hm : (trs (playR l).1).getD j zT ∈ trs (playR l).1 := by
      have hj2 : j < (trs (playR l).1).length := by rw [trs_len]; exact hj
      simp [List.getD, List.getElem?_eq_getElem hj2]
    exact ⟨fun t h => by cases h; exact trs_tok hr.p hj, hL.enc hm⟩
theorem atO_lm {m : List (Option Tm)} (hm : ∀ o ∈ m, Lm o) (i : Int) : Lm (atO m i) := by
  cases h : atO m i with
  | none => exact ⟨(fun t h => nomatch h), by show ([] : List Int).length ≤ _; simp⟩
  | some t => exact hm _ (atO_mem h)
theorem flO_lm {l : List (Option Tm)} (h : ∀ o ∈ l, Lm o) : (flO l).length ≤ 40000 * l.length := by
  induction l with
  | nil => simp [flO]
  | cons o l ih =>
    have h1 := (h o (by simp)).2
    have h2 := ih fun x hx => h x (by simp [hx])
    have e : flO (o :: l) = encO o ++ flO l := by simp [flO]
    rw [e, List.length_append, List.length_cons]
    omega
theorem bT_lm {l : List Dt} {i : Nat} {d : Dt} (hm : ∀ o ∈ playT l, Lm o) (h : l[i]? = some d) : Lm (bT (playT (l.take i)) d) := by
  obtain ⟨r, hr⟩ := playT_pre (l.take (i + 1)) (l.drop (i + 1))
  rw [List.take_append_drop, playT_take h] at hr
  exact hm _ (by rw [hr]; simp)
theorem u8_of {n : Int} (h : 0 ≤ n) : IntKind.u8.wrap n = n % 256 := by
  simp [IntKind.wrap, IntKind.signed, IntKind.bits]
set_option maxRecDepth 100000 in
set_option maxHeartbeats 1600000 in
theorem lplay_any (l : List Dn) (v : Value) (hl : l.length ≤ 100) (hd : ∀ x ∈ l, x.d.ok) (hlight : Light (playR (dts l)).1) (hL : ∀ x ∈ l, x.d.l.length ≤ 100000000) (w : World) (hx : DnS w (fpL []) v l) (hw : OK w (fpL []) [] w) :
    Fn Try.prog 8 [v] [] w (fun _ : Option Addr × Nat => True) (fun y => .slice y.1 (playT (dts l)).length y.2) (fun y => [ownR (.slice y.1 (playT (dts l)).length y.2) 34 1 (playT (dts l)).length (vcs tmV (playT (dts l)))]) := by
  obtain ⟨al, cl, rfl, hcl, hml⟩ := hx.rows.rd.form
  have hdt : ∀ d ∈ dts l, d.ok := fun d hq => by obtain ⟨x, hx, rfl⟩ := List.mem_map.1 hq; exact hd x hx
  have hmade := made_lm hdt hlight
  refine enterF Try.func8 rfl Try.ntmps8 rfl hw ?_
  refine WC.seq ?_
  refine WC.region ?_
  refine WL.y (Yl.assign rfl) rfl ?_
  refine WL.nil ?_
  refine WC.seq ?_
  refine WC.region ?_
  refine WL.to (To.alloc (cs := [.slice none 0 0]) zr25 rfl) rfl ?_
  intro b3
  refine WL.nil ?_
  refine WC.seq ?_
  refine WC.region ?_
  refine WL.y (Yl.makeFunc (xs := []) (ys := [.tmp 3]) rfl rfl) rfl ?_
  refine WL.y (Yl.assign rfl) rfl ?_
  refine WL.nil ?_
  refine WC.seq ?_
  refine WC.seq ?_
  refine WC.region ?_
  refine WL.y (Yl.move rfl) rfl ?_
  refine WL.y (Yl.len un22 rfl) rfl ?_
  refine WL.y (Yl.move rfl) rfl ?_
  refine WL.nil ?_
  refine WC.block ?_
  refine WC.view (fun w h => (h.addNil 34 1)) ?_
  refine WC.loop (α := Nat × (Option Addr × Nat)) (fun s => [(3, .pointer (some ⟨b3, 0, none⟩)), (4, .func (.func 27) #[] #[.pointer (some ⟨b3, 0, none⟩)]), (12, .slice al l.length cl), (13, .int .i64 (l.length : Int)), (14, .int .i64 (s.1 : Int))]) (fun s => mdR b3 s.2 (playT ((dts l).take s.1))) (fun s => s.1 ≤ l.length) (fun s => l.length - s.1) (0, (none, 0)) (Nat.zero_le _) ⟨(by repeat (first | exact Sub.nil | refine Sub.cons rfl ?_)), _, (by repeat (first | exact TakeL.nil | (apply TakeL.cons; · repeat (first | exact Take1.head | apply Take1.tail))))⟩ ?_
  rintro ⟨i, y⟩ hi
  dsimp only [mdR] at hi ⊢
  obtain ⟨m, hm⟩ : ∃ m, playT ((dts l).take i) = m := ⟨_, rfl⟩
  have hmlen : m.length = i := by rw [← hm, playT_len, List.length_take, dts_len]; omega
  have hmL : ∀ o ∈ m, Lm o := by
    intro o ho
    obtain ⟨r, hr⟩ := playT_pre ((dts l).take i) ((dts l).drop i)
    rw [List.take_append_drop, hm] at hr
    exact hmade o (by rw [hr]; simp [ho])
  have hmO : AllO m := fun o ho => (hmL o ho).1
  rw [hm]
  refine WC.seq ?_
  refine WC.region ?_
  refine WL.y (Yl.lss rfl rfl) rfl ?_
  refine WL.nil ?_
  refine WC.seq ?_
  refine WC.condD rfl (fun g15 => ?_) (fun g15 => ?_)
  · refine WC.skip ?_
    refine WC.seq ?_
    refine WC.block ?_
    refine WC.seq ?_
    have hil : i < l.length := by have := g15; omega
    obtain ⟨x, hx0⟩ : ∃ x, l[i]? = some x := ⟨_, List.getElem?_eq_getElem hil⟩
    have hxm := List.mem_of_getElem? hx0
    have hnx := playT_take (dts_get hx0)
    have hbl := bT_lm hmade (dts_get hx0)
    rw [hm] at hnx hbl
    have hxd := hd x hxm
    have hxl := hL x hxm
    have hkn := hxd.n
    have hA := atO_lm hmL x.d.a
    have hB := atO_lm hmL x.d.b
    have hA2 := hA.2
    have hB2 := hB.2
    refine WC.region ?_
    refine WL.y (Yl.index un22 sz49 rfl rfl (Reads.s hx.rows) rfl (by omega)) rfl ?_
    refine WL.y (Yl.loadV vtDn dnAll rfl (Reads.s hx.rows) rfl hx0) rfl ?_
    refine WL.to (To.alloc (cs := [.int .u8 0, .int .u64 0, .int .i64 0, .int .i64 0, .slice none 0 0]) zr49 rfl) rfl ?_
    intro b6
    refine WL.sto (Sto.agg sz49 rfl rfl (by repeat (first | exact Take1.head | apply Take1.tail)) x.ones rfl (by rfl) (show _ = x.cells from rfl)) (fun _ h => nomatch h) ?_
    refine WL.nil ?_
    refine WC.seq ?_
    refine WC.region ?_
    refine WL.to (To.alloc (cs := [.string (strOfNums [])]) zr34 rfl) rfl ?_
    intro b7
    refine WL.nil ?_
    refine WC.midX (α := Unit) (fun _ => [(3, .pointer (some ⟨b3, 0, none⟩)), (4, .func (.func 27) #[] #[.pointer (some ⟨b3, 0, none⟩)]), (7, .pointer (some ⟨b7, 0, none⟩)), (12, .slice al l.length cl), (13, .int .i64 (l.length : Int)), (14, .int .i64 (i : Int))]) (fun _ => [blkR b7 34 (tmC (bT m x.d)), blkR b3 25 [.slice y.1 m.length y.2], ownR (.slice y.1 m.length y.2) 34 1 m.length (vcs tmV m)]) (fun _ => True) ?_ ?_
    · refine WC.seq ?_
      refine WC.region ?_
      refine WL.y (Yl.field fo49_0 rfl) rfl ?_
      refine WL.y (Yl.load on5 rfl (by repeat (first | exact Take1.head | apply Take1.tail)) (by rfl)) rfl ?_
      refine WL.nil ?_
      refine WC.block ?_
      refine WC.seq ?_
      refine WC.region ?_
      refine WL.y (Yl.eql rfl rfl) rfl ?_
      refine WL.y (Yl.assign rfl) rfl ?_
      refine WL.nil ?_
      refine WC.condD rfl (fun g20 => ?_) (fun g20 => ?_)
      · refine WC.region ?_
        refine WL.y (Yl.field fo49_1 rfl) rfl ?_
        refine WL.y (Yl.load on36 rfl (by repeat (first | exact Take1.head | apply Take1.tail)) (by rfl)) rfl ?_
        refine WL.callC (xs := [.tmp 23]) (cap := []) rfl rfl en14 (by repeat (first | exact TakeL.nil | (apply TakeL.cons; · repeat (first | exact Take1.head | apply Take1.tail)))) (fun w hw => atom_any x.d.n hkn w hw.left.here) rfl ?_
        rintro ⟨⟩ -
        refine WL.sto (Sto.agg sz34 rfl rfl (by repeat (first | exact Take1.head | apply Take1.tail)) (tm_ones _) rfl (by rfl) (show _ = tmC (some (atomT x.d.n)) from rfl)) (fun _ h => nomatch h) ?_
        refine WL.nil ?_
        have e : bT m x.d = some (atomT x.d.n) := by unfold bT; rw [if_pos g20]
        rw [e]
        exact ⟨rfl, (), trivial, (by repeat (first | exact Sub.nil | refine Sub.cons rfl ?_)), _, (by repeat (first | exact TakeL.nil | (apply TakeL.cons; · repeat (first | exact Take1.head | apply Take1.tail))))⟩
      · refine WC.seq ?_
        refine WC.region ?_
        refine WL.y (Yl.eql rfl rfl) rfl ?_
        refine WL.y (Yl.assign rfl) rfl ?_
        refine WL.nil ?_
        refine WC.condD rfl (fun g25 => ?_) (fun g25 => ?_)
        · refine WC.drawAny (Hs := [blkR b6 49 x.cells, blkR b3 25 [.slice y.1 m.length y.2], ownR (.slice y.1 m.length y.2) 34 1 m.length (vcs tmV m)]) mixed (by kernel_rfl) ⟨_, (by repeat (first | exact TakeL.nil | (apply TakeL.cons; · repeat (first | exact Take1.head | apply Take1.tail))))⟩ ?_
          refine WD.take 0 rfl (by kernel_rfl) (by kernel_rfl) (by kernel_rfl) rfl rfl (Yl.move rfl) rfl ?_
          refine WD.take 1 rfl (by kernel_rfl) (by kernel_rfl) (by kernel_rfl) rfl rfl (Yl.field fo49_2 rfl) rfl ?_
          refine WD.take 2 rfl (by kernel_rfl) (by kernel_rfl) (by kernel_rfl) rfl rfl (Yl.load on3 rfl (by repeat (first | exact Take1.head | apply Take1.tail)) (by rfl)) rfl ?_
          refine WD.take 4 rfl (by kernel_rfl) (by kernel_rfl) (by kernel_rfl) rfl rfl (Yl.move rfl) rfl ?_
          refine WD.take 5 rfl (by kernel_rfl) (by kernel_rfl) (by kernel_rfl) rfl rfl (Yl.field fo49_3 rfl) rfl ?_
          refine WD.take 6 rfl (by kernel_rfl) (by kernel_rfl) (by kernel_rfl) rfl rfl (Yl.load on3 rfl (by repeat (first | exact Take1.head | apply Take1.tail)) (by rfl)) rfl ?_
          refine WD.one 3 (by kernel_rfl) ?_
          refine WO.callC (f := .tmp 27) (xs := [.tmp 29]) (cap := [.pointer (some ⟨b3, 0, none⟩)]) rfl .no rfl rfl en27 (by repeat (first | exact TakeL.nil | (apply TakeL.cons; · repeat (first | exact Take1.head | apply Take1.tail)))) (fun w hw => at_any b3 y m x.d.a hmO (by omega) w hw.left.here) rfl (fun _ => ⟨_, (by repeat (first | exact TakeL.nil | (apply TakeL.cons; · repeat (first | exact Take1.head | apply Take1.tail))))⟩) ?_
          rintro ⟨⟩ -
          refine WD.one 7 (by kernel_rfl) ?_
          refine WO.callC (f := .tmp 31) (xs := [.tmp 33]) (cap := [.pointer (some ⟨b3, 0, none⟩)]) rfl .no rfl rfl en27 (by repeat (first | exact TakeL.nil | (apply TakeL.cons; · repeat (first | exact Take1.head | apply Take1.tail)))) (fun w hw => at_any b3 y m x.d.b hmO (by omega) w hw.left.here) rfl (fun _ => ⟨_, (by repeat (first | exact TakeL.nil | (apply TakeL.cons; · repeat (first | exact Take1.head | apply Take1.tail))))⟩) ?_
          rintro ⟨⟩ -
          refine WD.one 8 (by kernel_rfl) ?_
          refine WO.callC (xs := [.tmp 30, .tmp 34]) (cap := []) rfl .no rfl rfl en20 (by repeat (first | exact TakeL.nil | (apply TakeL.cons; · repeat (first | exact Take1.head | apply Take1.tail)))) (fun w hw => pair_any (atO m x.d.a) (atO m x.d.b) hA.1 hB.1 (by omega) w hw.left.here) rfl (fun _ => ⟨_, (by repeat (first | exact TakeL.nil | (apply TakeL.cons; · repeat (first | exact Take1.head | apply Take1.tail))))⟩) ?_
          rintro ⟨⟩ -
          refine WD.one 9 (by kernel_rfl) ?_
          refine WO.sto rfl rfl .no (Sto.agg sz34 rfl rfl (by repeat (first | exact Take1.head | apply Take1.tail)) (tm_ones _) rfl (by rfl) (show _ = tmC (mkO 2 (atO m x.d.a) (atO m x.d.b)) from rfl)) ⟨_, (by repeat (first | exact TakeL.nil | (apply TakeL.cons; · repeat (first | exact Take1.head | apply Take1.tail))))⟩ ?_
          refine WD.done (by kernel_rfl) ?_
          rw [bT_two (.inl g25), g25]
          exact ⟨rfl, (), trivial, (by repeat (first | exact Sub.nil | refine Sub.cons rfl ?_)), _, (by repeat (first | exact TakeL.nil | (apply TakeL.cons; · repeat (first | exact Take1.head | apply Take1.tail))))⟩
        · refine WC.seq ?_
          refine WC.region ?_
          refine WL.y (Yl.eql rfl rfl) rfl ?_
          refine WL.y (Yl.assign rfl) rfl ?_
          refine WL.nil ?_
          refine WC.condD rfl (fun g36 => ?_) (fun g36 => ?_)
          · refine WC.seq ?_
            refine WC.region ?_
            refine WL.y (Yl.assign rfl) rfl ?_
            refine WL.nil ?_
            refine WC.seq ?_
            refine WC.seq ?_
            refine WC.region ?_
            refine WL.y (Yl.field fo49_4 rfl) rfl ?_
            refine WL.y (Yl.load on29 rfl (by repeat (first | exact Take1.head | apply Take1.tail)) (by rfl)) rfl ?_
            refine WL.y (Yl.len un29 rfl) rfl ?_
            refine WL.y (Yl.move rfl) rfl ?_
            refine WL.nil ?_
            refine WC.block ?_
            have h3 : x.d.k = 3 := g36
            refine WC.view (fun w h => (h.addNil 34 1)) ?_
            refine WC.loop (α := Nat × (Option Addr × Nat)) (fun s => [(3, .pointer (some ⟨b3, 0, none⟩)), (4, .func (.func 27) #[] #[.pointer (some ⟨b3, 0, none⟩)]), (6, .pointer (some ⟨b6, 0, none⟩)), (7, .pointer (some ⟨b7, 0, none⟩)), (8, .slice s.2.1 s.1 s.2.2), (12, .slice al l.length cl), (13, .int .i64 (l.length : Int)), (14, .int .i64 (i : Int)), (39, dnS x), (40, .int .i64 (x.d.l.length : Int)), (41, .int .i64 (s.1 : Int))]) (fun s => [blkR b6 49 x.cells, blkR b7 34 [.string (strOfNums [])], blkR b3 25 [.slice y.1 m.length y.2], ownR (.slice y.1 m.length y.2) 34 1 m.length (vcs tmV m), ownR (.slice s.2.1 s.1 s.2.2) 34 1 s.1 (vcs tmV ((x.d.l.take s.1).map (atO m)))]) (fun s => s.1 ≤ x.d.l.length) (fun s => x.d.l.length - s.1) (0, (none, 0)) (Nat.zero_le _) ⟨(by repeat (first | exact Sub.nil | refine Sub.cons rfl ?_)), _, (by repeat (first | exact TakeL.nil | (apply TakeL.cons; · repeat (first | exact Take1.head | apply Take1.tail))))⟩ ?_
            rintro ⟨j, z⟩ hj
            dsimp only at hj ⊢
            refine WC.seq ?_
            refine WC.region ?_
            refine WL.y (Yl.lss rfl rfl) rfl ?_
            refine WL.nil ?_
            refine WC.seq ?_
            refine WC.condD rfl (fun g42 => ?_) (fun g42 => ?_)
            · refine WC.skip ?_
              refine WC.seq ?_
              refine WC.block ?_
              refine WC.seq ?_
              have hjl : j < x.d.l.length := by have := g42; omega
              obtain ⟨e, he⟩ : ∃ y, x.d.l[j]? = some y := ⟨_, List.getElem?_eq_getElem hjl⟩
              refine WC.region ?_
              refine WL.y (Yl.index un29 sz3 rfl rfl (Reads.s (hx.ls x hxm)) rfl (by omega)) rfl ?_
              refine WL.y (Yl.loadE (j := j) (u := .int .i64 e) on3 rfl (Reads.s (hx.ls x hxm)) (by simp [ints, he])) rfl ?_
              refine WL.y (Yl.assign rfl) rfl ?_
              refine WL.nil ?_
              refine WC.region ?_
              refine WL.y (Yl.move rfl) rfl ?_
              refine WL.y (Yl.move rfl) rfl ?_
              refine WL.y (Yl.move rfl) rfl ?_
              refine WL.callC (f := .tmp 46) (xs := [.tmp 47]) (cap := [.pointer (some ⟨b3, 0, none⟩)]) rfl rfl en27 (by repeat (first | exact TakeL.nil | (apply TakeL.cons; · repeat (first | exact Take1.head | apply Take1.tail)))) (fun w hw => at_any b3 y m e hmO (by omega) w hw.left.here) rfl ?_
              rintro ⟨⟩ -
              refine WL.to (To.buildSlice (vs := [tmV (atO m e)]) un25 zs34 rfl rfl (by simp [Value.cells, tmV, tmC]) (by decide) (by decide)) rfl ?_
              intro b49
              rw [show flat [tmV (atO m e)] = vcs tmV [atO m e] from rfl]
              refine WL.to (To.append sl25 rfl rfl (by repeat (first | exact Take1.head | apply Take1.tail)) (Reads.of (RdOf.blk (size := 1) (n := 1) (cs := vcs tmV [atO m e]) (cs' := vcs tmV [atO m e]) (Nat.le_refl _) (by unfold maxLen; omega) (by simp [vcs, tmV, tmC, flat, Value.cells]) rfl) (by repeat (first | exact Take1.head | apply Take1.tail))) (vtM.ones _) rfl (show vcs tmV ((x.d.l.take j).map (atO m)) ++ vcs tmV [atO m e] = vcs tmV ((x.d.l.take (j + 1)).map (atO m)) by rw [← take_snoc _ _ _ he, List.map_append, vcs_app]; rfl) (by unfold maxLen; omega) (by omega)) rfl ?_
              rintro ⟨⟨ao50, c50⟩, hc50⟩
              dsimp only at hc50 ⊢
              refine WL.y (Yl.assign rfl) rfl ?_
              refine WL.nil ?_
              refine WC.region ?_
              refine WL.y (Yl.add rfl rfl (IntWalk.i64_in _ (by omega))) rfl ?_
              refine WL.y (Yl.move rfl) rfl ?_
              refine WL.nil ?_
              exact ⟨rfl, (j + 1, (ao50, c50)), by dsimp only; omega, by dsimp only; omega, (by repeat (first | exact Sub.nil | refine Sub.cons rfl ?_)), _, (by repeat (first | exact TakeL.nil | (apply TakeL.cons; · repeat (first | exact Take1.head | apply Take1.tail))))⟩
            · refine WC.exit ?_
              have hjl : j = x.d.l.length := by have := g42; omega
              subst hjl
              rw [List.take_length]
              have hln : x.d.l.length = (x.d.l.map (atO m)).length := (List.length_map _).symm
              have hlm : ∀ o ∈ x.d.l.map (atO m), Lm o := fun o ho => by obtain ⟨q, _, rfl⟩ := List.mem_map.1 ho; exact atO_lm hmL q
              have hfl := flO_lm hlm
              refine WC.region ?_
              refine WL.y (Yl.field fo49_1 rfl) rfl ?_
              refine WL.y (Yl.load on36 rfl (by repeat (first | exact Take1.head | apply Take1.tail)) (by rfl)) rfl ?_
              refine WL.y (Yl.conv un36 un5 rfl (u8_of hkn.1)) rfl ?_
              refine WL.y (Yl.move rfl) rfl ?_
              refine WL.callC (xs := [.tmp 54, .tmp 55]) (cap := []) rfl rfl en16 (by repeat (first | exact TakeL.nil | (apply TakeL.cons; · repeat (first | exact Take1.head | apply Take1.tail)))) (fun w hw => hash_any (x.d.n % 256) (by omega) _ (x.d.l.map (atO m)) (fun o ho => (hlm o ho).1) (fun h => by omega) w (by rw [← hln]; exact hw.src (A := []) (r := ownR (.slice z.1 x.d.l.length z.2) 34 1 x.d.l.length (vcs tmV (x.d.l.map (atO m)))) RdOf.own (by repeat (first | exact Take1.head | apply Take1.tail))) hw.left.here) rfl ?_
              rintro ⟨⟩ -
              refine WL.sto (Sto.agg sz34 rfl rfl (by repeat (first | exact Take1.head | apply Take1.tail)) (tm_ones _) rfl (by rfl) (show _ = tmC (hashO (x.d.n % 256) (x.d.l.map (atO m))) from rfl)) (fun _ h => nomatch h) ?_
              refine WL.nil ?_
              rw [bT_hash h3]
              exact ⟨rfl, (), trivial, (by repeat (first | exact Sub.nil | refine Sub.cons rfl ?_)), _, (by repeat (first | exact TakeL.nil | (apply TakeL.cons; · repeat (first | exact Take1.head | apply Take1.tail))))⟩
          · refine WC.seq ?_
            refine WC.region ?_
            refine WL.y (Yl.eql rfl rfl) rfl ?_
            refine WL.y (Yl.assign rfl) rfl ?_
            refine WL.nil ?_
            refine WC.condD rfl (fun g57 => ?_) (fun g57 => ?_)
            · refine WC.drawAny (Hs := [blkR b6 49 x.cells, blkR b3 25 [.slice y.1 m.length y.2], ownR (.slice y.1 m.length y.2) 34 1 m.length (vcs tmV m)]) mixed (by kernel_rfl) ⟨_, (by repeat (first | exact TakeL.nil | (apply TakeL.cons; · repeat (first | exact Take1.head | apply Take1.tail))))⟩ ?_
              refine WD.take 0 rfl (by kernel_rfl) (by kernel_rfl) (by kernel_rfl) rfl rfl (Yl.move rfl) rfl ?_
              refine WD.take 1 rfl (by kernel_rfl) (by kernel_rfl) (by kernel_rfl) rfl rfl (Yl.field fo49_2 rfl) rfl ?_
              refine WD.take 2 rfl (by kernel_rfl) (by kernel_rfl) (by kernel_rfl) rfl rfl (Yl.load on3 rfl (by repeat (first | exact Take1.head | apply Take1.tail)) (by rfl)) rfl ?_
              refine WD.take 4 rfl (by kernel_rfl) (by kernel_rfl) (by kernel_rfl) rfl rfl (Yl.move rfl) rfl ?_
              refine WD.take 5 rfl (by kernel_rfl) (by kernel_rfl) (by kernel_rfl) rfl rfl (Yl.field fo49_3 rfl) rfl ?_
              refine WD.take 6 rfl (by kernel_rfl) (by kernel_rfl) (by kernel_rfl) rfl rfl (Yl.load on3 rfl (by repeat (first | exact Take1.head | apply Take1.tail)) (by rfl)) rfl ?_
              refine WD.one 3 (by kernel_rfl) ?_
              refine WO.callC (f := .tmp 59) (xs := [.tmp 61]) (cap := [.pointer (some ⟨b3, 0, none⟩)]) rfl .no rfl rfl en27 (by repeat (first | exact TakeL.nil | (apply TakeL.cons; · repeat (first | exact Take1.head | apply Take1.tail)))) (fun w hw => at_any b3 y m x.d.a hmO (by omega) w hw.left.here) rfl (fun _ => ⟨_, (by repeat (first | exact TakeL.nil | (apply TakeL.cons; · repeat (first | exact Take1.head | apply Take1.tail))))⟩) ?_
              rintro ⟨⟩ -
              refine WD.one 7 (by kernel_rfl) ?_
              refine WO.callC (f := .tmp 63) (xs := [.tmp 65]) (cap := [.pointer (some ⟨b3, 0, none⟩)]) rfl .no rfl rfl en27 (by repeat (first | exact TakeL.nil | (apply TakeL.cons; · repeat (first | exact Take1.head | apply Take1.tail)))) (fun w hw => at_any b3 y m x.d.b hmO (by omega) w hw.left.here) rfl (fun _ => ⟨_, (by repeat (first | exact TakeL.nil | (apply TakeL.cons; · repeat (first | exact Take1.head | apply Take1.tail))))⟩) ?_
              rintro ⟨⟩ -
              refine WD.one 8 (by kernel_rfl) ?_
              refine WO.callC (xs := [.tmp 62, .tmp 66]) (cap := []) rfl .no rfl rfl en15 (by repeat (first | exact TakeL.nil | (apply TakeL.cons; · repeat (first | exact Take1.head | apply Take1.tail)))) (fun w hw => sealed_any (atO m x.d.a) (atO m x.d.b) hA.1 hB.1 (by omega) w hw.left.here) rfl (fun _ => ⟨_, (by repeat (first | exact TakeL.nil | (apply TakeL.cons; · repeat (first | exact Take1.head | apply Take1.tail))))⟩) ?_
              rintro ⟨⟩ -
              refine WD.one 9 (by kernel_rfl) ?_
              refine WO.sto rfl rfl .no (Sto.agg sz34 rfl rfl (by repeat (first | exact Take1.head | apply Take1.tail)) (tm_ones _) rfl (by rfl) (show _ = tmC (mkO 4 (atO m x.d.a) (atO m x.d.b)) from rfl)) ⟨_, (by repeat (first | exact TakeL.nil | (apply TakeL.cons; · repeat (first | exact Take1.head | apply Take1.tail))))⟩ ?_
              refine WD.done (by kernel_rfl) ?_
              rw [bT_two (.inr g57), g57]
              exact ⟨rfl, (), trivial, (by repeat (first | exact Sub.nil | refine Sub.cons rfl ?_)), _, (by repeat (first | exact TakeL.nil | (apply TakeL.cons; · repeat (first | exact Take1.head | apply Take1.tail))))⟩
            · refine WC.seq ?_
              refine WC.region ?_
              refine WL.y (Yl.eql rfl rfl) rfl ?_
              refine WL.y (Yl.assign rfl) rfl ?_
              refine WL.nil ?_
              refine WC.condD rfl (fun g68 => ?_) (fun g68 => ?_)
              · refine WC.region ?_
                refine WL.y (Yl.move rfl) rfl ?_
                refine WL.y (Yl.field fo49_2 rfl) rfl ?_
                refine WL.y (Yl.load on3 rfl (by repeat (first | exact Take1.head | apply Take1.tail)) (by rfl)) rfl ?_
                refine WL.callC (f := .tmp 70) (xs := [.tmp 72]) (cap := [.pointer (some ⟨b3, 0, none⟩)]) rfl rfl en27 (by repeat (first | exact TakeL.nil | (apply TakeL.cons; · repeat (first | exact Take1.head | apply Take1.tail)))) (fun w hw => at_any b3 y m x.d.a hmO (by omega) w hw.left.here) rfl ?_
                rintro ⟨⟩ -
                refine WL.callC (xs := [.tmp 73]) (cap := []) rfl rfl en17 (by repeat (first | exact TakeL.nil | (apply TakeL.cons; · repeat (first | exact Take1.head | apply Take1.tail)))) (fun w hw => public_any (atO m x.d.a) hA.1 (by omega) w hw.left.here) rfl ?_
                rintro ⟨⟩ -
                refine WL.sto (Sto.agg sz34 rfl rfl (by repeat (first | exact Take1.head | apply Take1.tail)) (tm_ones _) rfl (by rfl) (show _ = tmC (pubO (atO m x.d.a)) from rfl)) (fun _ h => nomatch h) ?_
                refine WL.nil ?_
                rw [bT_pub g68]
                exact ⟨rfl, (), trivial, (by repeat (first | exact Sub.nil | refine Sub.cons rfl ?_)), _, (by repeat (first | exact TakeL.nil | (apply TakeL.cons; · repeat (first | exact Take1.head | apply Take1.tail))))⟩
              · refine WC.seq ?_
                refine WC.region ?_
                refine WL.y (Yl.eql rfl rfl) rfl ?_
                refine WL.y (Yl.assign rfl) rfl ?_
                refine WL.nil ?_
                refine WC.condD rfl (fun g75 => ?_) (fun g75 => ?_)
                · refine WC.drawAny (Hs := [blkR b6 49 x.cells, blkR b3 25 [.slice y.1 m.length y.2], ownR (.slice y.1 m.length y.2) 34 1 m.length (vcs tmV m)]) mixed (by kernel_rfl) ⟨_, (by repeat (first | exact TakeL.nil | (apply TakeL.cons; · repeat (first | exact Take1.head | apply Take1.tail))))⟩ ?_
                  refine WD.take 0 rfl (by kernel_rfl) (by kernel_rfl) (by kernel_rfl) rfl rfl (Yl.move rfl) rfl ?_
                  refine WD.take 1 rfl (by kernel_rfl) (by kernel_rfl) (by kernel_rfl) rfl rfl (Yl.field fo49_2 rfl) rfl ?_
                  refine WD.take 2 rfl (by kernel_rfl) (by kernel_rfl) (by kernel_rfl) rfl rfl (Yl.load on3 rfl (by repeat (first | exact Take1.head | apply Take1.tail)) (by rfl)) rfl ?_
                  refine WD.take 4 rfl (by kernel_rfl) (by kernel_rfl) (by kernel_rfl) rfl rfl (Yl.move rfl) rfl ?_
                  refine WD.take 5 rfl (by kernel_rfl) (by kernel_rfl) (by kernel_rfl) rfl rfl (Yl.field fo49_3 rfl) rfl ?_
                  refine WD.take 6 rfl (by kernel_rfl) (by kernel_rfl) (by kernel_rfl) rfl rfl (Yl.load on3 rfl (by repeat (first | exact Take1.head | apply Take1.tail)) (by rfl)) rfl ?_
                  refine WD.one 3 (by kernel_rfl) ?_
                  refine WO.callC (f := .tmp 78) (xs := [.tmp 80]) (cap := [.pointer (some ⟨b3, 0, none⟩)]) rfl .no rfl rfl en27 (by repeat (first | exact TakeL.nil | (apply TakeL.cons; · repeat (first | exact Take1.head | apply Take1.tail)))) (fun w hw => at_any b3 y m x.d.a hmO (by omega) w hw.left.here) rfl (fun _ => ⟨_, (by repeat (first | exact TakeL.nil | (apply TakeL.cons; · repeat (first | exact Take1.head | apply Take1.tail))))⟩) ?_
                  rintro ⟨⟩ -
                  refine WD.one 7 (by kernel_rfl) ?_
                  refine WO.callC (f := .tmp 82) (xs := [.tmp 84]) (cap := [.pointer (some ⟨b3, 0, none⟩)]) rfl .no rfl rfl en27 (by repeat (first | exact TakeL.nil | (apply TakeL.cons; · repeat (first | exact Take1.head | apply Take1.tail)))) (fun w hw => at_any b3 y m x.d.b hmO (by omega) w hw.left.here) rfl (fun _ => ⟨_, (by repeat (first | exact TakeL.nil | (apply TakeL.cons; · repeat (first | exact Take1.head | apply Take1.tail))))⟩) ?_
                  rintro ⟨⟩ -
                  refine WD.one 8 (by kernel_rfl) ?_
                  refine WO.callC (xs := [.tmp 81, .tmp 85]) (cap := []) rfl .no rfl rfl en19 (by repeat (first | exact TakeL.nil | (apply TakeL.cons; · repeat (first | exact Take1.head | apply Take1.tail)))) (fun w hw => shared_any (atO m x.d.a) (atO m x.d.b) hA.1 hB.1 (by omega) w hw.left.here) rfl (fun _ => ⟨_, (by repeat (first | exact TakeL.nil | (apply TakeL.cons; · repeat (first | exact Take1.head | apply Take1.tail))))⟩) ?_
                  rintro ⟨⟩ -
                  refine WD.take 9 rfl (by kernel_rfl) (by kernel_rfl) (by kernel_rfl) rfl rfl (Yl.move rfl) rfl ?_
                  refine WD.take 10 rfl (by kernel_rfl) (by kernel_rfl) (by kernel_rfl) rfl rfl (Yl.extract rfl rfl) rfl ?_
                  refine WD.take 11 rfl (by kernel_rfl) (by kernel_rfl) (by kernel_rfl) rfl rfl (Yl.extract rfl rfl) rfl ?_
                  refine WD.one 12 (by kernel_rfl) ?_
                  refine WO.sto rfl rfl .no (Sto.agg sz34 rfl rfl (by repeat (first | exact Take1.head | apply Take1.tail)) (tm_ones _) rfl (by rfl) (show _ = tmC (shO (atO m x.d.a) (atO m x.d.b)) from rfl)) ⟨_, (by repeat (first | exact TakeL.nil | (apply TakeL.cons; · repeat (first | exact Take1.head | apply Take1.tail))))⟩ ?_
                  refine WD.done (by kernel_rfl) ?_
                  rw [bT_sh g75]
                  exact ⟨rfl, (), trivial, (by repeat (first | exact Sub.nil | refine Sub.cons rfl ?_)), _, (by repeat (first | exact TakeL.nil | (apply TakeL.cons; · repeat (first | exact Take1.head | apply Take1.tail))))⟩
                · refine WC.skip ?_
                  rw [bT_no g20 g25 g36 g57 g68 g75]
                  exact ⟨rfl, (), trivial, (by repeat (first | exact Sub.nil | refine Sub.cons rfl ?_)), _, (by repeat (first | exact TakeL.nil | (apply TakeL.cons; · repeat (first | exact Take1.head | apply Take1.tail))))⟩
    · rintro ⟨⟩ -
      refine WC.region ?_
      refine WL.y (Yl.load on25 rfl (by repeat (first | exact Take1.head | apply Take1.tail)) (by rfl)) rfl ?_
      refine WL.y (Yl.loadN ag34 rfl (by repeat (first | exact Take1.head | apply Take1.tail)) (by rfl) (show _ = tmC (bT m x.d) from rfl)) rfl ?_
      refine WL.to (To.buildSlice (vs := [tmV (bT m x.d)]) un25 zs34 rfl rfl (by simp [Value.cells, tmV, tmC]) (by decide) (by decide)) rfl ?_
      intro b91
      rw [show flat [tmV (bT m x.d)] = vcs tmV [bT m x.d] from rfl]
      refine WL.to (To.append sl25 rfl rfl (by repeat (first | exact Take1.head | apply Take1.tail)) (Reads.of (RdOf.blk (size := 1) (n := 1) (cs := vcs tmV [bT m x.d]) (cs' := vcs tmV [bT m x.d]) (Nat.le_refl _) (by unfold maxLen; omega) (by simp [vcs, tmV, tmC, flat, Value.cells]) rfl) (by repeat (first | exact Take1.head | apply Take1.tail))) (vtM.ones _) (show m.length + 1 = (m ++ [bT m x.d]).length by simp) (show vcs tmV m ++ vcs tmV [bT m x.d] = vcs tmV (m ++ [bT m x.d]) by rw [vcs_app]) (by simp; unfold maxLen; omega) (by simp; omega)) rfl ?_
      rintro ⟨⟨ao92, c92⟩, hc92⟩
      dsimp only at hc92 ⊢
      refine WL.sto (Sto.one sz25 rfl rfl (by repeat (first | exact Take1.head | apply Take1.tail)) rfl (by rfl) (by rfl)) (fun _ h => nomatch h) ?_
      refine WL.nil ?_
      refine WC.region ?_
      refine WL.y (Yl.add rfl rfl (IntWalk.i64_in _ (by omega))) rfl ?_
      refine WL.y (Yl.move rfl) rfl ?_
      refine WL.nil ?_
      refine ⟨rfl, (i + 1, (ao92, c92)), by dsimp only; omega, by dsimp only; omega, (by repeat (first | exact Sub.nil | refine Sub.cons rfl ?_)), ?_⟩
      dsimp only [mdR]
      rw [hnx]
      exact ⟨_, (by repeat (first | exact TakeL.nil | (apply TakeL.cons; · repeat (first | exact Take1.head | apply Take1.tail))))⟩
  · refine WC.exit ?_
    refine WC.seq ?_
    refine WC.region ?_
    refine WL.y (Yl.load on25 rfl (by repeat (first | exact Take1.head | apply Take1.tail)) (by rfl)) rfl ?_
    refine WL.y (Yl.assign rfl) rfl ?_
    refine WL.nil ?_
    refine WC.ret ?_
    repeat (first | (with_reducible refine peelT ?_) | (with_reducible refine peelB ?_) | (with_reducible refine peelTX ?_) | (with_reducible refine peelBX ?_) | (with_reducible refine peelBN ?_) | (with_reducible refine peelBO rfl ?_))
    have hil : i = l.length := by have := g15; omega
    have hmm : playT (dts l) = m := by rw [← hm, hil, ← dts_len, List.take_length]
    rw [hmm]
    exact ret1 (.inr rfl) Try.results8 rfl fun w' h => ⟨y, trivial, rfl, h.sub (by repeat (first | exact TakeL.nil | (apply TakeL.cons; · repeat (first | exact Take1.head | apply Take1.tail))))⟩
end Go.Proofs.Ytifhkjcimhhaiaa
