/- Books: their digests, what is offered, what is accepted: the walks. -/
import Derived.Test.YtmcdbjbkkejbbaaGreatMerD
namespace Go.Proofs.YtmcdbjbkkejbbaaGreat
open Go Go.RowKit
def bdF (l : List Rc) (n : Nat) : List Int := digF (buF l (n : Int))
theorem bdF_len (l : List Rc) (n : Nat) : (bdF l n).length = 8 := digF_len _
def digsN (l : List Rc) (k : Nat) : List Int := ((List.range k).map (bdF l)).flatten
theorem digsN_len (l : List Rc) : ∀ k, (digsN l k).length = 8 * k
  | 0 => rfl
  | k + 1 => by
    have := digsN_len l k
    unfold digsN at this ⊢
    rw [List.range_succ, List.map_append, List.flatten_append, List.length_append, this]
    simp [bdF_len]
    omega
def digsK (l : List Rc) (k : Nat) : List Int := digsN l k ++ List.replicate (8 * (16 - k)) 0
theorem digsK_len (l : List Rc) {k : Nat} (h : k ≤ 16) : (digsK l k).length = 128 := by
  unfold digsK
  rw [List.length_append, digsN_len, List.length_replicate]
  omega
theorem digsK_next (l : List Rc) {k : Nat} (h : k < 16) : (digsK l k).take (8 * k) ++ bdF l k ++ (digsK l k).drop (8 * k + 8) = digsK l (k + 1) := by
  have h1 := digsN_len l k
  unfold digsK
  rw [List.take_left' h1, List.drop_append, h1, List.drop_of_length_le (by omega), List.nil_append, List.drop_replicate]
  have e : digsN l (k + 1) = digsN l k ++ bdF l k := by
    unfold digsN
    rw [List.range_succ, List.map_append, List.flatten_append]
    simp
  rw [e]
  congr 2
  omega
def digsF (l : List Rc) : List Int := digsN l 16
theorem digsF_is (l : List Rc) : digsK l 16 = digsF l := by unfold digsK digsF; simp
theorem digsF_len (l : List Rc) : (digsF l).length = 128 := digsN_len l 16
theorem digsF_at (l : List Rc) {n : Nat} (h : n < 16) : ((digsF l).drop (8 * n)).take 8 = bdF l n := by
  have : ∀ (k : Nat), n < k → ((digsN l k).drop (8 * n)).take 8 = bdF l n := by
    intro k
    induction k with
    | zero => intro h; omega
    | succ k ih =>
      intro h
      have hl := digsN_len l k
      have e : digsN l (k + 1) = digsN l k ++ bdF l k := by
        unfold digsN
        rw [List.range_succ, List.map_append, List.flatten_append]
        simp
      rw [e]
      by_cases hk : n = k
      · subst hk
        rw [List.drop_left' hl, List.take_of_length_le (by rw [bdF_len]; omega)]
      · rw [List.drop_append_of_le_length (by omega), List.take_append_of_le_length (by rw [List.length_drop]; omega)]
        exact ih (by omega)
  exact this 16 h
set_option maxRecDepth 100000 in
theorem digests_any (b : Nat) (ao : Option Addr) (ca : Nat) (l : List Rc) (hB : ∀ x ∈ l, Go.Proofs.YtmcdbjbkkejbbaaGreat.Bk x) (hl : l.length ≤ 2000) (w : World) (hw : OK w (fpL ((bkR b ao ca l).map roR)) ((bkR b ao ca l).map roR) w) :
    Fn Tryz.prog 13 [.pointer (some ⟨b, 0, none⟩)] ((bkR b ao ca l).map roR) w (fun _ : Unit => True) (fun _ => .agg (ints .u8 (digsF l)).toArray) (fun _ => []) := by
  unfold bkR at hw ⊢
  try dsimp only [List.map_cons, List.map_nil] at hw ⊢
  refine enterF Tryz.func13 rfl Tryz.ntmps13 rfl hw ?_
  refine WC.seq ?_
  refine WC.region ?_
  refine WL.to (To.alloc (cs := ints .u8 (List.replicate 128 0)) zr42 rfl) rfl ?_ -- t2
  intro b2
  refine WL.nil ?_
  refine WC.seq ?_
  refine WC.region ?_
  refine WL.to (To.alloc (cs := ints .u8 (digsK l 0)) zr42 rfl) rfl ?_ -- t3
  intro b3
  refine WL.nil ?_
  refine WC.seq ?_
  refine WC.seq ?_
  refine WC.region ?_
  refine WL.y (Yl.move rfl) rfl ?_ -- t5
  refine WL.nil ?_
  refine WC.block ?_
  refine WC.loop (α := Nat) (fun k => [(0, .pointer (some ⟨b, 0, none⟩)), (2, .pointer (some ⟨b2, 0, none⟩)), (3, .pointer (some ⟨b3, 0, none⟩)), (5, .int .i64 (k : Int))]) (fun k => [blkR b2 42 (ints .u8 (List.replicate 128 0)), blkR b3 42 (ints .u8 (digsK l k)), roR (blkR b 64 [.slice ao l.length ca]), roR (ownR (.slice ao l.length ca) 33 22 l.length (vcs rcV l))]) (fun k => k ≤ 16) (fun k => 16 - k) 0 (Nat.zero_le _) ⟨(by repeat (first | exact Sub.nil | refine Sub.cons rfl ?_)), _, (by repeat (first | exact TakeL.nil | (apply TakeL.cons; · repeat (first | exact Take1.head | apply Take1.tail))))⟩ ?_
  intro k hk
  have hkl : (ints .u8 (digsK l k)).length = 128 := by rw [ints_length, digsK_len l hk]
  have hbl : (ints .u8 (bdF l k)).length = 8 := by rw [ints_length, bdF_len]
  refine WC.seq ?_
  refine WC.region ?_
  refine WL.y (Yl.lss rfl rfl) rfl ?_ -- t6
  refine WL.nil ?_
  refine WC.seq ?_
  refine WC.condD rfl (fun g6 => ?_) (fun g6 => ?_)
  · refine WC.skip ?_
    refine WC.seq ?_
    refine WC.block ?_
    refine WC.seq ?_
    refine WC.region ?_
    refine WL.y (Yl.move rfl) rfl ?_ -- t7
    refine WL.y (Yl.assign rfl) rfl ?_ -- t4
    refine WL.nil ?_
    refine WC.seq ?_
    refine WC.region ?_
    refine WL.y (Yl.move rfl) rfl ?_ -- t8
    refine WL.y (Yl.nilNe un26 rfl rfl) rfl ?_ -- t9
    refine WL.know (t := 9) (b' := true) rfl (by first | rfl | (simp; done) | (simp; omega)) ?_
    refine WL.nil ?_
    refine WC.condT rfl (by first | rfl | (simp; done) | (simp; omega)) ?_
    have hk2 : k < 16 := by omega
    refine WC.view (fun w h => OK.dup2 (r := blkR b 64 [.slice ao l.length ca]) (s := ownR (.slice ao l.length ca) 33 22 l.length (vcs rcV l)) h (by repeat (first | exact TakeL.nil | (apply TakeL.cons; · repeat (first | exact Take1.head | apply Take1.tail))))) ?_
    refine WC.region ?_
    refine WL.y (Yl.move rfl) rfl ?_ -- t10
    refine WL.y (Yl.move rfl) rfl ?_ -- t11
    refine WL.y (Yl.move rfl) rfl ?_ -- t12
    refine WL.callC (xs := [.tmp 11, .tmp 12]) (cap := []) rfl rfl en32 (by repeat (first | exact TakeL.nil | (apply TakeL.cons; · repeat (first | exact Take1.head | apply Take1.tail)))) (fun w hw => bucket_any b ao ca l (k : Int) (fun x hx => (hB x hx).ok) (by omega) w hw.left.here) rfl ?_ -- t13 (*hailer/merge.Book).bucket
    rintro ⟨⟨c1, c2⟩, own⟩ -
    dsimp only [List.cons_append, List.nil_append]
    refine WL.callC (xs := [.tmp 13]) (cap := []) rfl rfl en31 (by repeat (first | exact TakeL.nil | (apply TakeL.cons; · repeat (first | exact Take1.head | apply Take1.tail)))) (fun w hw => dig_any 62 [.pointer (some ⟨c1, 0, none⟩), .pointer (some ⟨c2, 0, none⟩)] own (buF l (k : Int)) (fun x hx => hB x (buF_mem hx)) (Nat.le_trans (buF_len _ _) hl) en62 w hw.left.here) rfl ?_ -- t14 hailer/merge.digest
    rintro ⟨⟩ -
    dsimp only [List.cons_append, List.nil_append]
    refine WL.y (Yl.indexA un42 sz41 rfl rfl rfl (by omega)) rfl ?_ -- t15
    refine WL.sto (Sto.agg sz41 rfl rfl (by repeat (first | exact Take1.head | apply Take1.tail)) (ints_one _ _) hbl (leB (by rw [hkl]; omega)) (show _ = ints .u8 (digsK l (k + 1)) by rw [← digsK_next l hk2]; simp [ints, bdF, Nat.mul_comm])) (fun _ h => nomatch h) ?_ -- st 1
    refine WL.nil ?_
    refine WC.region ?_
    refine WL.y (Yl.add rfl rfl (IntWalk.i64_in _ (by omega))) rfl ?_ -- t16
    refine WL.y (Yl.move rfl) rfl ?_ -- t5
    refine WL.nil ?_
    exact ⟨rfl, k + 1, by omega, by omega, (by repeat (first | exact Sub.nil | refine Sub.cons rfl ?_)), _, (by repeat (first | exact TakeL.nil | (apply TakeL.cons; · repeat (first | exact Take1.head | apply Take1.tail))))⟩
  · refine WC.exit ?_
    refine WC.seq ?_
    have hk2 : k = 16 := by omega
    subst hk2
    rw [digsF_is] at hkl ⊢
    refine WC.region ?_
    refine WL.y (Yl.loadN ag42 rfl (by repeat (first | exact Take1.head | apply Take1.tail)) (leB (by rw [hkl]; omega)) (show _ = ints .u8 (digsF l) by rw [List.drop_zero, List.take_of_length_le (by rw [hkl]; omega)])) rfl ?_ -- t17
    refine WL.sto (Sto.agg sz42 rfl rfl (by repeat (first | exact Take1.head | apply Take1.tail)) (ints_one _ _) hkl (by rfl) (putAll rfl)) (fun _ h => nomatch h) ?_ -- st 2
    refine WL.nil ?_
    refine WC.ret ?_
    repeat (first | (with_reducible refine peelT ?_) | (with_reducible refine peelB ?_) | (with_reducible refine peelTX ?_) | (with_reducible refine peelBX ?_) | (with_reducible refine peelBN ?_) | (with_reducible refine peelBO rfl ?_))
    exact retC1 (.inr rfl) Tryz.results13 ag42 rfl (by repeat (first | exact Take1.head | apply Take1.tail)) hkl fun w' h => ⟨(), trivial, rfl, h.sub (by repeat (first | exact TakeL.nil | (apply TakeL.cons; · repeat (first | exact Take1.head | apply Take1.tail))))⟩
set_option maxRecDepth 100000 in
theorem digestsNil_any (w : World) (hw : OK w (fpL []) [] w) :
    Fn Tryz.prog 13 [.pointer none] [] w (fun _ : Unit => True) (fun _ => .agg (ints .u8 (List.replicate 128 0)).toArray) (fun _ => []) := by
  refine enterF Tryz.func13 rfl Tryz.ntmps13 rfl hw ?_
  refine WC.seq ?_
  refine WC.region ?_
  refine WL.to (To.alloc (cs := ints .u8 (List.replicate 128 0)) zr42 rfl) rfl ?_ -- t2
  intro b2
  refine WL.nil ?_
  refine WC.seq ?_
  refine WC.region ?_
  refine WL.to (To.alloc (cs := ints .u8 (List.replicate 128 0)) zr42 rfl) rfl ?_ -- t3
  intro b3
  refine WL.nil ?_
  refine WC.seq ?_
  refine WC.seq ?_
  refine WC.region ?_
  refine WL.y (Yl.move rfl) rfl ?_ -- t5
  refine WL.nil ?_
  refine WC.block ?_
  refine WC.loop (α := Nat) (fun k => [(0, .pointer none), (2, .pointer (some ⟨b2, 0, none⟩)), (3, .pointer (some ⟨b3, 0, none⟩)), (5, .int .i64 (k : Int))]) (fun k => [blkR b2 42 (ints .u8 (List.replicate 128 0)), blkR b3 42 (ints .u8 (List.replicate 128 0))]) (fun k => k ≤ 16) (fun k => 16 - k) 0 (Nat.zero_le _) ⟨(by repeat (first | exact Sub.nil | refine Sub.cons rfl ?_)), _, (by repeat (first | exact TakeL.nil | (apply TakeL.cons; · repeat (first | exact Take1.head | apply Take1.tail))))⟩ ?_
  intro k hk
  refine WC.seq ?_
  refine WC.region ?_
  refine WL.y (Yl.lss rfl rfl) rfl ?_ -- t6
  refine WL.nil ?_
  refine WC.seq ?_
  refine WC.condD rfl (fun g6 => ?_) (fun g6 => ?_)
  · refine WC.skip ?_
    refine WC.seq ?_
    refine WC.block ?_
    refine WC.seq ?_
    refine WC.region ?_
    refine WL.y (Yl.move rfl) rfl ?_ -- t7
    refine WL.y (Yl.assign rfl) rfl ?_ -- t4
    refine WL.nil ?_
    refine WC.seq ?_
    refine WC.region ?_
    refine WL.y (Yl.move rfl) rfl ?_ -- t8
    refine WL.y (Yl.nilNe un26 rfl rfl) rfl ?_ -- t9
    refine WL.know (t := 9) (b' := false) rfl (by first | rfl | (simp; done) | (simp; omega)) ?_
    refine WL.nil ?_
    refine WC.condF rfl (by first | rfl | (simp; done) | (simp; omega)) ?_
    refine WC.skip ?_
    refine WC.region ?_
    refine WL.y (Yl.add rfl rfl (IntWalk.i64_in _ (by omega))) rfl ?_ -- t16
    refine WL.y (Yl.move rfl) rfl ?_ -- t5
    refine WL.nil ?_
    exact ⟨rfl, k + 1, by omega, by omega, (by repeat (first | exact Sub.nil | refine Sub.cons rfl ?_)), _, (by repeat (first | exact TakeL.nil | (apply TakeL.cons; · repeat (first | exact Take1.head | apply Take1.tail))))⟩
  · refine WC.exit ?_
    refine WC.seq ?_
    refine WC.region ?_
    refine WL.y (Yl.loadN ag42 rfl (by repeat (first | exact Take1.head | apply Take1.tail)) (by rfl) (show _ = ints .u8 (List.replicate 128 0) by rfl)) rfl ?_ -- t17
    refine WL.sto (Sto.agg sz42 rfl rfl (by repeat (first | exact Take1.head | apply Take1.tail)) (ints_one _ _) rfl (by rfl) (putAll rfl)) (fun _ h => nomatch h) ?_ -- st 2
    refine WL.nil ?_
    refine WC.ret ?_
    repeat (first | (with_reducible refine peelT ?_) | (with_reducible refine peelB ?_) | (with_reducible refine peelTX ?_) | (with_reducible refine peelBX ?_) | (with_reducible refine peelBN ?_) | (with_reducible refine peelBO rfl ?_))
    exact retC1 (.inr rfl) Tryz.results13 ag42 rfl (by repeat (first | exact Take1.head | apply Take1.tail)) rfl fun w' h => ⟨(), trivial, rfl, h.sub (by repeat (first | exact TakeL.nil | (apply TakeL.cons; · repeat (first | exact Take1.head | apply Take1.tail))))⟩
theorem sum256_by (msg : List Int) : Bytes (sum256 msg) := by
  intro y hy
  unfold sum256 sumF dgF at hy
  obtain ⟨l, hl, hy⟩ := List.mem_flatten.1 hy
  obtain ⟨a, _, rfl⟩ := List.mem_map.1 hl
  obtain ⟨t, _, rfl⟩ := List.mem_map.1 hy
  rw [IntKind.wrap_u8]; omega
def flA : List Leaf := List.replicate 8 (some .u8)
theorem fl8 : Flat Tryz.prog 41 flA := Flat.mk' 5 (by decide) (by kernel_rfl) (by kernel_rfl)
theorem fits8 {bs : List Int} (hl : bs.length = 8) (hb : Bytes bs) : Fits1 flA (ints .u8 bs) := fits_ints hl hb
theorem bdF_by (l : List Rc) (n : Nat) : Bytes (bdF l n) := fun x hx => sum256_by _ x (List.mem_of_mem_take hx)
def arF (o : List Int) (n : Nat) : List Int := (o.drop (8 * n)).take 8
theorem arF_len {o : List Int} (h : o.length = 128) {n : Nat} (hn : n < 16) : (arF o n).length = 8 := by unfold arF; rw [List.length_take, List.length_drop]; omega
theorem arF_by {o : List Int} (h : Bytes o) (n : Nat) : Bytes (arF o n) := fun x hx => h x (List.mem_of_mem_drop (List.mem_of_mem_take hx))
/-- Is a record offered, to a book of such digests? -/
def offP (l : List Rc) (o : List Int) (r : Rc) : Bool := decide (bdF l (buI r).toNat ≠ arF o (buI r).toNat)
def offL (l : List Rc) (o : List Int) : List Rc := l.filter (offP l o)
set_option maxRecDepth 100000 in
theorem offer_any (b : Nat) (ao : Option Addr) (ca : Nat) (l : List Rc) (o : List Int) (ho : o.length = 128) (hob : Bytes o) (hB : ∀ x ∈ l, Go.Proofs.YtmcdbjbkkejbbaaGreat.Bk x) (hl : l.length ≤ 2000) (w : World) (hw : OK w (fpL ((bkR b ao ca l).map roR)) ((bkR b ao ca l).map roR) w) :
    Fn Tryz.prog 12 [.pointer (some ⟨b, 0, none⟩), .agg (ints .u8 o).toArray] ((bkR b ao ca l).map roR) w (fun _ : Option Addr × Nat => True) (fun y => .slice y.1 (allB (offL l o)).length y.2) (fun y => [ownR (.slice y.1 (allB (offL l o)).length y.2) 5 1 (allB (offL l o)).length (ints .u8 (allB (offL l o)))]) := by
  have hG : ROk l := fun x hx => (hB x hx).ok
  have hol : (ints .u8 o).length = 128 := by rw [ints_length, ho]
  have hdl : (ints .u8 (digsF l)).length = 128 := by rw [ints_length, digsF_len]
  unfold bkR at hw ⊢
  try dsimp only [List.map_cons, List.map_nil] at hw ⊢
  refine enterM Tryz.func12 rfl Tryz.ntmps12 rfl hw ?_
  refine WC.seq ?_
  refine WC.region ?_
  refine WL.to (To.box (cs := ints .u8 o) rfl rfl) rfl ?_ -- t3
  intro b3
  refine WL.y (Yl.assign rfl) rfl ?_ -- t4
  refine WL.nil ?_
  refine WC.seq ?_
  refine WC.region ?_
  refine WL.to (To.alloc (cs := [.slice none 0 0]) zr23 rfl) rfl ?_ -- t5
  intro b5
  refine WL.nil ?_
  refine WC.seq ?_
  refine WC.view (fun w h => OK.dup2 (r := blkR b 64 [.slice ao l.length ca]) (s := ownR (.slice ao l.length ca) 33 22 l.length (vcs rcV l)) h (by repeat (first | exact TakeL.nil | (apply TakeL.cons; · repeat (first | exact Take1.head | apply Take1.tail))))) ?_
  refine WC.region ?_
  refine WL.y (Yl.move rfl) rfl ?_ -- t9
  refine WL.callC (xs := [.tmp 9]) (cap := []) rfl rfl en13 (by repeat (first | exact TakeL.nil | (apply TakeL.cons; · repeat (first | exact Take1.head | apply Take1.tail)))) (fun w hw => digests_any b ao ca l hB hl w hw.left.here) rfl ?_ -- t10 (*hailer/merge.Book).Digests
  rintro ⟨⟩ -
  dsimp only [List.cons_append, List.nil_append]
  refine WL.to (To.alloc (cs := ints .u8 (List.replicate 128 0)) zr42 rfl) rfl ?_ -- t6
  intro b6
  refine WL.sto (Sto.agg sz42 rfl rfl (by repeat (first | exact Take1.head | apply Take1.tail)) (ints_one _ _) hdl (by rfl) (putAll rfl)) (fun _ h => nomatch h) ?_ -- st 1
  refine WL.nil ?_
  refine WC.seq ?_
  refine WC.seq ?_
  refine WC.region ?_
  refine WL.y (Yl.move rfl) rfl ?_ -- t11
  refine WL.callC (xs := [.tmp 11]) (cap := []) rfl rfl en8 (by repeat (first | exact TakeL.nil | (apply TakeL.cons; · repeat (first | exact Take1.head | apply Take1.tail)))) (fun w hw => allM_any b ao ca l hG (by omega) w hw.left.here) rfl ?_ -- t12 (*hailer/merge.Book).All
  rintro ⟨bn, own⟩ -
  dsimp only [List.cons_append, List.nil_append]
  refine WL.nil ?_
  refine WC.block ?_
  refine WC.view (fun w h => h.addNil 5 1) ?_
  refine WC.range (α := Option Addr × Nat) (xs := ysR l) (fun i s => [blkR b5 23 [.slice s.1 (allB ((l.take i).filter (offP l o))).length s.2], ownR (.slice s.1 (allB ((l.take i).filter (offP l o))).length s.2) 5 1 (allB ((l.take i).filter (offP l o))).length (ints .u8 (allB ((l.take i).filter (offP l o)))), blkR b3 42 (ints .u8 o), blkR b6 42 (ints .u8 (digsF l))]) (fun _ _ => True) (none, 0) rfl en52 ysR_size rfl (by repeat (first | exact Take1.head | apply Take1.tail)) trivial (by repeat (first | exact TakeL.nil | (apply TakeL.cons; · repeat (first | exact Take1.head | apply Take1.tail)))) ?_ ?_
  · rintro l2 i x ⟨ao1, ca1⟩ hx - W
    obtain ⟨x, hx0, rfl⟩ := ysR_at hx
    have hil := (List.getElem?_eq_some_iff.1 hx0).1
    have hxo : x.ok := hG.get hx0
    have h22 := Rc.cells_len hxo.len
    obtain ⟨hb0, hb1, hb2⟩ := buI_is hxo
    obtain ⟨hn0, hn1⟩ := buI_lt hxo
    obtain ⟨n, hn⟩ : ∃ n : Nat, (n : Int) = buI x := ⟨(buI x).toNat, by omega⟩
    have hn16 : n < 16 := by omega
    have hnt : (buI x).toNat = n := by omega
    have hnext := filter_take (p := offP l o) hx0
    have hop : offP l o x = decide (bdF l n ≠ arF o n) := by unfold offP; rw [hnt]
    obtain ⟨ws, hws⟩ : ∃ ws, (l.take i).filter (offP l o) = ws := ⟨_, rfl⟩
    rw [hws] at hnext
    have hwl : ws.length ≤ i := by rw [← hws]; exact Nat.le_trans (List.length_filter_le _ _) (by rw [List.length_take]; omega)
    have hwg : ROk ws := fun r hr => by rw [← hws] at hr; exact hG r (List.mem_of_mem_take (List.mem_filter.1 hr).1)
    have hwal := allB_len hwg
    have hrl := recB_len hxo.len
    have hnl : (allB (ws ++ [x])).length = (allB ws).length + 43 := by rw [allB_snoc, List.length_append, hrl]
    rw [hws]
    dsimp only
    show WC _ _ _ ((13, .agg x.cells.toArray) :: _) _ _
    refine WC.region ?_
    refine WL.to (To.alloc (cs := Rc.zero.cells) zr33 rfl) rfl ?_ -- t7
    intro b7
    refine WL.sto (Sto.agg sz33 rfl rfl (by repeat (first | exact Take1.head | apply Take1.tail)) (Rc.ones _) h22 (by rfl) (Rc.all (r := Rc.zero) rfl x.cells h22)) (fun _ h => nomatch h) ?_ -- st 2
    refine WL.nil ?_
    repeat (first | (with_reducible refine peelT ?_) | (with_reducible refine peelB ?_) | (with_reducible refine peelTX ?_) | (with_reducible refine peelBX ?_) | (with_reducible refine peelBN ?_) | (with_reducible refine peelBO rfl ?_))
    refine fun W2 => ?_
    refine WC.block ?_
    refine WC.seq ?_
    refine WC.region ?_
    refine WL.y (Yl.field fo33_0 rfl) rfl ?_ -- t14
    refine WL.y (Yl.indexA (j := 0) un30 sz5 rfl rfl rfl (by omega)) rfl ?_ -- t15
    refine WL.y (Yl.load on5 rfl (by repeat (first | exact Take1.head | apply Take1.tail)) hb0) rfl ?_ -- t16
    refine WL.y (Yl.conv un5 un3 rfl (IntWalk.i64_in _ (by omega))) rfl ?_ -- t17
    refine WL.y (Yl.rem rfl rfl (by omega) (i64_rem (by omega))) rfl ?_ -- t18
    refine WL.say (t := 18) (v' := .int .i64 (n : Int)) rfl (by rw [hn]; rfl) ?_
    refine WL.y (Yl.assign rfl) rfl ?_ -- t8
    refine WL.nil ?_
    refine WC.seq ?_
    refine WC.drawRead mixed (by kernel_rfl) ?_
    refine WH.y (Yl.move rfl) rfl ?_ -- t19
    refine WH.y (Yl.indexA un42 sz41 rfl rfl rfl (by omega)) rfl ?_ -- t20
    refine WH.y (Yl.loadN ag41 rfl (by repeat (first | exact Take1.head | apply Take1.tail)) (leB (by rw [hdl]; omega)) (show _ = ints .u8 (bdF l n) by rw [Nat.zero_add, Nat.mul_comm, ints_drop, ints_take, digsF_at l hn16])) rfl ?_ -- t21
    refine WH.y (Yl.move rfl) rfl ?_ -- t22
    refine WH.y (Yl.indexA un42 sz41 rfl rfl rfl (by omega)) rfl ?_ -- t23
    refine WH.y (Yl.loadN ag41 rfl (by repeat (first | exact Take1.head | apply Take1.tail)) (leB (by rw [hol]; omega)) (show _ = ints .u8 (arF o n) by rw [Nat.zero_add, Nat.mul_comm, ints_drop, ints_take]; rfl)) rfl ?_ -- t24
    refine WH.y (Yl.neA fl8 rfl rfl (fits8 (bdF_len _ _) (bdF_by _ _)) (fits8 (arF_len ho hn16) (arF_by hob _))) rfl ?_
    rw [eqV_ints]
    refine WH.nil ?_
    refine WC.cond rfl (fun g25 => ?_) (fun g25 => ?_)
    · refine WC.drawLast 4 (Hs := [blkR b5 23 [.slice ao1 (allB ws).length ca1], blkR b7 33 x.cells]) rfl rfl mixed (by kernel_rfl) ⟨_, (by repeat (first | exact TakeL.nil | (apply TakeL.cons; · repeat (first | exact Take1.head | apply Take1.tail))))⟩ ?_
      dsimp only [List.dropLast]
      refine WD.take 0 rfl (by kernel_rfl) (by kernel_rfl) (by kernel_rfl) rfl rfl (Yl.load on23 rfl (by repeat (first | exact Take1.head | apply Take1.tail)) (by rfl)) rfl ?_ -- t26
      refine WD.take 1 rfl (by kernel_rfl) (by kernel_rfl) (by kernel_rfl) rfl rfl (Yl.loadN ag33 rfl (by repeat (first | exact Take1.head | apply Take1.tail)) (leB (by rw [h22]; omega)) (Rc.call hxo.len)) rfl ?_ -- t27
      refine WD.one 2 (by kernel_rfl) ?_
      refine WO.callC (xs := [.tmp 27]) (cap := []) rfl .no rfl rfl en30 (by repeat (first | exact TakeL.nil | (apply TakeL.cons; · repeat (first | exact Take1.head | apply Take1.tail)))) (fun w hw => putM_any x hxo (hB x (List.mem_of_getElem? hx0)).may w hw.left.here) rfl (fun _ => ⟨_, (by repeat (first | exact TakeL.nil | (apply TakeL.cons; · repeat (first | exact Take1.head | apply Take1.tail))))⟩) ?_ -- t28 hailer/merge.put
      rintro ⟨a28, c28⟩ -
      dsimp only [List.cons_append, List.nil_append]
      refine WD.one 3 (by kernel_rfl) ?_
      refine WO.to rfl rfl .no (To.append sl23 rfl rfl (by repeat (first | exact Take1.head | apply Take1.tail)) (Reads.of (RdOf.own (v := .slice a28 43 c28)) (by repeat (first | exact Take1.head | apply Take1.tail))) (ints_one _ _) (show _ = (allB (ws ++ [x])).length by rw [hnl]) (show _ = ints .u8 (allB (ws ++ [x])) by rw [allB_snoc]; simp [ints]) (by unfold maxLen; omega) (by omega)) rfl (fun _ => ⟨_, (by repeat (first | exact TakeL.nil | (apply TakeL.cons; · repeat (first | exact Take1.head | apply Take1.tail))))⟩) ?_ -- t29
      rintro ⟨⟨ao29, c29⟩, hc29⟩
      dsimp only at hc29 ⊢
      refine WD.done (by kernel_rfl) ?_
      refine ⟨_, (Sto.one sz23 rfl rfl (by repeat (first | exact Take1.head | apply Take1.tail)) rfl (by rfl) (by rfl)), ?_⟩ -- st 3
      repeat (first | (with_reducible refine peelT ?_) | (with_reducible refine peelB ?_) | (with_reducible refine peelTX ?_) | (with_reducible refine peelBX ?_) | (with_reducible refine peelBN ?_) | (with_reducible refine peelBO rfl ?_))
      have hp : offP l o x = true := by rw [hop]; simpa using g25
      rw [if_pos hp] at hnext
      exact ⟨[blkR b5 23 [.slice ao29 (allB (ws ++ [x])).length c29], ownR (.slice ao29 (allB (ws ++ [x])).length c29) 5 1 (allB (ws ++ [x])).length (ints .u8 (allB (ws ++ [x]))), blkR b3 42 (ints .u8 o), blkR b6 42 (ints .u8 (digsF l))], _, (by repeat (first | exact TakeL.nil | (apply TakeL.cons; · repeat (first | exact Take1.head | apply Take1.tail)))), (ao29, c29), trivial, by rw [hnext]⟩
    · refine WC.skip ?_
      repeat (first | (with_reducible refine peelT ?_) | (with_reducible refine peelB ?_) | (with_reducible refine peelTX ?_) | (with_reducible refine peelBX ?_) | (with_reducible refine peelBN ?_) | (with_reducible refine peelBO rfl ?_))
      have hp : offP l o x = false := by rw [hop]; simpa using g25
      rw [hp, if_neg (by simp), List.append_nil] at hnext
      exact ⟨[blkR b5 23 [.slice ao1 (allB ws).length ca1], ownR (.slice ao1 (allB ws).length ca1) 5 1 (allB ws).length (ints .u8 (allB ws)), blkR b3 42 (ints .u8 o), blkR b6 42 (ints .u8 (digsF l))], _, (by repeat (first | exact TakeL.nil | (apply TakeL.cons; · repeat (first | exact Take1.head | apply Take1.tail)))), (ao1, ca1), trivial, by rw [hnext]⟩
  · rintro ⟨ao1, ca1⟩ D -
    rw [ysR_len, List.take_length, show l.filter (offP l o) = offL l o from rfl]
    dsimp only [List.cons_append, List.nil_append]
    refine WC.seq ?_
    refine WC.region ?_
    refine WL.y (Yl.load on23 rfl (by repeat (first | exact Take1.head | apply Take1.tail)) (by rfl)) rfl ?_ -- t30
    refine WL.y (Yl.assign rfl) rfl ?_ -- t4
    refine WL.nil ?_
    refine WC.ret ?_
    repeat (first | (with_reducible refine peelT ?_) | (with_reducible refine peelB ?_) | (with_reducible refine peelTX ?_) | (with_reducible refine peelBX ?_) | (with_reducible refine peelBN ?_) | (with_reducible refine peelBO rfl ?_))
    refine retM.of (.cons (by repeat (first | exact Take1.head | apply Take1.tail)) .nil) ?_
    exact ret1 (.inr rfl) Tryz.results12 rfl fun w' h => ⟨(ao1, ca1), trivial, rfl, h.sub (by repeat (first | exact TakeL.nil | (apply TakeL.cons; · repeat (first | exact Take1.head | apply Take1.tail))))⟩
set_option maxRecDepth 100000 in
theorem offerNil_any (o : List Int) (ho : o.length = 128) (w : World) (hw : OK w (fpL []) [] w) :
    Fn Tryz.prog 12 [.pointer none, .agg (ints .u8 o).toArray] [] w (fun _ : Unit => True) (fun _ => .slice none 0 0) (fun _ => []) := by
  refine enterM Tryz.func12 rfl Tryz.ntmps12 rfl hw ?_
  refine WC.seq ?_
  refine WC.region ?_
  refine WL.to (To.box (cs := ints .u8 o) rfl rfl) rfl ?_ -- t3
  intro b3
  refine WL.y (Yl.assign rfl) rfl ?_ -- t4
  refine WL.nil ?_
  refine WC.seq ?_
  refine WC.region ?_
  refine WL.to (To.alloc (cs := [.slice none 0 0]) zr23 rfl) rfl ?_ -- t5
  intro b5
  refine WL.nil ?_
  refine WC.seq ?_
  refine WC.region ?_
  refine WL.y (Yl.move rfl) rfl ?_ -- t9
  refine WL.callC (xs := [.tmp 9]) (cap := []) rfl rfl en13 (by repeat (first | exact TakeL.nil | (apply TakeL.cons; · repeat (first | exact Take1.head | apply Take1.tail)))) (fun w hw => digestsNil_any w hw.left.here) rfl ?_ -- t10 (*hailer/merge.Book).Digests
  rintro ⟨⟩ -
  dsimp only [List.cons_append, List.nil_append]
  refine WL.to (To.alloc (cs := ints .u8 (List.replicate 128 0)) zr42 rfl) rfl ?_ -- t6
  intro b6
  refine WL.sto (Sto.agg sz42 rfl rfl (by repeat (first | exact Take1.head | apply Take1.tail)) (ints_one _ _) rfl (by rfl) (putAll rfl)) (fun _ h => nomatch h) ?_ -- st 1
  refine WL.nil ?_
  refine WC.seq ?_
  refine WC.seq ?_
  refine WC.region ?_
  refine WL.y (Yl.move rfl) rfl ?_ -- t11
  refine WL.callC (xs := [.tmp 11]) (cap := []) rfl rfl en8 (by repeat (first | exact TakeL.nil | (apply TakeL.cons; · repeat (first | exact Take1.head | apply Take1.tail)))) (fun w hw => allNil_any w hw.left.here) rfl ?_ -- t12 (*hailer/merge.Book).All
  rintro ⟨bn, own⟩ -
  dsimp only [List.cons_append, List.nil_append]
  refine WL.nil ?_
  refine WC.block ?_
  refine WC.range (α := Unit) (xs := ysR []) (fun i s => [blkR b5 23 [.slice none 0 0]]) (fun _ _ => True) () rfl en52 ysR_size rfl (by repeat (first | exact Take1.head | apply Take1.tail)) trivial (by repeat (first | exact TakeL.nil | (apply TakeL.cons; · repeat (first | exact Take1.head | apply Take1.tail)))) (fun l i x s hx => by simp [ysR] at hx) ?_
  rintro _ D -
  dsimp only [List.cons_append, List.nil_append]
  refine WC.seq ?_
  refine WC.region ?_
  refine WL.y (Yl.load on23 rfl (by repeat (first | exact Take1.head | apply Take1.tail)) (by rfl)) rfl ?_ -- t30
  refine WL.y (Yl.assign rfl) rfl ?_ -- t4
  refine WL.nil ?_
  refine WC.ret ?_
  repeat (first | (with_reducible refine peelT ?_) | (with_reducible refine peelB ?_) | (with_reducible refine peelTX ?_) | (with_reducible refine peelBX ?_) | (with_reducible refine peelBN ?_) | (with_reducible refine peelBO rfl ?_))
  refine retM.of (.cons (by repeat (first | exact Take1.head | apply Take1.tail)) .nil) ?_
  exact ret1 (.inr rfl) Tryz.results12 rfl fun w' h => ⟨(), trivial, rfl, h.sub (by repeat (first | exact TakeL.nil | (apply TakeL.cons; · repeat (first | exact Take1.head | apply Take1.tail))))⟩
end Go.Proofs.YtmcdbjbkkejbbaaGreat
