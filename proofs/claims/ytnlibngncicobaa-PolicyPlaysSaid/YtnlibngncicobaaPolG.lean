/- Policies: the edges of a day, what a rule decides: the walks. -/
import Derived.Test.YtnlibngncicobaaPolF
namespace Go.Proofs.Ytnlibngncicobaa
open Go Go.RowKit
theorem edgU_len (l : List Ru) : (edgU l).length = 2 * l.length + 1 := by
  unfold edgU
  rw [List.length_cons]
  congr 1
  induction l with
  | nil => rfl
  | cons r l ih => rw [List.flatMap_cons, List.length_append, ih, List.length_cons]; simp; omega
theorem edgU_next {l : List Ru} {i : Nat} {x : Ru} (h : l[i]? = some x) : edgU (l.take (i + 1)) = edgU (l.take i) ++ [x.fr, x.tt] := by
  unfold edgU
  rw [← take_snoc _ _ _ h, List.flatMap_append]
  simp
set_option maxRecDepth 100000 in
theorem edges_any (b : Nat) (ao : Option Addr) (ca : Nat) (p : Po) (hp : p.ok) (w : World) (hw : OK w (fpL [roR (blkR b 80 (p.cells (.slice ao p.rl.length ca))), rdR (.slice ao p.rl.length ca) 5 p.rl.length (vcs ruV p.rl)]) [roR (blkR b 80 (p.cells (.slice ao p.rl.length ca))), rdR (.slice ao p.rl.length ca) 5 p.rl.length (vcs ruV p.rl)] w) :
    Fn Try.prog 73 [.pointer (some ⟨b, 0, none⟩)] [roR (blkR b 80 (p.cells (.slice ao p.rl.length ca))), rdR (.slice ao p.rl.length ca) 5 p.rl.length (vcs ruV p.rl)] w (fun y : (Option Addr × Nat) × List Int => (∀ x, x ∈ y.2 ↔ x ∈ edgU p.rl) ∧ y.2.length ≤ 129) (fun y => .slice y.1.1 y.2.length y.1.2) (fun y => [ownR (.slice y.1.1 y.2.length y.1.2) 22 1 y.2.length (ints .u16 y.2)]) := by
  have hro := UOk.of hp
  have hln := hp.len
  refine enterF Try.func73 rfl Try.ntmps73 rfl hw ?_
  refine WC.seq ?_
  refine WC.region ?_
  refine WL.y (Yl.assign rfl) rfl ?_
  refine WL.nil ?_
  refine WC.seq ?_
  refine WC.region ?_
  refine WL.to (To.buildSlice (vs := [.int .u16 0]) un65 zs22 rfl rfl (by simp [Value.cells]) (by decide) (by decide)) rfl ?_
  intro b6
  refine WL.view (fun w h => h.blkOwn (b := b6) (size := 1) (n := 1) (by repeat (first | exact Take1.head | apply Take1.tail)) (by unfold maxLen; omega) rfl) ?_
  refine WL.y (Yl.assign rfl) rfl ?_
  refine WL.nil ?_
  refine WC.seq ?_
  refine WC.seq ?_
  refine WC.region ?_
  refine WL.y (Yl.move rfl) rfl ?_
  refine WL.y (Yl.nilCheck rfl) rfl ?_
  refine WL.y (Yl.field fo80_1 rfl) rfl ?_
  refine WL.y (Yl.loadRo on64 rfl (by repeat (first | exact Take1.head | apply Take1.tail)) (by rfl)) rfl ?_
  refine WL.y (Yl.len un64 rfl) rfl ?_
  refine WL.y (Yl.move rfl) rfl ?_
  refine WL.nil ?_
  refine WC.block ?_
  refine WC.loop (α := Nat × (Option Addr × Nat)) (fun s => [(3, .slice s.2.1 (edgU (p.rl.take s.1)).length s.2.2), (10, .slice ao p.rl.length ca), (11, .int .i64 (p.rl.length : Int)), (12, .int .i64 (s.1 : Int))]) (fun s => [rdR (.slice ao p.rl.length ca) 5 p.rl.length (vcs ruV p.rl), ownR (.slice s.2.1 (edgU (p.rl.take s.1)).length s.2.2) 22 1 (edgU (p.rl.take s.1)).length (ints .u16 (edgU (p.rl.take s.1)))]) (fun s => s.1 ≤ p.rl.length) (fun s => p.rl.length - s.1) (0, (some ⟨b6, 0, none⟩, 1)) (Nat.zero_le _) ⟨(by repeat (first | exact Sub.nil | refine Sub.cons rfl ?_)), _, (by repeat (first | exact TakeL.nil | (apply TakeL.cons; · repeat (first | exact Take1.head | apply Take1.tail))))⟩ ?_
  rintro ⟨i, ao3, c3⟩ hi
  dsimp only at hi ⊢
  have hel := edgU_len (p.rl.take i)
  rw [List.length_take, Nat.min_eq_left hi] at hel
  refine WC.seq ?_
  refine WC.region ?_
  refine WL.y (Yl.lss rfl rfl) rfl ?_
  refine WL.nil ?_
  refine WC.seq ?_
  refine WC.condD rfl (fun g13 => ?_) (fun g13 => ?_)
  · refine WC.skip ?_
    refine WC.seq ?_
    refine WC.block ?_
    refine WC.seq ?_
    refine WC.region ?_
    have hil : i < p.rl.length := by omega
    obtain ⟨x, hx0⟩ : ∃ x, p.rl[i]? = some x := ⟨_, List.getElem?_eq_getElem hil⟩
    have hnx := edgU_next hx0
    have hel2 := edgU_len (p.rl.take (i + 1))
    rw [List.length_take, Nat.min_eq_left hil] at hel2
    refine WL.y (Yl.index un64 sz24 rfl rfl (Reads.of (r := rdR (.slice ao p.rl.length ca) 5 p.rl.length (vcs ruV p.rl)) RdOf.rd' (by repeat (first | exact Take1.head | apply Take1.tail))) rfl (by omega)) rfl ?_
    refine WL.y (Yl.loadV (j := i) (u := x) vtU hro rfl (Reads.of (r := rdR (.slice ao p.rl.length ca) 5 p.rl.length (vcs ruV p.rl)) RdOf.rd' (by repeat (first | exact Take1.head | apply Take1.tail))) rfl hx0) rfl ?_
    refine WL.to (To.alloc (cs := Ru.zero.cells) zr24 rfl) rfl ?_
    intro b5
    refine WL.sto (Sto.agg sz24 rfl rfl (by repeat (first | exact Take1.head | apply Take1.tail)) (Ru.ones _) (Ru.len x) (by rfl) (Ru.all Ru.zero x.cells (Ru.len x))) (fun _ h => nomatch h) ?_
    refine WL.nil ?_
    refine WC.region ?_
    refine WL.y (Yl.move rfl) rfl ?_
    refine WL.y (Yl.field fo24_1 rfl) rfl ?_
    refine WL.y (Yl.load on22 rfl (by repeat (first | exact Take1.head | apply Take1.tail)) (by rfl)) rfl ?_
    refine WL.y (Yl.field fo24_2 rfl) rfl ?_
    refine WL.y (Yl.load on22 rfl (by repeat (first | exact Take1.head | apply Take1.tail)) (by rfl)) rfl ?_
    refine WL.to (To.buildSlice (vs := [.int .u16 x.fr, .int .u16 x.tt]) un65 zs22 rfl rfl (by simp [Value.cells]) (by decide) (by decide)) rfl ?_
    intro b21
    refine WL.to (To.append sl65 rfl rfl (by repeat (first | exact Take1.head | apply Take1.tail)) (Reads.of (RdOf.blk (size := 1) (n := 2) (cs := [.int .u16 x.fr, .int .u16 x.tt]) (cs' := ints .u16 [x.fr, x.tt]) (Nat.le_refl _) (by unfold maxLen; omega) (by simp) rfl) (by repeat (first | exact Take1.head | apply Take1.tail))) (ints_one _ _) (show (edgU (p.rl.take i)).length + 2 = (edgU (p.rl.take (i + 1))).length by omega) (show ints .u16 (edgU (p.rl.take i)) ++ ints .u16 [x.fr, x.tt] = ints .u16 (edgU (p.rl.take (i + 1))) by rw [hnx, ints_append]) (by unfold maxLen; omega) (by omega)) rfl ?_
    rintro ⟨⟨ao22, c22⟩, hc22⟩
    dsimp only at hc22 ⊢
    refine WL.y (Yl.assign rfl) rfl ?_
    refine WL.nil ?_
    refine WC.region ?_
    refine WL.y (Yl.add rfl rfl (IntWalk.i64_in _ (by omega))) rfl ?_
    refine WL.y (Yl.move rfl) rfl ?_
    refine WL.nil ?_
    exact ⟨rfl, (i + 1, ao22, c22), by dsimp only; omega, by dsimp only; omega, (by repeat (first | exact Sub.nil | refine Sub.cons rfl ?_)), _, (by repeat (first | exact TakeL.nil | (apply TakeL.cons; · repeat (first | exact Take1.head | apply Take1.tail))))⟩
  · refine WC.exit ?_
    refine WC.seq ?_
    have hil : i = p.rl.length := by omega
    subst hil
    rw [List.take_length] at hel ⊢
    have hal := asc_len (edgU p.rl)
    refine WC.region ?_
    refine WL.y (Yl.move rfl) rfl ?_
    refine WL.callC (xs := [.tmp 24]) (cap := []) rfl rfl en78 (by repeat (first | exact TakeL.nil | (apply TakeL.cons; · repeat (first | exact Take1.head | apply Take1.tail)))) (fun w hw => sortH_any ao3 c3 (edgU p.rl) (by omega) w hw.left.here) rfl ?_
    rintro ⟨⟩ -
    dsimp only [List.cons_append, List.nil_append]
    rw [← hal]
    refine WL.nil ?_
    refine WC.seq ?_
    refine WC.region ?_
    refine WL.y (Yl.move rfl) rfl ?_
    refine WL.callC (xs := [.tmp 26]) (cap := []) rfl rfl en79 (by repeat (first | exact TakeL.nil | (apply TakeL.cons; · repeat (first | exact Take1.head | apply Take1.tail)))) (fun w hw => compact_any ao3 c3 (asc (edgU p.rl)) (by omega) w hw.left.here) rfl ?_
    rintro E ⟨hE, hEl⟩
    dsimp only [List.cons_append, List.nil_append]
    refine WL.y (Yl.assign rfl) rfl ?_
    refine WL.nil ?_
    refine WC.ret ?_
    repeat (first | (with_reducible refine peelT ?_) | (with_reducible refine peelB ?_) | (with_reducible refine peelTX ?_) | (with_reducible refine peelBX ?_) | (with_reducible refine peelBN ?_) | (with_reducible refine peelBO rfl ?_))
    exact ret1 (.inr rfl) Try.results73 rfl fun w' h => ⟨((ao3, c3), E), ⟨fun x => (hE x).trans (asc_perm _).mem_iff, by dsimp only; omega⟩, rfl, h.sub (by repeat (first | exact TakeL.nil | (apply TakeL.cons; · repeat (first | exact Take1.head | apply Take1.tail))))⟩
/-- Does a rule fit a call at a tick? (the function value of decides) -/
theorem predDec (a t : Int) (ht : 0 ≤ t ∧ t < 65536) (b6 b7 : Nat) : PredB Try.prog [blkR b7 5 [.int .u8 a], roR (blkR b6 22 [.int .u16 t])] 74 [.pointer (some ⟨b7, 0, none⟩), .pointer (some ⟨b6, 0, none⟩)] (fun y : Nat × Ru => y.2.ok) (fun y => [.int .i64 (y.1 : Int), ruV y.2]) (fun y => fitU y.2 a t) := by
  refine ⟨en74, ?_⟩
  rintro ⟨i, x⟩ hx w hw
  refine Fn.bun (A := [blkR b7 5 [.int .u8 a], roR (blkR b6 22 [.int .u16 t])]) (fun hw => ?_) hw
  simp only [List.map_cons, List.map_nil, roR_ro] at hw ⊢
  unfold ruV
  refine enterF Try.func74 rfl Try.ntmps74 rfl hw ?_
  refine WC.seq ?_
  refine WC.region ?_
  refine WL.to (To.box (cs := x.cells) rfl rfl) rfl ?_
  intro b5
  refine WL.y (Yl.assign rfl) rfl ?_
  refine WL.nil ?_
  refine WC.seq ?_
  refine WC.region ?_
  refine WL.y (Yl.loadN ag24 rfl (by repeat (first | exact Take1.head | apply Take1.tail)) (by rfl) (Ru.call x)) rfl ?_
  refine WL.y (Yl.loadRo on5 rfl (by repeat (first | exact Take1.head | apply Take1.tail)) (by rfl)) rfl ?_
  refine WL.y (Yl.loadRo on22 rfl (by repeat (first | exact Take1.head | apply Take1.tail)) (by rfl)) rfl ?_
  refine WL.y (Yl.conv un22 un25 rfl (u64_in _ (by omega))) rfl ?_
  refine WL.callC (xs := [.tmp 7, .tmp 8, .tmp 10]) (cap := []) rfl rfl en11 (by repeat (first | exact TakeL.nil | (apply TakeL.cons; · repeat (first | exact Take1.head | apply Take1.tail)))) (fun w hw => fits_any x a t (by omega) w hw.left.here) rfl ?_
  rintro ⟨⟩ -
  refine WL.y (Yl.assign rfl) rfl ?_
  refine WL.nil ?_
  refine WC.ret ?_
  repeat (first | (with_reducible refine peelT ?_) | (with_reducible refine peelB ?_) | (with_reducible refine peelTX ?_) | (with_reducible refine peelBX ?_) | (with_reducible refine peelBN ?_) | (with_reducible refine peelBO rfl ?_))
  exact ret1 (.inr rfl) Try.results74 rfl fun w' h => ⟨(), trivial, rfl, h.sub (by repeat (first | exact TakeL.nil | (apply TakeL.cons; · repeat (first | exact Take1.head | apply Take1.tail))))⟩
theorem edg_range {p : Po} (hp : p.ok) {x : Int} (h : x ∈ edgU p.rl) : 0 ≤ x ∧ x < 65536 := by
  unfold edgU at h
  rcases List.mem_cons.1 h with rfl | h
  · omega
  · obtain ⟨r, hr, h⟩ := List.mem_flatMap.1 h
    have hro := (hp.rl r hr).1
    simp only [List.mem_cons, List.not_mem_nil, or_false] at h
    rcases h with rfl | rfl
    · exact hro.fr
    · exact hro.tt
set_option maxRecDepth 100000 in
theorem decides_any (b : Nat) (ao : Option Addr) (ca : Nat) (p : Po) (i : Nat) (hp : p.ok) (w : World) (hw : OK w (fpL [roR (blkR b 80 (p.cells (.slice ao p.rl.length ca))), rdR (.slice ao p.rl.length ca) 5 p.rl.length (vcs ruV p.rl)]) [roR (blkR b 80 (p.cells (.slice ao p.rl.length ca))), rdR (.slice ao p.rl.length ca) 5 p.rl.length (vcs ruV p.rl)] w) :
    Fn Try.prog 63 [.pointer (some ⟨b, 0, none⟩), .int .i64 (i : Int)] [roR (blkR b 80 (p.cells (.slice ao p.rl.length ca))), rdR (.slice ao p.rl.length ca) 5 p.rl.length (vcs ruV p.rl)] w (fun _ : Unit => True) (fun _ => .bool (decU p.rl i)) (fun _ => []) := by
  have hro := UOk.of hp
  have hln := hp.len
  refine enterF Try.func63 rfl Try.ntmps63 rfl hw ?_
  refine WC.seq ?_
  refine WC.region ?_
  refine WL.y (Yl.assign rfl) rfl ?_
  refine WL.nil ?_
  refine WC.seq ?_
  refine WC.seq ?_
  refine WC.region ?_
  refine WL.y (Yl.move rfl) rfl ?_
  refine WL.view (fun w h => h.dup (r := roR (blkR b 80 (p.cells (.slice ao p.rl.length ca)))) (by repeat (first | exact Take1.head | apply Take1.tail)) (fun _ h => h)) ?_
  refine WL.view (fun w h => h.dup (r := rdR (.slice ao p.rl.length ca) 5 p.rl.length (vcs ruV p.rl)) (by repeat (first | exact Take1.head | apply Take1.tail)) (fun _ h => h)) ?_
  refine WL.callC (xs := [.tmp 8]) (cap := []) rfl rfl en73 (by repeat (first | exact TakeL.nil | (apply TakeL.cons; · repeat (first | exact Take1.head | apply Take1.tail)))) (fun w hw => edges_any b ao ca p hp w hw.left.here) rfl ?_
  rintro ⟨⟨aoE, cE⟩, E⟩ ⟨hE, hEl⟩
  dsimp only at hE hEl ⊢
  dsimp only [List.cons_append, List.nil_append]
  have hdec := dec_edges (E := E) hp.rl hE i
  refine WL.y (Yl.len un65 rfl) rfl ?_
  refine WL.y (Yl.move rfl) rfl ?_
  refine WL.nil ?_
  refine WC.block ?_
  refine WC.loop (α := Nat) (fun k => [(0, .pointer (some ⟨b, 0, none⟩)), (1, .int .i64 (i : Int)), (9, .slice aoE E.length cE), (10, .int .i64 (E.length : Int)), (11, .int .i64 (k : Int))]) (fun k => [roR (blkR b 80 (p.cells (.slice ao p.rl.length ca))), rdR (.slice ao p.rl.length ca) 5 p.rl.length (vcs ruV p.rl), ownR (.slice aoE E.length cE) 22 1 E.length (ints .u16 E)]) (fun k => k ≤ E.length ∧ ∀ (j : Nat) t, j < k → E[j]? = some t → decAt p.rl t i = false) (fun k => E.length - k) 0 ⟨Nat.zero_le _, fun j t h => by omega⟩ ⟨(by repeat (first | exact Sub.nil | refine Sub.cons rfl ?_)), _, (by repeat (first | exact TakeL.nil | (apply TakeL.cons; · repeat (first | exact Take1.head | apply Take1.tail))))⟩ ?_
  rintro k ⟨hk, hno⟩
  refine WC.seq ?_
  refine WC.region ?_
  refine WL.y (Yl.lss rfl rfl) rfl ?_
  refine WL.nil ?_
  refine WC.seq ?_
  refine WC.condD rfl (fun g12 => ?_) (fun g12 => ?_)
  · refine WC.skip ?_
    refine WC.seq ?_
    refine WC.block ?_
    refine WC.seq ?_
    refine WC.region ?_
    have hkl : k < E.length := by omega
    obtain ⟨t, ht⟩ : ∃ t, E[k]? = some t := ⟨_, List.getElem?_eq_getElem hkl⟩
    have htr := edg_range hp ((hE t).1 (List.mem_of_getElem? ht))
    refine WL.y (Yl.index un65 sz22 rfl rfl (Reads.of (r := ownR (.slice aoE E.length cE) 22 1 E.length (ints .u16 E)) RdOf.own (by repeat (first | exact Take1.head | apply Take1.tail))) rfl (by omega)) rfl ?_
    refine WL.y (Yl.loadE (j := k) on22 rfl (Reads.of (r := ownR (.slice aoE E.length cE) 22 1 E.length (ints .u16 E)) RdOf.own (by repeat (first | exact Take1.head | apply Take1.tail))) (u := .int .u16 t) (by simp [ints, ht])) rfl ?_
    refine WL.to (To.alloc (cs := [.int .u16 0]) zr22 rfl) rfl ?_
    intro b6
    refine WL.sto (Sto.one sz22 rfl rfl (by repeat (first | exact Take1.head | apply Take1.tail)) rfl (by rfl) (by rfl)) (fun _ h => nomatch h) ?_
    refine WL.nil ?_
    refine WC.seq ?_
    refine WC.view (fun w h => h.roOne (r := blkR b6 22 [.int .u16 t]) (by repeat (first | exact Take1.head | apply Take1.tail))) ?_
    refine WC.region ?_
    refine WL.y (Yl.move rfl) rfl ?_
    refine WL.nil ?_
    refine WC.block ?_
    refine WC.loop (α := Nat) (fun a => [(0, .pointer (some ⟨b, 0, none⟩)), (1, .int .i64 (i : Int)), (6, .pointer (some ⟨b6, 0, none⟩)), (9, .slice aoE E.length cE), (10, .int .i64 (E.length : Int)), (11, .int .i64 (k : Int)), (15, .int .u8 (a : Int))]) (fun a => [roR (blkR b 80 (p.cells (.slice ao p.rl.length ca))), rdR (.slice ao p.rl.length ca) 5 p.rl.length (vcs ruV p.rl), ownR (.slice aoE E.length cE) 22 1 E.length (ints .u16 E), roR (blkR b6 22 [.int .u16 t])]) (fun a => a ≤ 8 ∧ ∀ j, j < a → firU p.rl (j : Int) t ≠ some i) (fun a => 8 - a) 0 ⟨Nat.zero_le _, fun j h => by omega⟩ ⟨(by repeat (first | exact Sub.nil | refine Sub.cons rfl ?_)), _, (by repeat (first | exact TakeL.nil | (apply TakeL.cons; · repeat (first | exact Take1.head | apply Take1.tail))))⟩ ?_
    rintro a ⟨ha8, hna⟩
    refine WC.seq ?_
    refine WC.region ?_
    refine WL.y (Yl.lss rfl rfl) rfl ?_
    refine WL.nil ?_
    refine WC.seq ?_
    refine WC.condD rfl (fun g16 => ?_) (fun g16 => ?_)
    · refine WC.skip ?_
      refine WC.seq ?_
      refine WC.block ?_
      refine WC.seq ?_
      refine WC.region ?_
      refine WL.y (Yl.move rfl) rfl ?_
      refine WL.to (To.alloc (cs := [.int .u8 0]) zr5 rfl) rfl ?_
      intro b7
      refine WL.sto (Sto.one sz5 rfl rfl (by repeat (first | exact Take1.head | apply Take1.tail)) rfl (by rfl) (by rfl)) (fun _ h => nomatch h) ?_
      refine WL.nil ?_
      refine WC.seq ?_
      refine WC.view (fun w h => h.dup (r := roR (blkR b6 22 [.int .u16 t])) (by repeat (first | exact Take1.head | apply Take1.tail)) (fun _ h => h)) ?_
      refine WC.view (fun w h => OK.bunO2 (r := blkR b7 5 [.int .u8 (a : Int)]) (s := roR (blkR b6 22 [.int .u16 t])) h (by repeat (first | exact TakeL.nil | (apply TakeL.cons; · repeat (first | exact Take1.head | apply Take1.tail))))) ?_
      refine WC.view (fun w h => h.dup (r := roR (blkR b 80 (p.cells (.slice ao p.rl.length ca)))) (by repeat (first | exact Take1.head | apply Take1.tail)) (fun _ h => h)) ?_
      refine WC.view (fun w h => h.dup (r := rdR (.slice ao p.rl.length ca) 5 p.rl.length (vcs ruV p.rl)) (by repeat (first | exact Take1.head | apply Take1.tail)) (fun _ h => h)) ?_
      refine WC.region ?_
      refine WL.y (Yl.move rfl) rfl ?_
      refine WL.y (Yl.makeFunc (xs := []) (ys := [.tmp 7, .tmp 6]) rfl rfl) rfl ?_
      refine WL.callC (xs := [.tmp 18, .tmp 19]) (cap := []) rfl rfl en56 (by repeat (first | exact TakeL.nil | (apply TakeL.cons; · repeat (first | exact Take1.head | apply Take1.tail)))) (fun w hw => first_any [blkR b7 5 [.int .u8 (a : Int)], roR (blkR b6 22 [.int .u16 t])] 74 [.pointer (some ⟨b7, 0, none⟩), .pointer (some ⟨b6, 0, none⟩)] (fun r => fitU r (a : Int) t) (predDec (a : Int) t htr b6 b7) b ao ca p hro (by omega) w hw.left.here) rfl ?_
      rintro ⟨⟩ -
      rw [show (p.rl.findIdx? fun r => fitU r (a : Int) t) = firU p.rl (a : Int) t from rfl]
      dsimp only [List.cons_append, List.nil_append]
      refine WL.y (Yl.move rfl) rfl ?_
      refine WL.y (Yl.eql rfl rfl) rfl ?_
      refine WL.nil ?_
      refine WC.condD rfl (fun g22 => ?_) (fun g22 => ?_)
      · refine WC.seq ?_
        refine WC.region ?_
        refine WL.y (Yl.assign rfl) rfl ?_
        refine WL.nil ?_
        refine WC.ret ?_
        repeat (first | (with_reducible refine peelT ?_) | (with_reducible refine peelB ?_) | (with_reducible refine peelTX ?_) | (with_reducible refine peelBX ?_) | (with_reducible refine peelBN ?_) | (with_reducible refine peelBO rfl ?_))
        have hf : firU p.rl (a : Int) t = some i := by
          have g := g22
          cases h : firU p.rl (a : Int) t with
          | none =>
            rw [h] at g
            have : (-1 : Int) = (i : Int) := g
            omega
          | some q =>
            rw [h] at g
            have : (q : Int) = (i : Int) := g
            congr 1
            omega
        have e : decU p.rl i = true := by
          rw [← hdec]
          unfold decE decAt
          exact List.any_eq_true.2 ⟨t, List.mem_of_getElem? ht, List.any_eq_true.2 ⟨a, List.mem_range.2 (by have := g16; omega), by simpa using hf⟩⟩
        rw [e]
        exact ret1 (.inr rfl) Try.results63 rfl fun w' h => ⟨(), trivial, rfl, h.sub (by repeat (first | exact TakeL.nil | (apply TakeL.cons; · repeat (first | exact Take1.head | apply Take1.tail))))⟩
      · refine WC.skip ?_
        refine WC.region ?_
        refine WL.y (Yl.add rfl rfl (IntWalk.u8_in _ (by omega))) rfl ?_
        refine WL.y (Yl.move rfl) rfl ?_
        refine WL.nil ?_
        exact ⟨rfl, a + 1, ⟨by omega, fun j hj => by
          by_cases e : j = a
          · subst e
            intro hf
            exact g22 (by rw [hf]; rfl)
          · exact hna j (by omega)⟩, by omega, (by repeat (first | exact Sub.nil | refine Sub.cons rfl ?_)), _, (by repeat (first | exact TakeL.nil | (apply TakeL.cons; · repeat (first | exact Take1.head | apply Take1.tail))))⟩
    · refine WC.exit ?_
      refine WC.region ?_
      refine WL.y (Yl.add rfl rfl (IntWalk.i64_in _ (by omega))) rfl ?_
      refine WL.y (Yl.move rfl) rfl ?_
      refine WL.nil ?_
      have hda : decAt p.rl t i = false := by
        unfold decAt
        refine List.any_eq_false.2 fun j hj => ?_
        have := List.mem_range.1 hj
        simpa using hna j (by omega)
      exact ⟨rfl, k + 1, ⟨by omega, fun j u hj hu => by
        by_cases e : j = k
        · subst e
          rw [ht] at hu
          cases hu
          exact hda
        · exact hno j u (by omega) hu⟩, by omega, (by repeat (first | exact Sub.nil | refine Sub.cons rfl ?_)), _, (by repeat (first | exact TakeL.nil | (apply TakeL.cons; · repeat (first | exact Take1.head | apply Take1.tail))))⟩
  · refine WC.exit ?_
    refine WC.seq ?_
    refine WC.region ?_
    refine WL.y (Yl.assign rfl) rfl ?_
    refine WL.nil ?_
    refine WC.ret ?_
    repeat (first | (with_reducible refine peelT ?_) | (with_reducible refine peelB ?_) | (with_reducible refine peelTX ?_) | (with_reducible refine peelBX ?_) | (with_reducible refine peelBN ?_) | (with_reducible refine peelBO rfl ?_))
    have hkl : k = E.length := by omega
    have e : decU p.rl i = false := by
      rw [← hdec]
      unfold decE
      refine List.any_eq_false.2 fun t ht => ?_
      obtain ⟨j, hj⟩ := List.mem_iff_getElem?.1 ht
      have hjl := (List.getElem?_eq_some_iff.1 hj).1
      simpa using hno j t (by omega) hj
    rw [e]
    exact ret1 (.inr rfl) Try.results63 rfl fun w' h => ⟨(), trivial, rfl, h.sub (by repeat (first | exact TakeL.nil | (apply TakeL.cons; · repeat (first | exact Take1.head | apply Take1.tail))))⟩
end Go.Proofs.Ytnlibngncicobaa
