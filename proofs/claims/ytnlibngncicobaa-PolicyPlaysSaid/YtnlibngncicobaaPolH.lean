/- Policies: what is idle, gone over, collected; Tidy: the walks. -/
import Derived.Test.YtnlibngncicobaaPolG
namespace Go.Proofs.Ytnlibngncicobaa
open Go Go.RowKit
/-- Numbers as ints; numbers gone over. -/
def natI (ns : List Nat) : List Int := ns.map fun (n : Nat) => (n : Int)
theorem natI_len (ns : List Nat) : (natI ns).length = ns.length := List.length_map _
theorem natI_app (ns ms : List Nat) : natI (ns ++ ms) = natI ns ++ natI ms := List.map_append
def yiU (ns : List Nat) : List (Array Value) := ns.map fun (n : Nat) => #[.int .i64 (n : Int)]
theorem yiU_len (ns : List Nat) : (yiU ns).length = ns.length := List.length_map _
theorem yiU_get {ns : List Nat} {k n : Nat} (h : ns[k]? = some n) : (yiU ns)[k]? = some #[.int .i64 (n : Int)] := by unfold yiU; rw [List.getElem?_map, h]; rfl
theorem yiU_at {ns : List Nat} {k : Nat} {y : Array Value} (h : (yiU ns)[k]? = some y) : ∃ n, ns[k]? = some n ∧ y = #[.int .i64 (n : Int)] := by
  unfold yiU at h
  rw [List.getElem?_map] at h
  obtain ⟨n, h1, h2⟩ := Option.map_eq_some_iff.1 h
  exact ⟨n, h1, h2.symm⟩
theorem yiU_size {ns : List Nat} : ∀ y ∈ yiU ns, y.size = 1 := by
  intro y hy
  obtain ⟨i, _, rfl⟩ := List.mem_map.1 hy
  rfl
/-- How many of the first i are so. -/
def cntQ (q : Nat → Bool) (i : Nat) : Nat := ((List.range i).filter q).length
theorem cntQ_next (q : Nat → Bool) (i : Nat) : cntQ q (i + 1) = cntQ q i + (if q i then 1 else 0) := by
  unfold cntQ
  rw [List.range_succ, List.filter_append, List.length_append]
  by_cases h : q i = true
  · simp [h]
  · simp [h]
theorem cntQ_get (q : Nat → Bool) : ∀ {n i : Nat}, i < n → q i = true → ((List.range n).filter q)[cntQ q i]? = some i
  | n + 1, i, h, hq => by
    rw [List.range_succ, List.filter_append]
    by_cases e : i = n
    · subst e
      unfold cntQ
      rw [List.getElem?_append_right (Nat.le_refl _), Nat.sub_self]
      simp [hq]
    · have ih := cntQ_get q (n := n) (i := i) (by omega) hq
      have hl := (List.getElem?_eq_some_iff.1 ih).1
      rw [List.getElem?_append_left hl]
      exact ih
set_option maxRecDepth 100000 in
theorem idle1_iter (b1 b : Nat) (ao : Option Addr) (ca : Nat) (p : Po) (hp : p.ok) (w : World) (hA : OK w (fpL [roR (blkR b1 33 [.pointer (some ⟨b, 0, none⟩)]), roR (blkR b 80 (p.cells (.slice ao p.rl.length ca))), rdR (.slice ao p.rl.length ca) 5 p.rl.length (vcs ruV p.rl)]) [roR (blkR b1 33 [.pointer (some ⟨b, 0, none⟩)]), roR (blkR b 80 (p.cells (.slice ao p.rl.length ca))), rdR (.slice ao p.rl.length ca) 5 p.rl.length (vcs ruV p.rl)] w) :
    Iter Try.prog 62 ([.pointer (some ⟨b1, 0, none⟩)] : List Value).toArray (fpL [roR (blkR b1 33 [.pointer (some ⟨b, 0, none⟩)]), roR (blkR b 80 (p.cells (.slice ao p.rl.length ca))), rdR (.slice ao p.rl.length ca) 5 p.rl.length (vcs ruV p.rl)]).rd (yiU (idleU p.rl)) w := by
  have hsz := hp.sz
  have hln := hp.len
  have hc18 := Po.len hsz (.slice ao p.rl.length ca)
  have hwr : ∀ r ∈ [roR (blkR b1 33 [.pointer (some ⟨b, 0, none⟩)]), roR (blkR b 80 (p.cells (.slice ao p.rl.length ca))), rdR (.slice ao p.rl.length ca) 5 p.rl.length (vcs ruV p.rl)], ∀ k, ¬ r.wr k := by
    intro r hr k hk
    simp at hr
    rcases hr with rfl | rfl | rfl <;> exact hk
  have hyl := yiU_len (idleU p.rl)
  obtain ⟨q, hq⟩ : ∃ q, (fun i => !decU p.rl i) = q := ⟨_, rfl⟩
  have hid : idleU p.rl = (List.range p.rl.length).filter q := by rw [← hq]; rfl
  refine iter_of Try.func62 rfl Try.ntmps62 rfl hA hwr ?_
  intro l W g gx T0 hy
  refine WC.seq ?_
  refine WC.seq ?_
  refine WC.region ?_
  refine WL.y (Yl.loadRo on33 rfl (by repeat (first | exact Take1.head | apply Take1.tail)) (by rfl)) rfl ?_
  refine WL.y (Yl.nilEq un33 rfl rfl) rfl ?_
  refine WL.know (t := 6) (b' := false) rfl (by first | rfl | (simp; done) | (simp; omega)) ?_
  refine WL.nil ?_
  refine WC.condF rfl (by first | rfl | (simp; done) | (simp; omega)) ?_
  refine WC.skip ?_
  refine WC.seq ?_
  refine WC.region ?_
  refine WL.y (Yl.loadRo on33 rfl (by repeat (first | exact Take1.head | apply Take1.tail)) (by rfl)) rfl ?_
  refine WL.y (Yl.nilCheck rfl) rfl ?_
  refine WL.y (Yl.loadNRo (n := 18) ag80 rfl (by repeat (first | exact Take1.head | apply Take1.tail)) (leN (by rw [hc18]; omega)) (show _ = p.cells (.slice ao p.rl.length ca) by rw [List.drop_zero, List.take_of_length_le (by rw [hc18]; omega)])) rfl ?_
  refine WL.to (To.alloc (cs := (Po.new 0).cells (.slice none 0 0)) zr80 rfl) rfl ?_
  intro b3
  refine WL.sto (Sto.agg sz80 rfl rfl (by repeat (first | exact Take1.head | apply Take1.tail)) (show ∀ v ∈ p.cells (.slice ao p.rl.length ca), v.oneCell' = true from p.ones _ rfl) hc18 (by rfl) (by rw [List.take_zero, List.nil_append, List.drop_of_length_le (by rw [Po.len (Po.new_sz 0)]; omega), List.append_nil])) (fun _ h => nomatch h) ?_
  refine WL.nil ?_
  refine WC.seq ?_
  refine WC.view (fun w h => h.roOne (r := blkR b3 80 (p.cells (.slice ao p.rl.length ca))) (by repeat (first | exact Take1.head | apply Take1.tail))) ?_
  refine WC.region ?_
  refine WL.y (Yl.field fo80_1 rfl) rfl ?_
  refine WL.y (Yl.loadRo on64 rfl (by repeat (first | exact Take1.head | apply Take1.tail)) (by rfl)) rfl ?_
  refine WL.y (Yl.len un64 rfl) rfl ?_
  refine WL.y (Yl.move rfl) rfl ?_
  refine WL.nil ?_
  refine WC.block ?_
  refine WC.loop (α := Nat × (Nat → Prop)) (fun s => [(0, .func (.yield l) #[] #[]), (3, .pointer (some ⟨b3, 0, none⟩)), (12, .int .i64 (p.rl.length : Int)), (13, .int .i64 (s.1 : Int))]) (fun s => [gstR g (cntQ q s.1) s.2, roR (blkR b3 80 (p.cells (.slice ao p.rl.length ca))), rdR (.slice ao p.rl.length ca) 5 p.rl.length (vcs ruV p.rl)]) (fun s => s.1 ≤ p.rl.length) (fun s => p.rl.length - s.1) (0, T0) (Nat.zero_le _) ⟨(by repeat (first | exact Sub.nil | refine Sub.cons rfl ?_)), _, (by repeat (first | exact TakeL.nil | (apply TakeL.cons; · repeat (first | exact Take1.head | apply Take1.tail))))⟩ ?_
  rintro ⟨i, T⟩ hi
  dsimp only at hi ⊢
  have hcn := cntQ_next q i
  refine WC.seq ?_
  refine WC.region ?_
  refine WL.y (Yl.lss rfl rfl) rfl ?_
  refine WL.nil ?_
  refine WC.seq ?_
  refine WC.condD rfl (fun g14 => ?_) (fun g14 => ?_)
  · refine WC.skip ?_
    refine WC.seq ?_
    refine WC.block ?_
    refine WC.seq ?_
    refine WC.region ?_
    refine WL.y (Yl.move rfl) rfl ?_
    refine WL.y (Yl.assign rfl) rfl ?_
    refine WL.nil ?_
    refine WC.seq ?_
    have hil : i < p.rl.length := by omega
    refine WC.view (fun w h => h.dup (r := roR (blkR b3 80 (p.cells (.slice ao p.rl.length ca)))) (by repeat (first | exact Take1.head | apply Take1.tail)) (fun _ h => h)) ?_
    refine WC.view (fun w h => h.dup (r := rdR (.slice ao p.rl.length ca) 5 p.rl.length (vcs ruV p.rl)) (by repeat (first | exact Take1.head | apply Take1.tail)) (fun _ h => h)) ?_
    refine WC.region ?_
    refine WL.y (Yl.move rfl) rfl ?_
    refine WL.callC (xs := [.tmp 3, .tmp 16]) (cap := []) rfl rfl en63 (by repeat (first | exact TakeL.nil | (apply TakeL.cons; · repeat (first | exact Take1.head | apply Take1.tail)))) (fun w hw => decides_any b3 ao ca p i hp w hw.left.here) rfl ?_
    rintro ⟨⟩ -
    dsimp only [List.cons_append, List.nil_append]
    refine WL.y (Yl.not rfl) rfl ?_
    refine WL.say (t := 18) (v' := .bool (q i)) rfl (by rw [← hq]) ?_
    refine WL.y (Yl.move rfl) rfl ?_
    refine WL.both (t := 19) rfl (fun g19 => ?_) (fun g19 => ?_)
    · refine WL.on rfl rfl ?_
      refine WL.y (Yl.move rfl) rfl ?_
      refine WL.on rfl rfl ?_
      refine WL.y (Yl.move rfl) rfl ?_
      refine WL.on rfl rfl ?_
      refine WL.yield (xs := [.tmp 21]) (i := cntQ q i) hy rfl rfl (yiU_get (n := i) (by rw [hid]; exact cntQ_get q hil g19)) (by repeat (first | exact Take1.head | apply Take1.tail)) rfl ?_
      intro b22 T'
      refine WL.on rfl rfl ?_
      refine WL.y (Yl.not rfl) rfl ?_
      refine WL.y (Yl.pickT rfl rfl) rfl ?_
      refine WL.nil ?_
      refine WC.cond rfl (fun g24 => ?_) (fun g24 => ?_)
      · refine WC.ret ?_
        repeat (first | (with_reducible refine peelT ?_) | (with_reducible refine peelB ?_) | (with_reducible refine peelTX ?_) | (with_reducible refine peelBX ?_) | (with_reducible refine peelBN ?_) | (with_reducible refine peelBO rfl ?_))
        have hb : b22 = false := by simpa using g24
        subst hb
        simp only [Bool.false_eq_true, if_false]
        exact itStop (i := cntQ q i) (.inr rfl) Try.results62 (by repeat (first | exact Take1.head | apply Take1.tail)) (by rw [yiU_len, hid]; exact (List.getElem?_eq_some_iff.1 (cntQ_get q hil g19)).1)
      · refine WC.skip ?_
        refine WC.region ?_
        refine WL.y (Yl.add rfl rfl (IntWalk.i64_in _ (by omega))) rfl ?_
        refine WL.y (Yl.move rfl) rfl ?_
        refine WL.nil ?_
        have hb : b22 = true := by simpa using g24
        subst hb
        simp only [if_true]
        rw [g19, if_pos rfl] at hcn
        exact ⟨rfl, (i + 1, T'), by dsimp only; omega, by dsimp only; omega, (by repeat (first | exact Sub.nil | refine Sub.cons rfl ?_)), _, by dsimp only; rw [hcn]; exact (by repeat (first | exact TakeL.nil | (apply TakeL.cons; · repeat (first | exact Take1.head | apply Take1.tail))))⟩
    · refine WL.off rfl rfl rfl rfl ?_
      refine WL.off rfl rfl rfl rfl ?_
      refine WL.off rfl rfl rfl rfl ?_
      refine WL.off rfl rfl rfl rfl ?_
      refine WL.y (Yl.pickF rfl rfl) rfl ?_
      refine WL.nil ?_
      refine WC.condF rfl (by first | rfl | (simp; done) | (simp; omega)) ?_
      refine WC.skip ?_
      refine WC.region ?_
      refine WL.y (Yl.add rfl rfl (IntWalk.i64_in _ (by omega))) rfl ?_
      refine WL.y (Yl.move rfl) rfl ?_
      refine WL.nil ?_
      rw [g19, if_neg (by simp), Nat.add_zero] at hcn
      exact ⟨rfl, (i + 1, T), by dsimp only; omega, by dsimp only; omega, (by repeat (first | exact Sub.nil | refine Sub.cons rfl ?_)), _, by dsimp only; rw [hcn]; exact (by repeat (first | exact TakeL.nil | (apply TakeL.cons; · repeat (first | exact Take1.head | apply Take1.tail))))⟩
  · refine WC.exit ?_
    repeat (first | (with_reducible refine peelT ?_) | (with_reducible refine peelB ?_) | (with_reducible refine peelTX ?_) | (with_reducible refine peelBX ?_) | (with_reducible refine peelBN ?_) | (with_reducible refine peelBO rfl ?_))
    have hx : cntQ q i = (yiU (idleU p.rl)).length := by
      rw [hyl, hid, show i = p.rl.length by omega]
      rfl
    rw [hx]
    exact itEnd (.inl rfl) Try.results62 (by repeat (first | exact Take1.head | apply Take1.tail))
set_option maxRecDepth 100000 in
theorem idle1Nil_iter (b1 : Nat) (w : World) (hA : OK w (fpL [roR (blkR b1 33 [.pointer none])]) [roR (blkR b1 33 [.pointer none])] w) :
    Iter Try.prog 62 ([.pointer (some ⟨b1, 0, none⟩)] : List Value).toArray (fpL [roR (blkR b1 33 [.pointer none])]).rd (yiU []) w := by
  have hwr : ∀ r ∈ [roR (blkR b1 33 [.pointer none])], ∀ k, ¬ r.wr k := by
    intro r hr k hk
    simp at hr
    subst hr
    exact hk
  refine iter_of Try.func62 rfl Try.ntmps62 rfl hA hwr ?_
  intro l W g gx T0 hy
  refine WC.seq ?_
  refine WC.seq ?_
  refine WC.region ?_
  refine WL.y (Yl.loadRo on33 rfl (by repeat (first | exact Take1.head | apply Take1.tail)) (by rfl)) rfl ?_
  refine WL.y (Yl.nilEq un33 rfl rfl) rfl ?_
  refine WL.know (t := 6) (b' := true) rfl (by first | rfl | (simp; done) | (simp; omega)) ?_
  refine WL.nil ?_
  refine WC.condT rfl (by first | rfl | (simp; done) | (simp; omega)) ?_
  refine WC.ret ?_
  repeat (first | (with_reducible refine peelT ?_) | (with_reducible refine peelB ?_) | (with_reducible refine peelTX ?_) | (with_reducible refine peelBX ?_) | (with_reducible refine peelBN ?_) | (with_reducible refine peelBO rfl ?_))
  exact itEnd (.inr rfl) Try.results62 (by repeat (first | exact Take1.head | apply Take1.tail))
theorem idleNil_any (w : World) (hw : OK w (fpL []) [] w) :
    Fn Try.prog 39 [.pointer none] [] w (fun _ : Nat × (Nat → Prop) => True) (fun y => .func (.func 62) #[] #[.pointer (some ⟨y.1, 0, none⟩)]) (fun y => [itR Try.prog 62 [.pointer (some ⟨y.1, 0, none⟩)] y.2 (yiU [])]) := by
  refine enterF Try.func39 rfl Try.ntmps39 rfl hw ?_
  refine WC.seq ?_
  refine WC.region ?_
  refine WL.to (To.box (cs := [.pointer none]) rfl rfl) rfl ?_
  intro b1
  refine WL.y (Yl.assign rfl) rfl ?_
  refine WL.nil ?_
  refine WC.seq ?_
  refine WC.region ?_
  refine WL.y (Yl.makeFunc (xs := []) (ys := [.tmp 1]) rfl rfl) rfl ?_
  refine WL.y (Yl.assign rfl) rfl ?_
  refine WL.nil ?_
  refine WC.ret ?_
  repeat (first | (with_reducible refine peelT ?_) | (with_reducible refine peelB ?_) | (with_reducible refine peelTX ?_) | (with_reducible refine peelBX ?_) | (with_reducible refine peelBN ?_) | (with_reducible refine peelBO rfl ?_))
  refine ret1 (.inr rfl) Try.results39 rfl fun w' hh => ⟨(b1, (fpL [roR (blkR b1 33 [.pointer none])]).rd), trivial, rfl, ?_⟩
  have hA : OK w _ ([blkR b1 33 [.pointer none]] ++ []) w' := hh.sub (by repeat (first | exact TakeL.nil | (apply TakeL.cons; · repeat (first | exact Take1.head | apply Take1.tail))))
  have hro : OK w _ ([roR (blkR b1 33 [.pointer none])] ++ []) w' := hA.roOne .head
  exact hro.toIter (idle1Nil_iter b1 w' hro.here) (fun k hk => hk)
theorem idleP_any (b : Nat) (ao : Option Addr) (ca : Nat) (p : Po) (hp : p.ok) (w : World) (hw : OK w (fpL [roR (blkR b 80 (p.cells (.slice ao p.rl.length ca))), rdR (.slice ao p.rl.length ca) 5 p.rl.length (vcs ruV p.rl)]) [roR (blkR b 80 (p.cells (.slice ao p.rl.length ca))), rdR (.slice ao p.rl.length ca) 5 p.rl.length (vcs ruV p.rl)] w) :
    Fn Try.prog 39 [.pointer (some ⟨b, 0, none⟩)] [roR (blkR b 80 (p.cells (.slice ao p.rl.length ca))), rdR (.slice ao p.rl.length ca) 5 p.rl.length (vcs ruV p.rl)] w (fun _ : Nat × (Nat → Prop) => True) (fun y => .func (.func 62) #[] #[.pointer (some ⟨y.1, 0, none⟩)]) (fun y => [itR Try.prog 62 [.pointer (some ⟨y.1, 0, none⟩)] y.2 (yiU (idleU p.rl))]) := by
  refine enterF Try.func39 rfl Try.ntmps39 rfl hw ?_
  refine WC.seq ?_
  refine WC.region ?_
  refine WL.to (To.box (cs := [.pointer (some ⟨b, 0, none⟩)]) rfl rfl) rfl ?_
  intro b1
  refine WL.y (Yl.assign rfl) rfl ?_
  refine WL.nil ?_
  refine WC.seq ?_
  refine WC.region ?_
  refine WL.y (Yl.makeFunc (xs := []) (ys := [.tmp 1]) rfl rfl) rfl ?_
  refine WL.y (Yl.assign rfl) rfl ?_
  refine WL.nil ?_
  refine WC.ret ?_
  repeat (first | (with_reducible refine peelT ?_) | (with_reducible refine peelB ?_) | (with_reducible refine peelTX ?_) | (with_reducible refine peelBX ?_) | (with_reducible refine peelBN ?_) | (with_reducible refine peelBO rfl ?_))
  refine ret1 (.inr rfl) Try.results39 rfl fun w' hh => ⟨(b1, (fpL [roR (blkR b1 33 [.pointer (some ⟨b, 0, none⟩)]), roR (blkR b 80 (p.cells (.slice ao p.rl.length ca))), rdR (.slice ao p.rl.length ca) 5 p.rl.length (vcs ruV p.rl)]).rd), trivial, rfl, ?_⟩
  have hA : OK w _ ([blkR b1 33 [.pointer (some ⟨b, 0, none⟩)], roR (blkR b 80 (p.cells (.slice ao p.rl.length ca))), rdR (.slice ao p.rl.length ca) 5 p.rl.length (vcs ruV p.rl)] ++ []) w' := hh.sub (by repeat (first | exact TakeL.nil | (apply TakeL.cons; · repeat (first | exact Take1.head | apply Take1.tail))))
  have hro : OK w _ ([roR (blkR b1 33 [.pointer (some ⟨b, 0, none⟩)]), roR (blkR b 80 (p.cells (.slice ao p.rl.length ca))), rdR (.slice ao p.rl.length ca) 5 p.rl.length (vcs ruV p.rl)] ++ []) w' := hA.roOne .head
  exact hro.toIter (idle1_iter b1 b ao ca p hp w' hro.here) (fun k hk => hk)
set_option maxRecDepth 100000 in
theorem appI_any (gf : Nat) (lb : List Value) (own : Nat → Prop) (ns : List Nat) (hl : ns.length ≤ 1000000) (eg : ∀ args w, (callFunc gf args).run Try.prog w = .ok (.enter gf args) w) (w : World) (hw : OK w (fpL [itR Try.prog gf lb own (yiU ns)]) [itR Try.prog gf lb own (yiU ns)] w) :
    Fn Try.prog 64 [.slice none 0 0, .func (.func gf) #[] lb.toArray] [itR Try.prog gf lb own (yiU ns)] w (fun _ : Option Addr × Nat => True) (fun y => .slice y.1 ns.length y.2) (fun y => [ownR (.slice y.1 ns.length y.2) 3 1 ns.length (ints .i64 (natI ns))]) := by
  refine enterM Try.func64 rfl Try.ntmps64 rfl hw ?_
  refine WC.seq ?_
  refine WC.region ?_
  refine WL.to (To.box (cs := [.slice none 0 0]) rfl rfl) rfl ?_
  intro b2
  refine WL.y (Yl.assign rfl) rfl ?_
  refine WL.nil ?_
  refine WC.seq ?_
  refine WC.seq ?_
  refine WC.region ?_
  refine WL.y (Yl.move rfl) rfl ?_
  refine WL.nil ?_
  refine WC.block ?_
  refine WC.view (fun w h => h.addNil 3 1) ?_
  refine WC.range (α := Option Addr × Nat) (lb := lb) (xs := yiU ns) (fun i s => [blkR b2 49 [.slice s.1 (ns.take i).length s.2], ownR (.slice s.1 (ns.take i).length s.2) 3 1 (ns.take i).length (ints .i64 (natI (ns.take i)))]) (fun _ _ => True) (none, 0) rfl eg yiU_size rfl (by repeat (first | exact Take1.head | apply Take1.tail)) trivial (by repeat (first | exact TakeL.nil | (apply TakeL.cons; · repeat (first | exact Take1.head | apply Take1.tail)))) ?_ ?_
  · rintro l2 i x ⟨ao, ca⟩ hx - W
    dsimp only
    obtain ⟨x, hx0, rfl⟩ := yiU_at hx
    have hil := (List.getElem?_eq_some_iff.1 hx0).1
    have hnx : ns.take (i + 1) = ns.take i ++ [x] := (take_snoc _ _ _ hx0).symm
    have htl : (ns.take i).length = i := by rw [List.length_take]; omega
    show WC _ _ _ ((7, .int .i64 (x : Int)) :: _) _ _
    refine WC.region ?_
    refine WL.y (Yl.assign rfl) rfl ?_
    refine WL.nil ?_
    repeat (first | (with_reducible refine peelT ?_) | (with_reducible refine peelB ?_) | (with_reducible refine peelTX ?_) | (with_reducible refine peelBX ?_) | (with_reducible refine peelBN ?_) | (with_reducible refine peelBO rfl ?_))
    refine fun W2 => ?_
    refine WC.block ?_
    refine WC.region ?_
    refine WL.y (Yl.load on49 rfl (by repeat (first | exact Take1.head | apply Take1.tail)) (by rfl)) rfl ?_
    refine WL.y (Yl.move rfl) rfl ?_
    refine WL.to (To.buildSlice (vs := [.int .i64 (x : Int)]) un49 zs3 rfl rfl (by simp [Value.cells]) (by decide) (by decide)) rfl ?_
    intro b10
    refine WL.to (To.append sl49 rfl rfl (by repeat (first | exact Take1.head | apply Take1.tail)) (Reads.of (RdOf.blk (size := 1) (n := 1) (cs := [.int .i64 (x : Int)]) (cs' := ints .i64 (natI [x])) (Nat.le_refl _) (by unfold maxLen; omega) (by simp) rfl) (by repeat (first | exact Take1.head | apply Take1.tail))) (ints_one _ _) (show (ns.take i).length + 1 = (ns.take (i + 1)).length by rw [hnx]; simp) (show ints .i64 (natI (ns.take i)) ++ ints .i64 (natI [x]) = ints .i64 (natI (ns.take (i + 1))) by rw [hnx, natI_app, ints_append]) (by rw [hnx]; simp; unfold maxLen; omega) (by rw [hnx]; simp; omega)) rfl ?_
    rintro ⟨⟨ao11, c11⟩, hc11⟩
    dsimp only at hc11 ⊢
    refine WL.sto (Sto.one sz49 rfl rfl (by repeat (first | exact Take1.head | apply Take1.tail)) rfl (by rfl) (by rfl)) (fun _ h => nomatch h) ?_
    refine WL.nil ?_
    repeat (first | (with_reducible refine peelT ?_) | (with_reducible refine peelB ?_) | (with_reducible refine peelTX ?_) | (with_reducible refine peelBX ?_) | (with_reducible refine peelBN ?_) | (with_reducible refine peelBO rfl ?_))
    exact ⟨[blkR b2 49 [.slice ao11 (ns.take (i + 1)).length c11], ownR (.slice ao11 (ns.take (i + 1)).length c11) 3 1 (ns.take (i + 1)).length (ints .i64 (natI (ns.take (i + 1))))], _, (by repeat (first | exact TakeL.nil | (apply TakeL.cons; · repeat (first | exact Take1.head | apply Take1.tail)))), (ao11, c11), trivial, rfl⟩
  · rintro ⟨ao, ca⟩ D -
    rw [yiU_len, List.take_length]
    dsimp only [List.cons_append, List.nil_append]
    refine WC.seq ?_
    refine WC.region ?_
    refine WL.y (Yl.load on49 rfl (by repeat (first | exact Take1.head | apply Take1.tail)) (by rfl)) rfl ?_
    refine WL.y (Yl.assign rfl) rfl ?_
    refine WL.nil ?_
    refine WC.ret ?_
    repeat (first | (with_reducible refine peelT ?_) | (with_reducible refine peelB ?_) | (with_reducible refine peelTX ?_) | (with_reducible refine peelBX ?_) | (with_reducible refine peelBN ?_) | (with_reducible refine peelBO rfl ?_))
    refine retM.of (.cons (by repeat (first | exact Take1.head | apply Take1.tail)) .nil) ?_
    exact ret1 (.inr rfl) Try.results64 rfl fun w' h => ⟨(ao, ca), trivial, rfl, h.sub (by repeat (first | exact TakeL.nil | (apply TakeL.cons; · repeat (first | exact Take1.head | apply Take1.tail))))⟩
theorem colI_any (gf : Nat) (lb : List Value) (own : Nat → Prop) (ns : List Nat) (hl : ns.length ≤ 1000000) (eg : ∀ args w, (callFunc gf args).run Try.prog w = .ok (.enter gf args) w) (w : World) (hw : OK w (fpL [itR Try.prog gf lb own (yiU ns)]) [itR Try.prog gf lb own (yiU ns)] w) :
    Fn Try.prog 40 [.func (.func gf) #[] lb.toArray] [itR Try.prog gf lb own (yiU ns)] w (fun _ : Option Addr × Nat => True) (fun y => .slice y.1 ns.length y.2) (fun y => [ownR (.slice y.1 ns.length y.2) 3 1 ns.length (ints .i64 (natI ns))]) := by
  refine enterF Try.func40 rfl Try.ntmps40 rfl hw ?_
  refine WC.seq ?_
  refine WC.region ?_
  refine WL.y (Yl.assign rfl) rfl ?_
  refine WL.nil ?_
  refine WC.seq ?_
  refine WC.region ?_
  refine WL.y (Yl.move rfl) rfl ?_
  refine WL.callC (xs := [_, .tmp 3]) (cap := []) rfl rfl en64 (by repeat (first | exact TakeL.nil | (apply TakeL.cons; · repeat (first | exact Take1.head | apply Take1.tail)))) (fun w hw => appI_any gf lb own ns hl eg w hw.left.here) rfl ?_
  rintro ⟨a4, c4⟩ -
  dsimp only [List.cons_append, List.nil_append]
  refine WL.y (Yl.assign rfl) rfl ?_
  refine WL.nil ?_
  refine WC.ret ?_
  repeat (first | (with_reducible refine peelT ?_) | (with_reducible refine peelB ?_) | (with_reducible refine peelTX ?_) | (with_reducible refine peelBX ?_) | (with_reducible refine peelBN ?_) | (with_reducible refine peelBO rfl ?_))
  exact ret1 (.inr rfl) Try.results40 rfl fun w' h => ⟨(a4, c4), trivial, rfl, h.sub (by repeat (first | exact TakeL.nil | (apply TakeL.cons; · repeat (first | exact Take1.head | apply Take1.tail))))⟩
theorem index_any (v : Value) (xs : List Int) (x : Int) (hl : xs.length ≤ 1000000) (w : World) (hx : RdS w (fpL []) v 1 xs.length (ints .i64 xs)) (hw : OK w (fpL []) [] w) :
    Fn Try.prog 65 [v, .int .i64 x] [] w (fun _ : Unit => True) (fun _ => .int .i64 (atI (xs.findIdx? fun y => decide (x = y)))) (fun _ => []) := by
  obtain ⟨ao, cap, rfl, hcl, hml⟩ := hx.rd.form
  refine enterF Try.func65 rfl Try.ntmps65 rfl hw ?_
  refine WC.seq ?_
  refine WC.region ?_
  refine WL.y (Yl.assign rfl) rfl ?_
  refine WL.nil ?_
  refine WC.seq ?_
  refine WC.seq ?_
  refine WC.region ?_
  refine WL.y (Yl.move rfl) rfl ?_
  refine WL.y (Yl.len un49 rfl) rfl ?_
  refine WL.y (Yl.move rfl) rfl ?_
  refine WL.nil ?_
  refine WC.block ?_
  refine WC.loop (α := Nat) (fun j => [(0, .slice ao xs.length cap), (1, .int .i64 x), (7, .int .i64 (xs.length : Int)), (8, .int .i64 (j : Int))]) (fun _ => []) (fun j => j ≤ xs.length ∧ ∀ (k : Nat) y, k < j → xs[k]? = some y → ¬ x = y) (fun j => xs.length - j) 0 ⟨Nat.zero_le _, fun k x h => by omega⟩ ⟨(by repeat (first | exact Sub.nil | refine Sub.cons rfl ?_)), _, (by repeat (first | exact TakeL.nil | (apply TakeL.cons; · repeat (first | exact Take1.head | apply Take1.tail))))⟩ ?_
  rintro j ⟨hj, hno⟩
  refine WC.seq ?_
  refine WC.region ?_
  refine WL.y (Yl.lss rfl rfl) rfl ?_
  refine WL.nil ?_
  refine WC.seq ?_
  refine WC.condD rfl (fun g9 => ?_) (fun g9 => ?_)
  · refine WC.skip ?_
    refine WC.seq ?_
    refine WC.block ?_
    refine WC.seq ?_
    refine WC.region ?_
    refine WL.y (Yl.move rfl) rfl ?_
    refine WL.y (Yl.assign rfl) rfl ?_
    refine WL.nil ?_
    refine WC.seq ?_
    refine WC.region ?_
    refine WL.y (Yl.move rfl) rfl ?_
    refine WL.y (Yl.move rfl) rfl ?_
    refine WL.y (Yl.move rfl) rfl ?_
    obtain ⟨y, hy0⟩ : ∃ y, xs[j]? = some y := ⟨_, List.getElem?_eq_getElem (by omega)⟩
    refine WL.y (Yl.index un49 sz3 rfl rfl (Reads.s hx) rfl (by omega)) rfl ?_
    refine WL.y (Yl.loadE (j := j) on3 rfl (Reads.s hx) (u := .int .i64 y) (by simp [ints, hy0])) rfl ?_
    refine WL.y (Yl.eql rfl rfl) rfl ?_
    refine WL.nil ?_
    refine WC.condD rfl (fun g16 => ?_) (fun g16 => ?_)
    · refine WC.seq ?_
      refine WC.region ?_
      refine WL.y (Yl.move rfl) rfl ?_
      refine WL.y (Yl.assign rfl) rfl ?_
      refine WL.nil ?_
      refine WC.ret ?_
      repeat (first | (with_reducible refine peelT ?_) | (with_reducible refine peelB ?_) | (with_reducible refine peelTX ?_) | (with_reducible refine peelBX ?_) | (with_reducible refine peelBN ?_) | (with_reducible refine peelBO rfl ?_))
      obtain ⟨hjl, hje⟩ := List.getElem?_eq_some_iff.1 hy0
      have e : (xs.findIdx? fun y => decide (x = y)) = some j := List.findIdx?_eq_some_iff_getElem.2 ⟨hjl, by rw [hje]; simpa using g16, fun k hk => by
        have := hno k _ hk (List.getElem?_eq_getElem (by omega))
        simpa using this⟩
      rw [e]
      exact ret1 (.inr rfl) Try.results65 rfl fun w' h => ⟨(), trivial, rfl, h.sub (by repeat (first | exact TakeL.nil | (apply TakeL.cons; · repeat (first | exact Take1.head | apply Take1.tail))))⟩
    · refine WC.skip ?_
      refine WC.region ?_
      refine WL.y (Yl.add rfl rfl (IntWalk.i64_in _ (by omega))) rfl ?_
      refine WL.y (Yl.move rfl) rfl ?_
      refine WL.nil ?_
      exact ⟨rfl, j + 1, ⟨by omega, fun k y hk hy => by
        by_cases e : k = j
        · subst e
          rw [hy0] at hy
          cases hy
          simpa using g16
        · exact hno k y (by omega) hy⟩, by omega, (by repeat (first | exact Sub.nil | refine Sub.cons rfl ?_)), _, (by repeat (first | exact TakeL.nil | (apply TakeL.cons; · repeat (first | exact Take1.head | apply Take1.tail))))⟩
  · refine WC.exit ?_
    refine WC.seq ?_
    refine WC.region ?_
    refine WL.y (Yl.assign rfl) rfl ?_
    refine WL.nil ?_
    refine WC.ret ?_
    repeat (first | (with_reducible refine peelT ?_) | (with_reducible refine peelB ?_) | (with_reducible refine peelTX ?_) | (with_reducible refine peelBX ?_) | (with_reducible refine peelBN ?_) | (with_reducible refine peelBO rfl ?_))
    have e : (xs.findIdx? fun y => decide (x = y)) = none := List.findIdx?_eq_none_iff.2 fun y hy => by
      obtain ⟨k, hk⟩ := List.mem_iff_getElem?.1 hy
      have := hno k y (by have := (List.getElem?_eq_some_iff.1 hk).1; omega) hk
      simpa using this
    rw [e]
    exact ret1 (.inr rfl) Try.results65 rfl fun w' h => ⟨(), trivial, rfl, h.sub (by repeat (first | exact TakeL.nil | (apply TakeL.cons; · repeat (first | exact Take1.head | apply Take1.tail))))⟩
theorem contains_any (v : Value) (xs : List Int) (x : Int) (hl : xs.length ≤ 1000000) (w : World) (hx : RdS w (fpL []) v 1 xs.length (ints .i64 xs)) (hw : OK w (fpL []) [] w) :
    Fn Try.prog 41 [v, .int .i64 x] [] w (fun _ : Unit => True) (fun _ => .bool (decide (x ∈ xs))) (fun _ => []) := by
  have e : decide (0 ≤ atI (xs.findIdx? fun y => decide (x = y))) = decide (x ∈ xs) := by
    refine decide_eq_decide.2 ?_
    cases h : xs.findIdx? fun y => decide (x = y) with
    | none =>
      have := List.findIdx?_eq_none_iff.1 h
      constructor
      · intro h2
        have : (0 : Int) ≤ -1 := h2
        omega
      · intro h2
        have := this x h2
        simp at this
    | some i =>
      obtain ⟨hi, h1, _⟩ := List.findIdx?_eq_some_iff_getElem.1 h
      refine ⟨fun _ => ?_, fun _ => Int.natCast_nonneg i⟩
      have : x = xs[i] := by simpa using h1
      rw [this]
      exact List.getElem_mem hi
  refine enterF Try.func41 rfl Try.ntmps41 rfl hw ?_
  refine WC.seq ?_
  refine WC.region ?_
  refine WL.y (Yl.assign rfl) rfl ?_
  refine WL.nil ?_
  refine WC.seq ?_
  refine WC.region ?_
  refine WL.y (Yl.move rfl) rfl ?_
  refine WL.y (Yl.move rfl) rfl ?_
  refine WL.callC (xs := [.tmp 5, .tmp 6]) (cap := []) rfl rfl en65 (by repeat (first | exact TakeL.nil | (apply TakeL.cons; · repeat (first | exact Take1.head | apply Take1.tail)))) (fun w hw => index_any v xs x hl w (hw.srcS (A := []) hx) hw.left.here) rfl ?_
  rintro ⟨⟩ -
  refine WL.y (Yl.geq rfl rfl) rfl ?_
  refine WL.y (Yl.assign rfl) rfl ?_
  refine WL.nil ?_
  refine WC.ret ?_
  repeat (first | (with_reducible refine peelT ?_) | (with_reducible refine peelB ?_) | (with_reducible refine peelTX ?_) | (with_reducible refine peelBX ?_) | (with_reducible refine peelBN ?_) | (with_reducible refine peelBO rfl ?_))
  exact ret1 (.inr rfl) Try.results41 rfl fun w' h => ⟨(), trivial, (by rw [← e]), h.sub (by repeat (first | exact TakeL.nil | (apply TakeL.cons; · repeat (first | exact Take1.head | apply Take1.tail))))⟩
end Go.Proofs.Ytnlibngncicobaa
