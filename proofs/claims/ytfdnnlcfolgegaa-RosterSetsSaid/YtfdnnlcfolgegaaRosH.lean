/- Rosters: who came, gone over; whether one follows another: the walks. -/
import Derived.Test.YtfdnnlcfolgegaaRosG
import Derived.Test.YtfdnnlcfolgegaaLibJ
namespace Go.Proofs.Ytfdnnlcfolgegaa
open Go Go.RowKit

def cameF (ms ns : List Dv) : List Dv := ns.filter fun d => !inF ms d
def cameYs (ms ns : List Dv) : List (Array Value) := (cameF ms ns).map fun d => #[d.val]
theorem cameYs_size {ms ns : List Dv} : ∀ x ∈ cameYs ms ns, x.size = 1 := by
  intro x hx
  obtain ⟨d, _, rfl⟩ := List.mem_map.1 hx
  rfl
theorem came_step {ms ns : List Dv} {j : Nat} {d : Dv} (h : ns[j]? = some d) : cameF ms (ns.take (j + 1)) = if inF ms d then cameF ms (ns.take j) else cameF ms (ns.take j) ++ [d] := by
  rw [← take_snoc _ _ _ h]
  unfold cameF
  rw [List.filter_append]
  cases hh : inF ms d <;> simp [hh]
theorem came_get {ms ns : List Dv} {j : Nat} {d : Dv} (h : ns[j]? = some d) (hn : inF ms d = false) : (cameYs ms ns)[(cameF ms (ns.take j)).length]? = some #[d.val] := by
  have e : cameF ms ns = cameF ms (ns.take j) ++ d :: cameF ms (ns.drop (j + 1)) := by
    obtain ⟨q1, q2⟩ := List.getElem?_eq_some_iff.1 h
    conv => lhs; rw [← List.take_append_drop j ns, List.drop_eq_getElem_cons q1, q2]
    unfold cameF
    rw [List.filter_append, List.filter_cons, hn]; rfl
  unfold cameYs
  rw [e, List.map_append, List.getElem?_append_right (by simp)]
  simp
theorem came1_iter (r q : Rs) (ms ns : List Dv) (hg : r.g.length = 16) (hg2 : q.g.length = 16) (h1 : DOk ms) (h2 : DOk ns) (hl : ms.length ≤ 1099511627776) (hl2 : ns.length ≤ 1099511627776) (bn bo : Nat) (w : World)
    (hA : OK w (fpL [roR (blkR bn 27 q.cells), roR (blkR bo 27 r.cells), rdR r.v 2 ms.length (vcs Dv.val ms), rdR q.v 2 ns.length (vcs Dv.val ns)]) [roR (blkR bn 27 q.cells), roR (blkR bo 27 r.cells), rdR r.v 2 ms.length (vcs Dv.val ms), rdR q.v 2 ns.length (vcs Dv.val ns)] w) :
    Iter Try.prog 59 ([.pointer (some ⟨bn, 0, none⟩), .pointer (some ⟨bo, 0, none⟩)] : List Value).toArray (fpL [roR (blkR bn 27 q.cells), roR (blkR bo 27 r.cells), rdR r.v 2 ms.length (vcs Dv.val ms), rdR q.v 2 ns.length (vcs Dv.val ns)]).rd (cameYs ms ns) w := by
  obtain ⟨ao, cap, hv, hcap, hml⟩ := (hA.get (.tail (.tail (.tail .head)))).form
  have a17 := Rs.at17 hg2
  have hwr : ∀ s ∈ [roR (blkR bn 27 q.cells), roR (blkR bo 27 r.cells), rdR r.v 2 ms.length (vcs Dv.val ms), rdR q.v 2 ns.length (vcs Dv.val ns)], ∀ k, ¬ s.wr k := by
    intro s hs k hk
    simp at hs
    rcases hs with rfl | rfl | rfl | rfl <;> exact hk
  refine iter_of Try.func59 rfl Try.ntmps59 rfl hA hwr ?_
  intro l W g gx T0 hy
  refine WC.seq ?_
  refine WC.region ?_
  refine WL.y (Yl.field fo27_2 rfl) rfl ?_ -- t6
  refine WL.y (Yl.loadRo on25 rfl (by repeat (first | exact Take1.head | apply Take1.tail)) a17) rfl ?_
  rw [hv]
  refine WL.y (Yl.len un25 rfl) rfl ?_ -- t8
  refine WL.y (Yl.move rfl) rfl ?_ -- t9
  refine WL.nil ?_
  refine WC.block ?_
  refine WC.loop (α := Nat × (Nat → Prop)) (fun x => [(0, .func (.yield l) #[] #[]), (2, .pointer (some ⟨bo, 0, none⟩)), (7, .slice ao ns.length cap), (8, .int .i64 (ns.length : Int)), (9, .int .i64 (x.1 : Int))]) (fun x => [gstR g (cameF ms (ns.take x.1)).length x.2, roR (blkR bn 27 q.cells), roR (blkR bo 27 r.cells), rdR r.v 2 ms.length (vcs Dv.val ms), rdR (.slice ao ns.length cap) 2 ns.length (vcs Dv.val ns)]) (fun x => x.1 ≤ ns.length) (fun x => ns.length - x.1) (0, T0) (Nat.zero_le _) ⟨(by repeat (first | exact Sub.nil | refine Sub.cons rfl ?_)), _, (by repeat (first | exact TakeL.nil | (apply TakeL.cons; · repeat (first | exact Take1.head | apply Take1.tail))))⟩ ?_
  rintro ⟨j, T⟩ hj
  dsimp only at hj ⊢
  refine WC.seq ?_
  refine WC.region ?_
  refine WL.y (Yl.lss rfl rfl) rfl ?_ -- t10
  refine WL.nil ?_
  refine WC.seq ?_
  refine WC.condD rfl (fun g10 => ?_) (fun g10 => ?_)
  · refine WC.skip ?_
    refine WC.seq ?_
    refine WC.block ?_
    refine WC.seq ?_
    refine WC.region ?_
    obtain ⟨d, hdd⟩ : ∃ d, ns[j]? = some d := ⟨_, List.getElem?_eq_getElem (by omega)⟩
    have hdo := h2 d (List.mem_of_getElem? hdd)
    have hstep := came_step (ms := ms) hdd
    refine WL.y (Yl.index un25 sz31 rfl rfl (Reads.of RdOf.rd' (by repeat (first | exact Take1.head | apply Take1.tail))) rfl (by omega)) rfl ?_ -- t11
    refine WL.y (Yl.loadV (j := j) (u := d) dvV dvAll rfl (Reads.of RdOf.rd' (by repeat (first | exact Take1.head | apply Take1.tail))) rfl hdd) rfl ?_
    refine WL.to (To.alloc (cs := d0.cells) zr31 rfl) rfl ?_ -- t5
    intro b5
    refine WL.sto (Sto.agg sz31 rfl rfl (by repeat (first | exact Take1.head | apply Take1.tail)) (Dv.ones d) rfl (by rfl) (show _ = d.cells from rfl)) (fun _ h => nomatch h) ?_ -- st 1
    refine WL.nil ?_
    refine WC.seq ?_
    refine WC.region ?_
    refine WL.y (Yl.loadNRo ag27 rfl (by repeat (first | exact Take1.head | apply Take1.tail)) (by rw [Rs.len18 hg]; rfl) (show (r.cells.drop 0).take 18 = r.cells by rw [List.drop_zero, List.take_of_length_le (by rw [Rs.len18 hg]; omega)])) rfl ?_
    refine WL.y (Yl.loadN ag31 rfl (by repeat (first | exact Take1.head | apply Take1.tail)) (by rfl) (by rfl)) rfl ?_ -- t14
    refine WL.callC (xs := [.tmp 13, .tmp 14]) (cap := []) rfl rfl en23 (by repeat (first | exact TakeL.nil | (apply TakeL.cons; · repeat (first | exact Take1.head | apply Take1.tail)))) (fun w hw => has_any r ms d hg hl h1 hdo w (hw.src (A := []) RdOf.rd' (by repeat (first | exact Take1.head | apply Take1.tail))) hw.left.here) rfl ?_ -- t15 hailer/roster.Has
    rintro ⟨⟩ -
    refine WL.y (Yl.not rfl) rfl ?_ -- t16
    refine WL.y (Yl.move rfl) rfl ?_ -- t17
    refine WL.both (t := 17) rfl (fun g17 => ?_) (fun g17 => ?_)
    · refine WL.on rfl rfl ?_
      have hnin : inF ms d = false := by simpa using g17
      refine WL.y (Yl.move rfl) rfl ?_ -- t18
      refine WL.on rfl rfl ?_
      refine WL.y (Yl.loadN ag31 rfl (by repeat (first | exact Take1.head | apply Take1.tail)) (by rfl) (by rfl)) rfl ?_ -- t19
      refine WL.on rfl rfl ?_
      refine WL.yield (xs := [.tmp 19]) (i := (cameF ms (ns.take j)).length) hy rfl rfl (came_get hdd hnin) (by repeat (first | exact Take1.head | apply Take1.tail)) rfl ?_
      intro b20 T'
      refine WL.on rfl rfl ?_
      refine WL.y (Yl.not rfl) rfl ?_ -- t21
      refine WL.y (Yl.pickT rfl rfl) rfl ?_ -- t22
      refine WL.nil ?_
      refine WC.cond rfl (fun g22 => ?_) (fun g22 => ?_)
      · refine WC.ret ?_
        repeat (first | (with_reducible refine peelT ?_) | (with_reducible refine peelB ?_) | (with_reducible refine peelTX ?_) | (with_reducible refine peelBX ?_) | (with_reducible refine peelBN ?_) | (with_reducible refine peelBO rfl ?_))
        have hb : b20 = false := by simpa using g22
        subst hb
        simp only [Bool.false_eq_true, if_false]
        exact itStop (i := (cameF ms (ns.take j)).length) (.inr rfl) Try.results59 (by repeat (first | exact Take1.head | apply Take1.tail)) (List.getElem?_eq_some_iff.1 (came_get hdd hnin)).1
      · refine WC.skip ?_
        refine WC.region ?_
        refine WL.y (Yl.add rfl rfl (IntWalk.i64_in _ (by omega))) rfl ?_ -- t23
        refine WL.y (Yl.move rfl) rfl ?_ -- t9
        refine WL.nil ?_
        have hb : b20 = true := by simpa using g22
        subst hb
        simp only [if_true]
        refine ⟨rfl, (j + 1, T'), by dsimp only; omega, by dsimp only; omega, (by repeat (first | exact Sub.nil | refine Sub.cons rfl ?_)), ?_⟩
        dsimp only
        rw [hstep, hnin]
        simp only [Bool.false_eq_true, if_false, List.length_append, List.length_singleton]
        exact ⟨_, (by repeat (first | exact TakeL.nil | (apply TakeL.cons; · repeat (first | exact Take1.head | apply Take1.tail))))⟩
    · refine WL.off rfl rfl rfl rfl ?_ -- t18
      refine WL.off rfl rfl rfl rfl ?_ -- t19
      refine WL.off rfl rfl rfl rfl ?_ -- t20
      refine WL.off rfl rfl rfl rfl ?_ -- t21
      refine WL.y (Yl.pickF rfl rfl) rfl ?_ -- t22
      refine WL.nil ?_
      refine WC.condF rfl (by first | rfl | (simp; done) | (simp; omega)) ?_
      refine WC.skip ?_
      refine WC.region ?_
      refine WL.y (Yl.add rfl rfl (IntWalk.i64_in _ (by omega))) rfl ?_ -- t23
      refine WL.y (Yl.move rfl) rfl ?_ -- t9
      refine WL.nil ?_
      have hin : inF ms d = true := by simpa using g17
      refine ⟨rfl, (j + 1, T), by dsimp only; omega, by dsimp only; omega, (by repeat (first | exact Sub.nil | refine Sub.cons rfl ?_)), ?_⟩
      dsimp only
      rw [hstep, hin]
      simp only [if_true]
      exact ⟨_, (by repeat (first | exact TakeL.nil | (apply TakeL.cons; · repeat (first | exact Take1.head | apply Take1.tail))))⟩
  · refine WC.exit ?_
    repeat (first | (with_reducible refine peelT ?_) | (with_reducible refine peelB ?_) | (with_reducible refine peelTX ?_) | (with_reducible refine peelBX ?_) | (with_reducible refine peelBN ?_) | (with_reducible refine peelBO rfl ?_))
    have hjn : j = ns.length := by omega
    subst hjn
    rw [List.take_length]
    rw [show (cameF ms ns).length = (cameYs ms ns).length by simp [cameYs]]
    exact itEnd (.inl rfl) Try.results59 (by repeat (first | exact Take1.head | apply Take1.tail))
theorem came_any (r q : Rs) (ms ns : List Dv) (hg : r.g.length = 16) (hg2 : q.g.length = 16) (h1 : DOk ms) (h2 : DOk ns) (hl : ms.length ≤ 1099511627776) (hl2 : ns.length ≤ 1099511627776) (w : World)
    (hw : OK w (fpL [rdR r.v 2 ms.length (vcs Dv.val ms), rdR q.v 2 ns.length (vcs Dv.val ns)]) [rdR r.v 2 ms.length (vcs Dv.val ms), rdR q.v 2 ns.length (vcs Dv.val ns)] w) :
    Fn Try.prog 41 [.agg r.cells.toArray, .agg q.cells.toArray] [rdR r.v 2 ms.length (vcs Dv.val ms), rdR q.v 2 ns.length (vcs Dv.val ns)] w (fun _ : Nat × Nat × (Nat → Prop) => True) (fun y => .func (.func 59) #[] #[.pointer (some ⟨y.1, 0, none⟩), .pointer (some ⟨y.2.1, 0, none⟩)])
      (fun y => [itR Try.prog 59 [.pointer (some ⟨y.1, 0, none⟩), .pointer (some ⟨y.2.1, 0, none⟩)] y.2.2 (cameYs ms ns)]) := by
  refine enterF Try.func41 rfl Try.ntmps41 rfl hw ?_
  refine WC.seq ?_
  refine WC.region ?_
  refine WL.to (To.box (cs := r.cells) rfl rfl) rfl ?_ -- t2
  intro b2
  refine WL.to (To.box (cs := q.cells) rfl rfl) rfl ?_ -- t3
  intro b3
  refine WL.y (Yl.assign rfl) rfl ?_ -- t4
  refine WL.nil ?_
  refine WC.seq ?_
  refine WC.region ?_
  refine WL.y (Yl.makeFunc (xs := []) (ys := [.tmp 3, .tmp 2]) rfl rfl) rfl ?_ -- t5
  refine WL.y (Yl.assign rfl) rfl ?_ -- t4
  refine WL.nil ?_
  refine WC.ret ?_
  repeat (first | (with_reducible refine peelT ?_) | (with_reducible refine peelB ?_) | (with_reducible refine peelTX ?_) | (with_reducible refine peelBX ?_) | (with_reducible refine peelBN ?_) | (with_reducible refine peelBO rfl ?_))
  refine ret1 (.inr rfl) Try.results41 rfl fun w' hh => ⟨(b3, b2, (fpL [roR (blkR b3 27 q.cells), roR (blkR b2 27 r.cells), rdR r.v 2 ms.length (vcs Dv.val ms), rdR q.v 2 ns.length (vcs Dv.val ns)]).rd), trivial, rfl, ?_⟩
  have hA : OK w _ ([blkR b3 27 q.cells, blkR b2 27 r.cells, rdR r.v 2 ms.length (vcs Dv.val ms), rdR q.v 2 ns.length (vcs Dv.val ns)] ++ []) w' := hh.sub (by repeat (first | exact TakeL.nil | (apply TakeL.cons; · repeat (first | exact Take1.head | apply Take1.tail))))
  exact hA.toIter (came1_iter r q ms ns hg hg2 h1 h2 hl hl2 b3 b2 w' hA.freeze.here) (fun k hk => rd_freeze (A := [blkR b3 27 q.cells, blkR b2 27 r.cells, rdR r.v 2 ms.length (vcs Dv.val ms), rdR q.v 2 ns.length (vcs Dv.val ns)]) hk)
theorem some_any (gf : FuncId) (hen : ∀ args w, (callFunc gf args).run Try.prog w = .ok (.enter gf args) w) (lb : List Value) (own : Nat → Prop) (xs : List (Array Value)) (hs : ∀ x ∈ xs, x.size = 1) (w : World) (hw : OK w (fpL [itR Try.prog gf lb own xs]) [itR Try.prog gf lb own xs] w) :
    Fn Try.prog 40 [.func (.func gf) #[] lb.toArray] [itR Try.prog gf lb own xs] w (fun _ : Unit => True) (fun _ => .bool (!xs.isEmpty)) (fun _ => []) := by
  refine enterM Try.func40 rfl Try.ntmps40 rfl hw ?_
  refine WC.seq ?_
  refine WC.region ?_
  refine WL.to (To.alloc zr4 rfl) rfl ?_ -- t2
  intro b2
  refine WL.nil ?_
  refine WC.seq ?_
  refine WC.seq ?_
  refine WC.region ?_
  refine WL.y (Yl.move rfl) rfl ?_ -- t3
  refine WL.nil ?_
  refine WC.block ?_
  refine WC.range (α := Unit) (xs := xs) (fun i _ => [blkR b2 4 [.bool false]]) (fun i _ => i = 0) () rfl hen hs rfl (by repeat (first | exact Take1.head | apply Take1.tail)) rfl (by repeat (first | exact TakeL.nil | (apply TakeL.cons; · repeat (first | exact Take1.head | apply Take1.tail)))) ?_ ?_
  · intro l i x _ hx _ W
    obtain ⟨v, rfl⟩ : ∃ v, x = #[v] := by
      rcases x with ⟨l⟩
      have := hs _ (List.mem_of_getElem? hx)
      match l, this with
      | [v], _ => exact ⟨v, rfl⟩
    show WC _ _ _ ((4, v) :: _) _ _
    refine WC.skip ?_
    repeat (first | (with_reducible refine peelT ?_) | (with_reducible refine peelB ?_) | (with_reducible refine peelTX ?_) | (with_reducible refine peelBX ?_) | (with_reducible refine peelBN ?_) | (with_reducible refine peelBO rfl ?_))
    refine fun W2 => ?_
    refine WC.block ?_
    refine WC.seq ?_
    refine WC.region ?_
    refine WL.sto (Sto.one sz4 rfl rfl (by repeat (first | exact Take1.head | apply Take1.tail)) rfl (by rfl) (by rfl)) (fun _ h => nomatch h) ?_ -- st 1
    refine WL.nil ?_
    refine WC.ret ?_
    repeat (first | (with_reducible refine peelT ?_) | (with_reducible refine peelB ?_) | (with_reducible refine peelTX ?_) | (with_reducible refine peelBX ?_) | (with_reducible refine peelBN ?_) | (with_reducible refine peelBO rfl ?_))
    have hne : xs.isEmpty = false := by cases xs with
      | nil => simp at hx
      | cons _ _ => rfl
    refine ⟨[blkR b2 4 [.bool true]], _, (by repeat (first | exact TakeL.nil | (apply TakeL.cons; · repeat (first | exact Take1.head | apply Take1.tail)))), fun D => ?_⟩
    dsimp only [List.cons_append, List.nil_append]
    repeat (first | (with_reducible refine peelT ?_) | (with_reducible refine peelB ?_) | (with_reducible refine peelTX ?_) | (with_reducible refine peelBX ?_) | (with_reducible refine peelBN ?_) | (with_reducible refine peelBO rfl ?_))
    refine retM.of (.cons (by repeat (first | exact Take1.head | apply Take1.tail)) .nil) ?_
    first
    | exact retV1 (.inr rfl) Try.results40 on4 rfl (by repeat (first | exact Take1.head | apply Take1.tail)) fun w' h => ⟨(), trivial, by rw [hne]; rfl, h.sub (by repeat (first | exact TakeL.nil | (apply TakeL.cons; · repeat (first | exact Take1.head | apply Take1.tail))))⟩
    | exact retV1 (.inr rfl) Try.results40 on4 rfl (by repeat (first | exact Take1.head | apply Take1.tail)) fun w' h => ⟨(), trivial, by rw [List.eq_nil_of_length_eq_zero hs0]; rfl, h.sub (by repeat (first | exact TakeL.nil | (apply TakeL.cons; · repeat (first | exact Take1.head | apply Take1.tail))))⟩
  · rintro _ D hs0
    dsimp only [List.cons_append, List.nil_append]
    refine WC.seq ?_
    refine WC.region ?_
    refine WL.sto (Sto.one sz4 rfl rfl (by repeat (first | exact Take1.head | apply Take1.tail)) rfl (by rfl) (by rfl)) (fun _ h => nomatch h) ?_ -- st 2
    refine WL.nil ?_
    refine WC.ret ?_
    repeat (first | (with_reducible refine peelT ?_) | (with_reducible refine peelB ?_) | (with_reducible refine peelTX ?_) | (with_reducible refine peelBX ?_) | (with_reducible refine peelBN ?_) | (with_reducible refine peelBO rfl ?_))
    refine retM.of (.cons (by repeat (first | exact Take1.head | apply Take1.tail)) .nil) ?_
    first
    | exact retV1 (.inr rfl) Try.results40 on4 rfl (by repeat (first | exact Take1.head | apply Take1.tail)) fun w' h => ⟨(), trivial, by rw [hne]; rfl, h.sub (by repeat (first | exact TakeL.nil | (apply TakeL.cons; · repeat (first | exact Take1.head | apply Take1.tail))))⟩
    | exact retV1 (.inr rfl) Try.results40 on4 rfl (by repeat (first | exact Take1.head | apply Take1.tail)) fun w' h => ⟨(), trivial, by rw [List.eq_nil_of_length_eq_zero hs0]; rfl, h.sub (by repeat (first | exact TakeL.nil | (apply TakeL.cons; · repeat (first | exact Take1.head | apply Take1.tail))))⟩
def folF (r q : Rs) (ms ns : List Dv) : Bool := mayF r.e ms && mayF q.e ns && decide (r.g = q.g) && decide (q.e = r.e + 1) && (!(cameYs ms ns).isEmpty || !(cameYs ns ms).isEmpty)
set_option maxRecDepth 100000 in
theorem follows_any (r q : Rs) (ms ns : List Dv) (hr : r.ok) (hq : q.ok) (h1 : DOk ms) (h2 : DOk ns) (hl : ms.length ≤ 1099511627776) (hl2 : ns.length ≤ 1099511627776) (w : World)
    (hw : OK w (fpL [rdR r.v 2 ms.length (vcs Dv.val ms), rdR q.v 2 ns.length (vcs Dv.val ns)]) [rdR r.v 2 ms.length (vcs Dv.val ms), rdR q.v 2 ns.length (vcs Dv.val ns)] w) :
    Fn Try.prog 14 [.agg r.cells.toArray, .agg q.cells.toArray] [rdR r.v 2 ms.length (vcs Dv.val ms), rdR q.v 2 ns.length (vcs Dv.val ns)] w (fun _ : Unit => True) (fun _ => .bool (folF r q ms ns)) (fun _ => [rdR r.v 2 ms.length (vcs Dv.val ms), rdR q.v 2 ns.length (vcs Dv.val ns)]) := by
  have hg := hr.len
  have hg2 := hq.len
  have a16 := Rs.at16 hg
  have b16 := Rs.at16 hg2
  have rall : ∀ {r : Rs}, r.g.length = 16 → (r.cells.drop 0).take 18 = r.cells := fun hg => by rw [List.drop_zero, List.take_of_length_le (by rw [Rs.len18 hg]; omega)]
  refine enterF Try.func14 rfl Try.ntmps14 rfl hw ?_
  refine WC.seq ?_
  refine WC.region ?_
  refine WL.to (To.box (cs := r.cells) rfl rfl) rfl ?_ -- t2
  intro b2
  refine WL.to (To.box (cs := q.cells) rfl rfl) rfl ?_ -- t3
  intro b3
  refine WL.y (Yl.assign rfl) rfl ?_ -- t4
  refine WL.nil ?_
  refine WC.seq ?_
  refine WC.region ?_
  refine WL.view (fun w h => h.dup (r := rdR r.v 2 ms.length (vcs Dv.val ms)) (by repeat (first | exact Take1.head | apply Take1.tail)) (fun k hk => hk)) ?_
  refine WL.view (fun w h => h.dup (r := rdR q.v 2 ns.length (vcs Dv.val ns)) (by repeat (first | exact Take1.head | apply Take1.tail)) (fun k hk => hk)) ?_
  refine WL.view (fun w h => h.dup (r := rdR r.v 2 ms.length (vcs Dv.val ms)) (by repeat (first | exact Take1.head | apply Take1.tail)) (fun k hk => hk)) ?_
  refine WL.view (fun w h => h.dup (r := rdR q.v 2 ns.length (vcs Dv.val ns)) (by repeat (first | exact Take1.head | apply Take1.tail)) (fun k hk => hk)) ?_
  refine WL.y (Yl.loadN ag27 rfl (by repeat (first | exact Take1.head | apply Take1.tail)) (by rw [Rs.len18 hg]; rfl) (rall hg)) rfl ?_ -- t5
  refine WL.callC (xs := [.tmp 5]) (cap := []) rfl rfl en16 (by repeat (first | exact TakeL.nil | (apply TakeL.cons; · repeat (first | exact Take1.head | apply Take1.tail)))) (fun w hw => may_any r ms hg hl w (hw.src (A := []) RdOf.rd' (by repeat (first | exact Take1.head | apply Take1.tail))) hw.left.here) rfl ?_ -- t6 hailer/roster.May
  rintro ⟨⟩ -
  refine WL.y (Yl.move rfl) rfl ?_ -- t7
  refine WL.both (t := 7) rfl (fun g7 => ?_) (fun g7 => ?_)
  · refine WL.on rfl rfl ?_
    refine WL.y (Yl.loadN ag27 rfl (by repeat (first | exact Take1.head | apply Take1.tail)) (by rw [Rs.len18 hg2]; rfl) (rall hg2)) rfl ?_ -- t8
    refine WL.on rfl rfl ?_
    refine WL.callC (xs := [.tmp 8]) (cap := []) rfl rfl en16 (by repeat (first | exact TakeL.nil | (apply TakeL.cons; · repeat (first | exact Take1.head | apply Take1.tail)))) (fun w hw => may_any q ns hg2 hl2 w (hw.src (A := []) RdOf.rd' (by repeat (first | exact Take1.head | apply Take1.tail))) hw.left.here) rfl ?_ -- t9 hailer/roster.May
    rintro ⟨⟩ -
    refine WL.y (Yl.pickT rfl rfl) rfl ?_ -- t10
    refine WL.y (Yl.move rfl) rfl ?_ -- t11
    refine WL.both (t := 11) rfl (fun g11 => ?_) (fun g11 => ?_)
    · refine WL.on rfl rfl ?_
      refine WL.y (Yl.field fo27_0 rfl) rfl ?_ -- t12
      refine WL.on rfl rfl ?_
      refine WL.y (Yl.loadN ag23 rfl (by repeat (first | exact Take1.head | apply Take1.tail)) (by rw [Rs.len18 hg]; rfl) (Rs.grp hg)) rfl ?_ -- t13
      refine WL.on rfl rfl ?_
      refine WL.y (Yl.field fo27_0 rfl) rfl ?_ -- t14
      refine WL.on rfl rfl ?_
      refine WL.y (Yl.loadN ag23 rfl (by repeat (first | exact Take1.head | apply Take1.tail)) (by rw [Rs.len18 hg2]; rfl) (Rs.grp hg2)) rfl ?_ -- t15
      refine WL.on rfl rfl ?_
      refine WL.y (Yl.eqA (xs := ints .u8 r.g) (ys := ints .u8 q.g) flatC rfl rfl (fitsB hg hr.b) (fitsB hg2 hq.b)) rfl ?_
      refine WL.say (t := 16) (v' := .bool (decide (r.g = q.g))) rfl (by rw [ints_eqV]) ?_
      refine WL.y (Yl.pickT rfl rfl) rfl ?_ -- t17
      refine WL.y (Yl.move rfl) rfl ?_ -- t18
      refine WL.both (t := 18) rfl (fun g18 => ?_) (fun g18 => ?_)
      · refine WL.on rfl rfl ?_
        refine WL.y (Yl.field fo27_1 rfl) rfl ?_ -- t19
        refine WL.on rfl rfl ?_
        refine WL.y (Yl.load on24 rfl (by repeat (first | exact Take1.head | apply Take1.tail)) b16) rfl ?_ -- t20
        refine WL.on rfl rfl ?_
        refine WL.y (Yl.field fo27_1 rfl) rfl ?_ -- t21
        refine WL.on rfl rfl ?_
        refine WL.y (Yl.load on24 rfl (by repeat (first | exact Take1.head | apply Take1.tail)) a16) rfl ?_ -- t22
        refine WL.on rfl rfl ?_
        refine WL.y (Yl.add rfl rfl rfl) rfl ?_ -- t23
        refine WL.say (t := 23) (v' := .int .u64 (r.e + 1)) rfl (by have := (mayF_iff h1).1 g7; rw [u64_in _ (by omega)]) ?_
        refine WL.on rfl rfl ?_
        refine WL.y (Yl.eql rfl rfl) rfl ?_ -- t24
        refine WL.y (Yl.pickT rfl rfl) rfl ?_ -- t25
        refine WL.y (Yl.move rfl) rfl ?_ -- t26
        refine WL.both (t := 26) rfl (fun g26 => ?_) (fun g26 => ?_)
        · refine WL.on rfl rfl ?_
          refine WL.y (Yl.loadN ag27 rfl (by repeat (first | exact Take1.head | apply Take1.tail)) (by rw [Rs.len18 hg]; rfl) (rall hg)) rfl ?_ -- t27
          refine WL.on rfl rfl ?_
          refine WL.y (Yl.loadN ag27 rfl (by repeat (first | exact Take1.head | apply Take1.tail)) (by rw [Rs.len18 hg2]; rfl) (rall hg2)) rfl ?_ -- t28
          refine WL.on rfl rfl ?_
          refine WL.callC (xs := [.tmp 27, .tmp 28]) (cap := []) rfl rfl en41 (by repeat (first | exact TakeL.nil | (apply TakeL.cons; · repeat (first | exact Take1.head | apply Take1.tail)))) (fun w hw => came_any r q ms ns hg hg2 h1 h2 hl hl2 w hw.left.here) rfl ?_ -- t29 hailer/roster.Came
          rintro ⟨p29, q29, o29⟩ -
          refine WL.on rfl rfl ?_
          refine WL.callC (xs := [.tmp 29]) (cap := []) rfl rfl en40 (by repeat (first | exact TakeL.nil | (apply TakeL.cons; · repeat (first | exact Take1.head | apply Take1.tail)))) (fun w hw => some_any 59 en59 _ _ _ cameYs_size w hw.left.here) rfl ?_ -- t30 hailer/roster.some
          rintro ⟨⟩ -
          refine WL.on rfl rfl ?_
          refine WL.y (Yl.move rfl) rfl ?_ -- t31
          refine WL.both (t := 31) rfl (fun g31 => ?_) (fun g31 => ?_)
          · refine WL.off rfl rfl rfl rfl ?_ -- t32
            refine WL.off rfl rfl rfl rfl ?_ -- t33
            refine WL.off rfl rfl rfl rfl ?_ -- t34
            refine WL.off rfl rfl rfl rfl ?_ -- t35
            refine WL.on rfl rfl ?_
            refine WL.y (Yl.pickT rfl rfl) rfl ?_ -- t36
            refine WL.y (Yl.pickT rfl rfl) rfl ?_ -- t37
            refine WL.y (Yl.assign rfl) rfl ?_ -- t4
            refine WL.nil ?_
            refine WC.ret ?_
            repeat (first | (with_reducible refine peelT ?_) | (with_reducible refine peelB ?_) | (with_reducible refine peelTX ?_) | (with_reducible refine peelBX ?_) | (with_reducible refine peelBN ?_) | (with_reducible refine peelBO rfl ?_))
            exact ret1 (.inr rfl) Try.results14 rfl fun w' h => ⟨(), trivial, by unfold folF; rw [g7, g11, g18, g26, g31]; rfl, h.sub (by repeat (first | exact TakeL.nil | (apply TakeL.cons; · repeat (first | exact Take1.head | apply Take1.tail))))⟩
          · refine WL.on rfl rfl ?_
            refine WL.y (Yl.loadN ag27 rfl (by repeat (first | exact Take1.head | apply Take1.tail)) (by rw [Rs.len18 hg2]; rfl) (rall hg2)) rfl ?_ -- t32
            refine WL.on rfl rfl ?_
            refine WL.y (Yl.loadN ag27 rfl (by repeat (first | exact Take1.head | apply Take1.tail)) (by rw [Rs.len18 hg]; rfl) (rall hg)) rfl ?_ -- t33
            refine WL.on rfl rfl ?_
            refine WL.callC (xs := [.tmp 32, .tmp 33]) (cap := []) rfl rfl en41 (by repeat (first | exact TakeL.nil | (apply TakeL.cons; · repeat (first | exact Take1.head | apply Take1.tail)))) (fun w hw => came_any q r ns ms hg2 hg h2 h1 hl2 hl w hw.left.here) rfl ?_ -- t34 hailer/roster.Came
            rintro ⟨p34, q34, o34⟩ -
            refine WL.on rfl rfl ?_
            refine WL.callC (xs := [.tmp 34]) (cap := []) rfl rfl en40 (by repeat (first | exact TakeL.nil | (apply TakeL.cons; · repeat (first | exact Take1.head | apply Take1.tail)))) (fun w hw => some_any 59 en59 _ _ _ cameYs_size w hw.left.here) rfl ?_ -- t35 hailer/roster.some
            rintro ⟨⟩ -
            refine WL.on rfl rfl ?_
            refine WL.y (Yl.pickF rfl rfl) rfl ?_ -- t36
            refine WL.y (Yl.pickT rfl rfl) rfl ?_ -- t37
            refine WL.y (Yl.assign rfl) rfl ?_ -- t4
            refine WL.nil ?_
            refine WC.ret ?_
            repeat (first | (with_reducible refine peelT ?_) | (with_reducible refine peelB ?_) | (with_reducible refine peelTX ?_) | (with_reducible refine peelBX ?_) | (with_reducible refine peelBN ?_) | (with_reducible refine peelBO rfl ?_))
            exact ret1 (.inr rfl) Try.results14 rfl fun w' h => ⟨(), trivial, by unfold folF; rw [g7, g11, g18, g26, g31]; rfl, h.sub (by repeat (first | exact TakeL.nil | (apply TakeL.cons; · repeat (first | exact Take1.head | apply Take1.tail))))⟩
        · refine WL.off rfl rfl rfl rfl ?_ -- t27
          refine WL.off rfl rfl rfl rfl ?_ -- t28
          refine WL.off rfl rfl rfl rfl ?_ -- t29
          refine WL.off rfl rfl rfl rfl ?_ -- t30
          refine WL.off rfl rfl rfl rfl ?_ -- t31
          refine WL.offU rfl rfl rfl ?_ -- t32
          refine WL.offU rfl rfl rfl ?_ -- t33
          refine WL.offU rfl rfl rfl ?_ -- t34
          refine WL.offU rfl rfl rfl ?_ -- t35
          refine WL.off rfl rfl rfl rfl ?_ -- t36
          refine WL.y (Yl.pickF rfl rfl) rfl ?_ -- t37
          refine WL.y (Yl.assign rfl) rfl ?_ -- t4
          refine WL.nil ?_
          refine WC.ret ?_
          repeat (first | (with_reducible refine peelT ?_) | (with_reducible refine peelB ?_) | (with_reducible refine peelTX ?_) | (with_reducible refine peelBX ?_) | (with_reducible refine peelBN ?_) | (with_reducible refine peelBO rfl ?_))
          exact ret1 (.inr rfl) Try.results14 rfl fun w' h => ⟨(), trivial, by unfold folF; rw [g26]; simp, h.sub (by repeat (first | exact TakeL.nil | (apply TakeL.cons; · repeat (first | exact Take1.head | apply Take1.tail))))⟩
      · refine WL.off rfl rfl rfl rfl ?_ -- t19
        refine WL.off rfl rfl rfl rfl ?_ -- t20
        refine WL.off rfl rfl rfl rfl ?_ -- t21
        refine WL.off rfl rfl rfl rfl ?_ -- t22
        refine WL.off rfl rfl rfl rfl ?_ -- t23
        refine WL.off rfl rfl rfl rfl ?_ -- t24
        refine WL.y (Yl.pickF rfl rfl) rfl ?_ -- t25
        refine WL.y (Yl.move rfl) rfl ?_ -- t26
        refine WL.off rfl rfl rfl rfl ?_ -- t27
        refine WL.off rfl rfl rfl rfl ?_ -- t28
        refine WL.off rfl rfl rfl rfl ?_ -- t29
        refine WL.off rfl rfl rfl rfl ?_ -- t30
        refine WL.off rfl rfl rfl rfl ?_ -- t31
        refine WL.offU rfl rfl rfl ?_ -- t32
        refine WL.offU rfl rfl rfl ?_ -- t33
        refine WL.offU rfl rfl rfl ?_ -- t34
        refine WL.offU rfl rfl rfl ?_ -- t35
        refine WL.off rfl rfl rfl rfl ?_ -- t36
        refine WL.y (Yl.pickF rfl rfl) rfl ?_ -- t37
        refine WL.y (Yl.assign rfl) rfl ?_ -- t4
        refine WL.nil ?_
        refine WC.ret ?_
        repeat (first | (with_reducible refine peelT ?_) | (with_reducible refine peelB ?_) | (with_reducible refine peelTX ?_) | (with_reducible refine peelBX ?_) | (with_reducible refine peelBN ?_) | (with_reducible refine peelBO rfl ?_))
        exact ret1 (.inr rfl) Try.results14 rfl fun w' h => ⟨(), trivial, by unfold folF; rw [g18]; simp, h.sub (by repeat (first | exact TakeL.nil | (apply TakeL.cons; · repeat (first | exact Take1.head | apply Take1.tail))))⟩
    · refine WL.off rfl rfl rfl rfl ?_ -- t12
      refine WL.off rfl rfl rfl rfl ?_ -- t13
      refine WL.off rfl rfl rfl rfl ?_ -- t14
      refine WL.off rfl rfl rfl rfl ?_ -- t15
      refine WL.off rfl rfl rfl rfl ?_ -- t16
      refine WL.y (Yl.pickF rfl rfl) rfl ?_ -- t17
      refine WL.y (Yl.move rfl) rfl ?_ -- t18
      refine WL.off rfl rfl rfl rfl ?_ -- t19
      refine WL.off rfl rfl rfl rfl ?_ -- t20
      refine WL.off rfl rfl rfl rfl ?_ -- t21
      refine WL.off rfl rfl rfl rfl ?_ -- t22
      refine WL.off rfl rfl rfl rfl ?_ -- t23
      refine WL.off rfl rfl rfl rfl ?_ -- t24
      refine WL.y (Yl.pickF rfl rfl) rfl ?_ -- t25
      refine WL.y (Yl.move rfl) rfl ?_ -- t26
      refine WL.off rfl rfl rfl rfl ?_ -- t27
      refine WL.off rfl rfl rfl rfl ?_ -- t28
      refine WL.off rfl rfl rfl rfl ?_ -- t29
      refine WL.off rfl rfl rfl rfl ?_ -- t30
      refine WL.off rfl rfl rfl rfl ?_ -- t31
      refine WL.offU rfl rfl rfl ?_ -- t32
      refine WL.offU rfl rfl rfl ?_ -- t33
      refine WL.offU rfl rfl rfl ?_ -- t34
      refine WL.offU rfl rfl rfl ?_ -- t35
      refine WL.off rfl rfl rfl rfl ?_ -- t36
      refine WL.y (Yl.pickF rfl rfl) rfl ?_ -- t37
      refine WL.y (Yl.assign rfl) rfl ?_ -- t4
      refine WL.nil ?_
      refine WC.ret ?_
      repeat (first | (with_reducible refine peelT ?_) | (with_reducible refine peelB ?_) | (with_reducible refine peelTX ?_) | (with_reducible refine peelBX ?_) | (with_reducible refine peelBN ?_) | (with_reducible refine peelBO rfl ?_))
      exact ret1 (.inr rfl) Try.results14 rfl fun w' h => ⟨(), trivial, by unfold folF; rw [g11]; simp, h.sub (by repeat (first | exact TakeL.nil | (apply TakeL.cons; · repeat (first | exact Take1.head | apply Take1.tail))))⟩
  · refine WL.off rfl rfl rfl rfl ?_ -- t8
    refine WL.off rfl rfl rfl rfl ?_ -- t9
    refine WL.y (Yl.pickF rfl rfl) rfl ?_ -- t10
    refine WL.y (Yl.move rfl) rfl ?_ -- t11
    refine WL.off rfl rfl rfl rfl ?_ -- t12
    refine WL.off rfl rfl rfl rfl ?_ -- t13
    refine WL.off rfl rfl rfl rfl ?_ -- t14
    refine WL.off rfl rfl rfl rfl ?_ -- t15
    refine WL.off rfl rfl rfl rfl ?_ -- t16
    refine WL.y (Yl.pickF rfl rfl) rfl ?_ -- t17
    refine WL.y (Yl.move rfl) rfl ?_ -- t18
    refine WL.off rfl rfl rfl rfl ?_ -- t19
    refine WL.off rfl rfl rfl rfl ?_ -- t20
    refine WL.off rfl rfl rfl rfl ?_ -- t21
    refine WL.off rfl rfl rfl rfl ?_ -- t22
    refine WL.off rfl rfl rfl rfl ?_ -- t23
    refine WL.off rfl rfl rfl rfl ?_ -- t24
    refine WL.y (Yl.pickF rfl rfl) rfl ?_ -- t25
    refine WL.y (Yl.move rfl) rfl ?_ -- t26
    refine WL.off rfl rfl rfl rfl ?_ -- t27
    refine WL.off rfl rfl rfl rfl ?_ -- t28
    refine WL.off rfl rfl rfl rfl ?_ -- t29
    refine WL.off rfl rfl rfl rfl ?_ -- t30
    refine WL.off rfl rfl rfl rfl ?_ -- t31
    refine WL.offU rfl rfl rfl ?_ -- t32
    refine WL.offU rfl rfl rfl ?_ -- t33
    refine WL.offU rfl rfl rfl ?_ -- t34
    refine WL.offU rfl rfl rfl ?_ -- t35
    refine WL.off rfl rfl rfl rfl ?_ -- t36
    refine WL.y (Yl.pickF rfl rfl) rfl ?_ -- t37
    refine WL.y (Yl.assign rfl) rfl ?_ -- t4
    refine WL.nil ?_
    refine WC.ret ?_
    repeat (first | (with_reducible refine peelT ?_) | (with_reducible refine peelB ?_) | (with_reducible refine peelTX ?_) | (with_reducible refine peelBX ?_) | (with_reducible refine peelBN ?_) | (with_reducible refine peelBO rfl ?_))
    exact ret1 (.inr rfl) Try.results14 rfl fun w' h => ⟨(), trivial, by unfold folF; rw [g7]; rfl, h.sub (by repeat (first | exact TakeL.nil | (apply TakeL.cons; · repeat (first | exact Take1.head | apply Take1.tail))))⟩
end Go.Proofs.Ytfdnnlcfolgegaa
