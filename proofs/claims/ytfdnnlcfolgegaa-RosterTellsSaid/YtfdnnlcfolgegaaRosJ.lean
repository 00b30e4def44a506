/- Rosters: who came, gone over; whether one follows another: the walks. -/
import Derived.Test.YtfdnnlcfolgegaaRosG
import Derived.Test.YtfdnnlcfolgegaaLibJ
namespace Go.Proofs.Ytfdnnlcfolgegaa
open Go Go.RowKit

def cameF (ms ns : List Dv) : List Dv := ns.filter fun d => !inF ms d
def cameYs (ms ns : List Dv) : List (Array Value) := (cameF ms ns).map fun d => #[d.val]
theorem cameYs_size {ms ns : List Dv} : ∀ x ∈ cameYs ms ns, x.size = 1 := by
  intro x hx
  obtain ⟨d, _, rfl⟩ := List.mem_map.1 hx
  rfl
theorem came_step {ms ns : List Dv} {j : Nat} {d : Dv} (h : ns[j]? = some d) : cameF ms (ns.take (j + 1)) = if inF ms d then cameF ms (ns.take j) else cameF ms (ns.take j) ++ [d] := by
  rw [← take_snoc _ _ _ h]
  unfold cameF
  rw [List.filter_append]
  cases hh : inF ms d <;> simp [hh]
theorem came_get {ms ns : List Dv} {j : Nat} {d : Dv} (h : ns[j]? = some d) (hn : inF ms d = false) : (cameYs ms ns)[(cameF ms (ns.take j)).length]? = some #[d.val] := by
  have e : cameF ms ns = cameF ms (ns.take j) ++ d :: cameF ms (ns.drop (j + 1)) := by
    obtain ⟨q1, q2⟩ := List.getElem?_eq_some_iff.1 h
    conv => lhs; rw [← List.take_append_drop j ns, List.drop_eq_getElem_cons q1, q2]
    unfold cameF
    rw [List.filter_append, List.filter_cons, hn]; rfl
  unfold cameYs
  rw [e, List.map_append, List.getElem?_append_right (by simp)]
  simp
theorem came1_iter (r q : Rs) (ms ns : List Dv) (hg : r.g.length = 16) (hg2 : q.g.length = 16) (h1 : DOk ms) (h2 : DOk ns) (hl : ms.length ≤ 1099511627776) (hl2 : ns.length ≤ 1099511627776) (bn bo : Nat) (w : World)
    (hA : OK w (fpL [roR (blkR bn 27 q.cells), roR (blkR bo 27 r.cells), rdR r.v 2 ms.length (vcs Dv.val ms), rdR q.v 2 ns.length (vcs Dv.val ns)]) [roR (blkR bn 27 q.cells), roR (blkR bo 27 r.cells), rdR r.v 2 ms.length (vcs Dv.val ms), rdR q.v 2 ns.length (vcs Dv.val ns)] w) :
    Iter Try.prog 59 ([.pointer (some ⟨bn, 0, none⟩), .pointer (some ⟨bo, 0, none⟩)] : List Value).toArray (fpL [roR (blkR bn 27 q.cells), roR (blkR bo 27 r.cells), rdR r.v 2 ms.length (vcs Dv.val ms), rdR q.v 2 ns.length (vcs Dv.val ns)]).rd (cameYs ms ns) w := by
  obtain ⟨ao, cap, hv, hcap, hml⟩ := (hA.get (.tail (.tail (.tail .head)))).form
  have a17 := Rs.at17 hg2
  have hwr : ∀ s ∈ [roR (blkR bn 27 q.cells), roR (blkR bo 27 r.cells), rdR r.v 2 ms.length (vcs Dv.val ms), rdR q.v 2 ns.length (vcs Dv.val ns)], ∀ k, ¬ s.wr k := by
    intro s hs k hk
    simp at hs
    rcases hs with rfl | rfl | rfl | rfl <;> exact hk
  refine iter_of Try.func59 rfl Try.ntmps59 rfl hA hwr ?_
  intro l W g gx T0 hy
  refine WC.seq ?_
  refine WC.region ?_
  refine WL.y (Yl.field fo27_2 rfl) rfl ?_ -- t6
  refine WL.y (Yl.loadRo on25 rfl (by repeat (first | exact Take1.head | apply Take1.tail)) a17) rfl ?_
  rw [hv]
  refine WL.y (Yl.len un25 rfl) rfl ?_ -- t8
  refine WL.y (Yl.move rfl) rfl ?_ -- t9
  refine WL.nil ?_
  refine WC.block ?_
  refine WC.loop (α := Nat × (Nat → Prop)) (fun x => [(0, .func (.yield l) #[] #[]), (2, .pointer (some ⟨bo, 0, none⟩)), (7, .slice ao ns.length cap), (8, .int .i64 (ns.length : Int)), (9, .int .i64 (x.1 : Int))]) (fun x => [gstR g (cameF ms (ns.take x.1)).length x.2, roR (blkR bn 27 q.cells), roR (blkR bo 27 r.cells), rdR r.v 2 ms.length (vcs Dv.val ms), rdR (.slice ao ns.length cap) 2 ns.length (vcs Dv.val ns)]) (fun x => x.1 ≤ ns.length) (fun x => ns.length - x.1) (0, T0) (Nat.zero_le _) ⟨(by repeat (first | exact Sub.nil | refine Sub.cons rfl ?_)), _, (by repeat (first | exact TakeL.nil | (apply TakeL.cons; · repeat (first | exact Take1.head | apply Take1.tail))))⟩ ?_
  rintro ⟨j, T⟩ hj
  dsimp only at hj ⊢
  refine WC.seq ?_
  refine WC.region ?_
  refine WL.y (Yl.lss rfl rfl) rfl ?_ -- t10
  refine WL.nil ?_
  refine WC.seq ?_
  refine WC.condD rfl (fun g10 => ?_) (fun g10 => ?_)
  · refine WC.skip ?_
    refine WC.seq ?_
    refine WC.block ?_
    refine WC.seq ?_
    refine WC.region ?_
    obtain ⟨d, hdd⟩ : ∃ d, ns[j]? = some d := ⟨_, List.getElem?_eq_getElem (by omega)⟩
    have hdo := h2 d (List.mem_of_getElem? hdd)
    have hstep := came_step (ms := ms) hdd
    refine WL.y (Yl.index un25 sz31 rfl rfl (Reads.of RdOf.rd' (by repeat (first | exact Take1.head | apply Take1.tail))) rfl (by omega)) rfl ?_ -- t11
    refine WL.y (Yl.loadV (j := j) (u := d) dvV dvAll rfl (Reads.of RdOf.rd' (by repeat (first | exact Take1.head | apply Take1.tail))) rfl hdd) rfl ?_
    refine WL.to (To.alloc (cs := d0.cells) zr31 rfl) rfl ?_ -- t5
    intro b5
    refine WL.sto (Sto.agg sz31 rfl rfl (by repeat (first | exact Take1.head | apply Take1.tail)) (Dv.ones d) rfl (by rfl) (show _ = d.cells from rfl)) (fun _ h => nomatch h) ?_ -- st 1
    refine WL.nil ?_
    refine WC.seq ?_
    refine WC.region ?_
    refine WL.y (Yl.loadNRo ag27 rfl (by repeat (first | exact Take1.head | apply Take1.tail)) (by rw [Rs.len18 hg]; rfl) (show (r.cells.drop 0).take 18 = r.cells by rw [List.drop_zero, List.take_of_length_le (by rw [Rs.len18 hg]; omega)])) rfl ?_
    refine WL.y (Yl.loadN ag31 rfl (by repeat (first | exact Take1.head | apply Take1.tail)) (by rfl) (by rfl)) rfl ?_ -- t14
    refine WL.callC (xs := [.tmp 13, .tmp 14]) (cap := []) rfl rfl en23 (by repeat (first | exact TakeL.nil | (apply TakeL.cons; · repeat (first | exact Take1.head | apply Take1.tail)))) (fun w hw => has_any r ms d hg hl h1 hdo w (hw.src (A := []) RdOf.rd' (by repeat (first | exact Take1.head | apply Take1.tail))) hw.left.here) rfl ?_ -- t15 hailer/roster.Has
    rintro ⟨⟩ -
    refine WL.y (Yl.not rfl) rfl ?_ -- t16
    refine WL.y (Yl.move rfl) rfl ?_ -- t17
    refine WL.both (t := 17) rfl (fun g17 => ?_) (fun g17 => ?_)
    · refine WL.on rfl rfl ?_
      have hnin : inF ms d = false := by simpa using g17
      refine WL.y (Yl.move rfl) rfl ?_ -- t18
      refine WL.on rfl rfl ?_
      refine WL.y (Yl.loadN ag31 rfl (by repeat (first | exact Take1.head | apply Take1.tail)) (by rfl) (by rfl)) rfl ?_ -- t19
      refine WL.on rfl rfl ?_
      refine WL.yield (xs := [.tmp 19]) (i := (cameF ms (ns.take j)).length) hy rfl rfl (came_get hdd hnin) (by repeat (first | exact Take1.head | apply Take1.tail)) rfl ?_
      intro b20 T'
      refine WL.on rfl rfl ?_
      refine WL.y (Yl.not rfl) rfl ?_ -- t21
      refine WL.y (Yl.pickT rfl rfl) rfl ?_ -- t22
      refine WL.nil ?_
      refine WC.cond rfl (fun g22 => ?_) (fun g22 => ?_)
      · refine WC.ret ?_
        repeat (first | (with_reducible refine peelT ?_) | (with_reducible refine peelB ?_) | (with_reducible refine peelTX ?_) | (with_reducible refine peelBX ?_) | (with_reducible refine peelBN ?_) | (with_reducible refine peelBO rfl ?_))
        have hb : b20 = false := by simpa using g22
        subst hb
        simp only [Bool.false_eq_true, if_false]
        exact itStop (i := (cameF ms (ns.take j)).length) (.inr rfl) Try.results59 (by repeat (first | exact Take1.head | apply Take1.tail)) (List.getElem?_eq_some_iff.1 (came_get hdd hnin)).1
      · refine WC.skip ?_
        refine WC.region ?_
        refine WL.y (Yl.add rfl rfl (IntWalk.i64_in _ (by omega))) rfl ?_ -- t23
        refine WL.y (Yl.move rfl) rfl ?_ -- t9
        refine WL.nil ?_
        have hb : b20 = true := by simpa using g22
        subst hb
        simp only [if_true]
        refine ⟨rfl, (j + 1, T'), by dsimp only; omega, by dsimp only; omega, (by repeat (first | exact Sub.nil | refine Sub.cons rfl ?_)), ?_⟩
        dsimp only
        rw [hstep, hnin]
        simp only [Bool.false_eq_true, if_false, List.length_append, List.length_singleton]
        exact ⟨_, (by repeat (first | exact TakeL.nil | (apply TakeL.cons; · repeat (first | exact Take1.head | apply Take1.tail))))⟩
    · refine WL.off rfl rfl rfl rfl ?_ -- t18
      refine WL.off rfl rfl rfl rfl ?_ -- t19
      refine WL.off rfl rfl rfl rfl ?_ -- t20
      refine WL.off rfl rfl rfl rfl ?_ -- t21
      refine WL.y (Yl.pickF rfl rfl) rfl ?_ -- t22
      refine WL.nil ?_
      refine WC.condF rfl (by first | rfl | (simp; done) | (simp; omega)) ?_
      refine WC.skip ?_
      refine WC.region ?_
      refine WL.y (Yl.add rfl rfl (IntWalk.i64_in _ (by omega))) rfl ?_ -- t23
      refine WL.y (Yl.move rfl) rfl ?_ -- t9
      refine WL.nil ?_
      have hin : inF ms d = true := by simpa using g17
      refine ⟨rfl, (j + 1, T), by dsimp only; omega, by dsimp only; omega, (by repeat (first | exact Sub.nil | refine Sub.cons rfl ?_)), ?_⟩
      dsimp only
      rw [hstep, hin]
      simp only [if_true]
      exact ⟨_, (by repeat (first | exact TakeL.nil | (apply TakeL.cons; · repeat (first | exact Take1.head | apply Take1.tail))))⟩
  · refine WC.exit ?_
    repeat (first | (with_reducible refine peelT ?_) | (with_reducible refine peelB ?_) | (with_reducible refine peelTX ?_) | (with_reducible refine peelBX ?_) | (with_reducible refine peelBN ?_) | (with_reducible refine peelBO rfl ?_))
    have hjn : j = ns.length := by omega
    subst hjn
    rw [List.take_length]
    rw [show (cameF ms ns).length = (cameYs ms ns).length by simp [cameYs]]
    exact itEnd (.inl rfl) Try.results59 (by repeat (first | exact Take1.head | apply Take1.tail))
theorem came_any (r q : Rs) (ms ns : List Dv) (hg : r.g.length = 16) (hg2 : q.g.length = 16) (h1 : DOk ms) (h2 : DOk ns) (hl : ms.length ≤ 1099511627776) (hl2 : ns.length ≤ 1099511627776) (w : World)
    (hw : OK w (fpL [rdR r.v 2 ms.length (vcs Dv.val ms), rdR q.v 2 ns.length (vcs Dv.val ns)]) [rdR r.v 2 ms.length (vcs Dv.val ms), rdR q.v 2 ns.length (vcs Dv.val ns)] w) :
    Fn Try.prog 41 [.agg r.cells.toArray, .agg q.cells.toArray] [rdR r.v 2 ms.length (vcs Dv.val ms), rdR q.v 2 ns.length (vcs Dv.val ns)] w (fun _ : Nat × Nat × (Nat → Prop) => True) (fun y => .func (.func 59) #[] #[.pointer (some ⟨y.1, 0, none⟩), .pointer (some ⟨y.2.1, 0, none⟩)])
      (fun y => [itR Try.prog 59 [.pointer (some ⟨y.1, 0, none⟩), .pointer (some ⟨y.2.1, 0, none⟩)] y.2.2 (cameYs ms ns)]) := by
  refine enterF Try.func41 rfl Try.ntmps41 rfl hw ?_
  refine WC.seq ?_
  refine WC.region ?_
  refine WL.to (To.box (cs := r.cells) rfl rfl) rfl ?_ -- t2
  intro b2
  refine WL.to (To.box (cs := q.cells) rfl rfl) rfl ?_ -- t3
  intro b3
  refine WL.y (Yl.assign rfl) rfl ?_ -- t4
  refine WL.nil ?_
  refine WC.seq ?_
  refine WC.region ?_
  refine WL.y (Yl.makeFunc (xs := []) (ys := [.tmp 3, .tmp 2]) rfl rfl) rfl ?_ -- t5
  refine WL.y (Yl.assign rfl) rfl ?_ -- t4
  refine WL.nil ?_
  refine WC.ret ?_
  repeat (first | (with_reducible refine peelT ?_) | (with_reducible refine peelB ?_) | (with_reducible refine peelTX ?_) | (with_reducible refine peelBX ?_) | (with_reducible refine peelBN ?_) | (with_reducible refine peelBO rfl ?_))
  refine ret1 (.inr rfl) Try.results41 rfl fun w' hh => ⟨(b3, b2, (fpL [roR (blkR b3 27 q.cells), roR (blkR b2 27 r.cells), rdR r.v 2 ms.length (vcs Dv.val ms), rdR q.v 2 ns.length (vcs Dv.val ns)]).rd), trivial, rfl, ?_⟩
  have hA : OK w _ ([blkR b3 27 q.cells, blkR b2 27 r.cells, rdR r.v 2 ms.length (vcs Dv.val ms), rdR q.v 2 ns.length (vcs Dv.val ns)] ++ []) w' := hh.sub (by repeat (first | exact TakeL.nil | (apply TakeL.cons; · repeat (first | exact Take1.head | apply Take1.tail))))
  exact hA.toIter (came1_iter r q ms ns hg hg2 h1 h2 hl hl2 b3 b2 w' hA.freeze.here) (fun k hk => rd_freeze (A := [blkR b3 27 q.cells, blkR b2 27 r.cells, rdR r.v 2 ms.length (vcs Dv.val ms), rdR q.v 2 ns.length (vcs Dv.val ns)]) hk)
theorem some_any (gf : FuncId) (hen : ∀ args w, (callFunc gf args).run Try.prog w = .ok (.enter gf args) w) (lb : List Value) (own : Nat → Prop) (xs : List (Array Value)) (hs : ∀ x ∈ xs, x.size = 1) (w : World) (hw : OK w (fpL [itR Try.prog gf lb own xs]) [itR Try.prog gf lb own xs] w) :
    Fn Try.prog 40 [.func (.func gf) #[] lb.toArray] [itR Try.prog gf lb own xs] w (fun _ : Unit => True) (fun _ => .bool (!xs.isEmpty)) (fun _ => []) := by
  refine enterM Try.func40 rfl Try.ntmps40 rfl hw ?_
  refine WC.seq ?_
  refine WC.region ?_
  refine WL.to (To.alloc zr4 rfl) rfl ?_ -- t2
  intro b2
  refine WL.nil ?_
  refine WC.seq ?_
  refine WC.seq ?_
  refine WC.region ?_
  refine WL.y (Yl.move rfl) rfl ?_ -- t3
  refine WL.nil ?_
  refine WC.block ?_
  refine WC.range (α := Unit) (xs := xs) (fun i _ => [blkR b2 4 [.bool false]]) (fun i _ => i = 0) () rfl hen hs rfl (by repeat (first | exact Take1.head | apply Take1.tail)) rfl (by repeat (first | exact TakeL.nil | (apply TakeL.cons; · repeat (first | exact Take1.head | apply Take1.tail)))) ?_ ?_
  · intro l i x _ hx _ W
    obtain ⟨v, rfl⟩ : ∃ v, x = #[v] := by
      rcases x with ⟨l⟩
      have := hs _ (List.mem_of_getElem? hx)
      match l, this with
      | [v], _ => exact ⟨v, rfl⟩
    show WC _ _ _ ((4, v) :: _) _ _
    refine WC.skip ?_
    repeat (first | (with_reducible refine peelT ?_) | (with_reducible refine peelB ?_) | (with_reducible refine peelTX ?_) | (with_reducible refine peelBX ?_) | (with_reducible refine peelBN ?_) | (with_reducible refine peelBO rfl ?_))
    refine fun W2 => ?_
    refine WC.block ?_
    refine WC.seq ?_
    refine WC.region ?_
    refine WL.sto (Sto.one sz4 rfl rfl (by repeat (first | exact Take1.head | apply Take1.tail)) rfl (by rfl) (by rfl)) (fun _ h => nomatch h) ?_ -- st 1
    refine WL.nil ?_
    refine WC.ret ?_
    repeat (first | (with_reducible refine peelT ?_) | (with_reducible refine peelB ?_) | (with_reducible refine peelTX ?_) | (with_reducible refine peelBX ?_) | (with_reducible refine peelBN ?_) | (with_reducible refine peelBO rfl ?_))
    have hne : xs.isEmpty = false := by cases xs with
      | nil => simp at hx
      | cons _ _ => rfl
    refine ⟨[blkR b2 4 [.bool true]], _, (by repeat (first | exact TakeL.nil | (apply TakeL.cons; · repeat (first | exact Take1.head | apply Take1.tail)))), fun D => ?_⟩
    dsimp only [List.cons_append, List.nil_append]
    repeat (first | (with_reducible refine peelT ?_) | (with_reducible refine peelB ?_) | (with_reducible refine peelTX ?_) | (with_reducible refine peelBX ?_) | (with_reducible refine peelBN ?_) | (with_reducible refine peelBO rfl ?_))
    refine retM.of (.cons (by repeat (first | exact Take1.head | apply Take1.tail)) .nil) ?_
    first
    | exact retV1 (.inr rfl) Try.results40 on4 rfl (by repeat (first | exact Take1.head | apply Take1.tail)) fun w' h => ⟨(), trivial, by rw [hne]; rfl, h.sub (by repeat (first | exact TakeL.nil | (apply TakeL.cons; · repeat (first | exact Take1.head | apply Take1.tail))))⟩
    | exact retV1 (.inr rfl) Try.results40 on4 rfl (by repeat (first | exact Take1.head | apply Take1.tail)) fun w' h => ⟨(), trivial, by rw [List.eq_nil_of_length_eq_zero hs0]; rfl, h.sub (by repeat (first | exact TakeL.nil | (apply TakeL.cons; · repeat (first | exact Take1.head | apply Take1.tail))))⟩
  · rintro _ D hs0
    dsimp only [List.cons_append, List.nil_append]
    refine WC.seq ?_
    refine WC.region ?_
    refine WL.sto (Sto.one sz4 rfl rfl (by repeat (first | exact Take1.head | apply Take1.tail)) rfl (by rfl) (by rfl)) (fun _ h => nomatch h) ?_ -- st 2
    refine WL.nil ?_
    refine WC.ret ?_
    repeat (first | (with_reducible refine peelT ?_) | (with_reducible refine peelB ?_) | (with_reducible refine peelTX ?_) | (with_reducible refine peelBX ?_) | (with_reducible refine peelBN ?_) | (with_reducible refine peelBO rfl ?_))
    refine retM.of (.cons (by repeat (first | exact Take1.head | apply Take1.tail)) .nil) ?_
    first
    | exact retV1 (.inr rfl) Try.results40 on4 rfl (by repeat (first | exact Take1.head | apply Take1.tail)) fun w' h => ⟨(), trivial, by rw [hne]; rfl, h.sub (by repeat (first | exact TakeL.nil | (apply TakeL.cons; · repeat (first | exact Take1.head | apply Take1.tail))))⟩
    | exact retV1 (.inr rfl) Try.results40 on4 rfl (by repeat (first | exact Take1.head | apply Take1.tail)) fun w' h => ⟨(), trivial, by rw [List.eq_nil_of_length_eq_zero hs0]; rfl, h.sub (by repeat (first | exact TakeL.nil | (apply TakeL.cons; · repeat (first | exact Take1.head | apply Take1.tail))))⟩
def folF (r q : Rs) (ms ns : List Dv) : Bool := mayF r.e ms && mayF q.e ns && decide (r.g = q.g) && decide (q.e = r.e + 1) && (!(cameYs ms ns).isEmpty || !(cameYs ns ms).isEmpty)
set_option maxRecDepth 100000 in
theorem follows_any (r q : Rs) (ms ns : List Dv) (hr : r.ok) (hq : q.ok) (h1 : DOk ms) (h2 : DOk ns) (hl : ms.length ≤ 1099511627776) (hl2 : ns.length ≤ 1099511627776) (w : World)
    (hw : OK w (fpL [rdR r.v 2 ms.length (vcs Dv.val ms), rdR q.v 2 ns.length (vcs Dv.val ns)]) [rdR r.v 2 ms.length (vcs Dv.val ms), rdR q.v 2 ns.length (vcs Dv.val ns)] w) :
    Fn Try.prog 14 [.agg r.cells.toArray, .agg q.cells.toArray] [rdR r.v 2 ms.length (vcs Dv.val ms), rdR q.v 2 ns.length (vcs Dv.val ns)] w (fun _ : Unit => True) (fun _ => .bool (folF r q ms ns)) (fun _ => [rdR r.v 2 ms.length (vcs Dv.val ms), rdR q.v 2 ns.length (vcs Dv.val ns)]) := by
  have hg := hr.len
  have hg2 := hq.len
  have a16 := Rs.at16 hg
  have b16 := Rs.at16 hg2
  have rall : ∀ {r : Rs}, r.g.length = 16 → (r.cells.drop 0).take 18 = r.cells := fun hg => by rw [List.drop_zero, List.take_of_length_le (by rw [Rs.len18 hg]; omega)]
  refine enterF Try.func14 rfl Try.ntmps14 rfl hw ?_
  refine WC.seq ?_
  refine WC.region ?_
  refine WL.to (To.box (cs := r.cells) rfl rfl) rfl ?_ -- t2
  intro b2
  refine WL.to (To.box (cs := q.cells) rfl rfl) rfl ?_ -- t3
  intro b3
  refine WL.y (Yl.assign rfl) rfl ?_ -- t4
  refine WL.nil ?_
  refine WC.seq ?_
  refine WC.region ?_
  refine WL.view (fun w h => h.dup (r := rdR r.v 2 ms.length (vcs Dv.val ms)) (by repeat (first | exact Take1.head | apply Take1.tail)) (fun k hk => hk)) ?_
  refine WL.view (fun w h => h.dup (r := rdR q.v 2 ns.length (vcs Dv.val ns)) (by repeat (first | exact Take1.head | apply Take1.tail)) (fun k hk => hk)) ?_
  refine WL.view (fun w h => h.dup (r := rdR r.v 2 ms.length (vcs Dv.val ms)) (by repeat (first | exact Take1.head | apply Take1.tail)) (fun k hk => hk)) ?_
  refine WL.view (fun w h => h.dup (r := rdR q.v 2 ns.length (vcs Dv.val ns)) (by repeat (first | exact Take1.head | apply Take1.tail)) (fun k hk => hk)) ?_
  refine WL.y (Yl.loadN ag27 rfl (by repeat (first | exact Take1.head | apply Take1.tail)) (by rw [Rs.len18 hg]; rfl) (rall hg)) rfl ?_ -- t5
  refine WL.callC (xs := [.tmp 5]) (cap := []) rfl rfl en16 (by repeat (first | exact TakeL.nil | (apply TakeL.cons; · repeat (first | exact Take1.head | apply Take1.tail)))) (fun w hw => may_any r ms hg hl w (hw.src (A := []) RdOf.rd' (by repeat (first | exact Take1.head | apply Take1.tail))) hw.left.here) rfl ?_ -- t6 hailer/roster.May
  rintro ⟨⟩ -
  refine WL.y (Yl.move rfl) rfl ?_ -- t7
  refine WL.both (t := 7) rfl (fun g7 => ?_) (fun g7 => ?_)
  · refine WL.on rfl rfl ?_
    refine WL.y (Yl.loadN ag27 rfl (by repeat (first | exact Take1.head | apply Take1.tail)) (by rw [Rs.len18 hg2]; rfl) (rall hg2)) rfl ?_ -- t8
    refine WL.on rfl rfl ?_
    refine WL.callC (xs := [.tmp 8]) (cap := []) rfl rfl en16 (by repeat (first | exact TakeL.nil | (apply TakeL.cons; · repeat (first | exact Take1.head | apply Take1.tail)))) (fun w hw => may_any q ns hg2 hl2 w (hw.src (A := []) RdOf.rd' (by repeat (first | exact Take1.head | apply Take1.tail))) hw.left.here) rfl ?_ -- t9 hailer/roster.May
    rintro ⟨⟩ -
    refine WL.y (Yl.pickT rfl rfl) rfl ?_ -- t10
    refine WL.y (Yl.move rfl) rfl ?_ -- t11
    refine WL.both (t := 11) rfl (fun g11 => ?_) (fun g11 => ?_)
    · refine WL.on rfl rfl ?_
      refine WL.y (Yl.field fo27_0 rfl) rfl ?_ -- t12
      refine WL.on rfl rfl ?_
      refine WL.y (Yl.loadN ag23 rfl (by repeat (first | exact Take1.head | apply Take1.tail)) (by rw [Rs.len18 hg]; rfl) (Rs.grp hg)) rfl ?_ -- t13
      refine WL.on rfl rfl ?_
      refine WL.y (Yl.field fo27_0 rfl) rfl ?_ -- t14
      refine WL.on rfl rfl ?_
      refine WL.y (Yl.loadN ag23 rfl (by repeat (first | exact Take1.head | apply Take1.tail)) (by rw [Rs.len18 hg2]; rfl) (Rs.grp hg2)) rfl ?_ -- t15
      refine WL.on rfl rfl ?_
      refine WL.y (Yl.eqA (xs := ints .u8 r.g) (ys := ints .u8 q.g) flatC rfl rfl (fitsB hg hr.b) (fitsB hg2 hq.b)) rfl ?_
      refine WL.say (t := 16) (v' := .bool (decide (r.g = q.g))) rfl (by rw [ints_eqV]) ?_
      refine WL.y (Yl.pickT rfl rfl) rfl ?_ -- t17
      refine WL.y (Yl.move rfl) rfl ?_ -- t18
      refine WL.both (t := 18) rfl (fun g18 => ?_) (fun g18 => ?_)
      · refine WL.on rfl rfl ?_
        refine WL.y (Yl.field fo27_1 rfl) rfl ?_ -- t19
        refine WL.on rfl rfl ?_
        refine WL.y (Yl.load on24 rfl (by repeat (first | exact Take1.head | apply Take1.tail)) b16) rfl ?_ -- t20
        refine WL.on rfl rfl ?_
        refine WL.y (Yl.field fo27_1 rfl) rfl ?_ -- t21
        refine WL.on rfl rfl ?_
        refine WL.y (Yl.load on24 rfl (by repeat (first | exact Take1.head | apply Take1.tail)) a16) rfl ?_ -- t22
        refine WL.on rfl rfl ?_
        refine WL.y (Yl.add rfl rfl rfl) rfl ?_ -- t23
        refine WL.say (t := 23) (v' := .int .u64 (r.e + 1)) rfl (by have := (mayF_iff h1).1 g7; rw [u64_in _ (by omega)]) ?_
        refine WL.on rfl rfl ?_
        refine WL.y (Yl.eql rfl rfl) rfl ?_ -- t24
        refine WL.y (Yl.pickT rfl rfl) rfl ?_ -- t25
        refine WL.y (Yl.move rfl) rfl ?_ -- t26
        refine WL.both (t := 26) rfl (fun g26 => ?_) (fun g26 => ?_)
        · refine WL.on rfl rfl ?_
          refine WL.y (Yl.loadN ag27 rfl (by repeat (first | exact Take1.head | apply Take1.tail)) (by rw [Rs.len18 hg]; rfl) (rall hg)) rfl ?_ -- t27
          refine WL.on rfl rfl ?_
          refine WL.y (Yl.loadN ag27 rfl (by repeat (first | exact Take1.head | apply Take1.tail)) (by rw [Rs.len18 hg2]; rfl) (rall hg2)) rfl ?_ -- t28
          refine WL.on rfl rfl ?_
          refine WL.callC (xs := [.tmp 27, .tmp 28]) (cap := []) rfl rfl en41 (by repeat (first | exact TakeL.nil | (apply TakeL.cons; · repeat (first | exact Take1.head | apply Take1.tail)))) (fun w hw => came_any r q ms ns hg hg2 h1 h2 hl hl2 w hw.left.here) rfl ?_ -- t29 hailer/roster.Came
          rintro ⟨p29, q29, o29⟩ -
          refine WL.on rfl rfl ?_
          refine WL.callC (xs := [.tmp 29]) (cap := []) rfl rfl en40 (by repeat (first | exact TakeL.nil | (apply TakeL.cons; · repeat (first | exact Take1.head | apply Take1.tail)))) (fun w hw => some_any 59 en59 _ _ _ cameYs_size w hw.left.here) rfl ?_ -- t30 hailer/roster.some
          rintro ⟨⟩ -
          refine WL.on rfl rfl ?_
          refine WL.y (Yl.move rfl) rfl ?_ -- t31
          refine WL.both (t := 31) rfl (fun g31 => ?_) (fun g31 => ?_)
          · refine WL.off rfl rfl rfl rfl ?_ -- t32
            refine WL.off rfl rfl rfl rfl ?_ -- t33
            refine WL.off rfl rfl rfl rfl ?_ -- t34
            refine WL.off rfl rfl rfl rfl ?_ -- t35
            refine WL.on rfl rfl ?_
            refine WL.y (Yl.pickT rfl rfl) rfl ?_ -- t36
            refine WL.y (Yl.pickT rfl rfl) rfl ?_ -- t37
            refine WL.y (Yl.assign rfl) rfl ?_ -- t4
            refine WL.nil ?_
            refine WC.ret ?_
            repeat (first | (with_reducible refine peelT ?_) | (with_reducible refine peelB ?_) | (with_reducible refine peelTX ?_) | (with_reducible refine peelBX ?_) | (with_reducible refine peelBN ?_) | (with_reducible refine peelBO rfl ?_))
            exact ret1 (.inr rfl) Try.results14 rfl fun w' h => ⟨(), trivial, by unfold folF; rw [g7, g11, g18, g26, g31]; rfl, h.sub (by repeat (first | exact TakeL.nil | (apply TakeL.cons; · repeat (first | exact Take1.head | apply Take1.tail))))⟩
          · refine WL.on rfl rfl ?_
            refine WL.y (Yl.loadN ag27 rfl (by repeat (first | exact Take1.head | apply Take1.tail)) (by rw [Rs.len18 hg2]; rfl) (rall hg2)) rfl ?_ -- t32
            refine WL.on rfl rfl ?_
            refine WL.y (Yl.loadN ag27 rfl (by repeat (first | exact Take1.head | apply Take1.tail)) (by rw [Rs.len18 hg]; rfl) (rall hg)) rfl ?_ -- t33
            refine WL.on rfl rfl ?_
            refine WL.callC (xs := [.tmp 32, .tmp 33]) (cap := []) rfl rfl en41 (by repeat (first | exact TakeL.nil | (apply TakeL.cons; · repeat (first | exact Take1.head | apply Take1.tail)))) (fun w hw => came_any q r ns ms hg2 hg h2 h1 hl2 hl w hw.left.here) rfl ?_ -- t34 hailer/roster.Came
            rintro ⟨p34, q34, o34⟩ -
            refine WL.on rfl rfl ?_
            refine WL.callC (xs := [.tmp 34]) (cap := []) rfl rfl en40 (by repeat (first | exact TakeL.nil | (apply TakeL.cons; · repeat (first | exact Take1.head | apply Take1.tail)))) (fun w hw => some_any 59 en59 _ _ _ cameYs_size w hw.left.here) rfl ?_ -- t35 hailer/roster.some
            rintro ⟨⟩ -
            refine WL.on rfl rfl ?_
            refine WL.y (Yl.pickF rfl rfl) rfl ?_ -- t36
            refine WL.y (Yl.pickT rfl rfl) rfl ?_ -- t37
            refine WL.y (Yl.assign rfl) rfl ?_ -- t4
            refine WL.nil ?_
            refine WC.ret ?_
            repeat (first | (with_reducible refine peelT ?_) | (with_reducible refine peelB ?_) | (with_reducible refine peelTX ?_) | (with_reducible refine peelBX ?_) | (with_reducible refine peelBN ?_) | (with_reducible refine peelBO rfl ?_))
            exact ret1 (.inr rfl) Try.results14 rfl fun w' h => ⟨(), trivial, by unfold folF; rw [g7, g11, g18, g26, g31]; rfl, h.sub (by repeat (first | exact TakeL.nil | (apply TakeL.cons; · repeat (first | exact Take1.head | apply Take1.tail))))⟩
        · refine WL.off rfl rfl rfl rfl ?_ -- t27
          refine WL.off rfl rfl rfl rfl ?_ -- t28
          refine WL.off rfl rfl rfl rfl ?_ -- t29
          refine WL.off rfl rfl rfl rfl ?_ -- t30
          refine WL.off rfl rfl rfl rfl ?_ -- t31
          refine WL.offU rfl rfl rfl ?_ -- t32
          refine WL.offU rfl rfl rfl ?_ -- t33
          refine WL.offU rfl rfl rfl ?_ -- t34
          refine WL.offU rfl rfl rfl ?_ -- t35
          refine WL.off rfl rfl rfl rfl ?_ -- t36
          refine WL.y (Yl.pickF rfl rfl) rfl ?_ -- t37
          refine WL.y (Yl.assign rfl) rfl ?_ -- t4
          refine WL.nil ?_
          refine WC.ret ?_
          repeat (first | (with_reducible refine peelT ?_) | (with_reducible refine peelB ?_) | (with_reducible refine peelTX ?_) | (with_reducible refine peelBX ?_) | (with_reducible refine peelBN ?_) | (with_reducible refine peelBO rfl ?_))
          exact ret1 (.inr rfl) Try.results14 rfl fun w' h => ⟨(), trivial, by unfold folF; rw [g26]; simp, h.sub (by repeat (first | exact TakeL.nil | (apply TakeL.cons; · repeat (first | exact Take1.head | apply Take1.tail))))⟩
      · refine WL.off rfl rfl rfl rfl ?_ -- t19
        refine WL.off rfl rfl rfl rfl ?_ -- t20
        refine WL.off rfl rfl rfl rfl ?_ -- t21
        refine WL.off rfl rfl rfl rfl ?_ -- t22
        refine WL.off rfl rfl rfl rfl ?_ -- t23
        refine WL.off rfl rfl rfl rfl ?_ -- t24
        refine WL.y (Yl.pickF rfl rfl) rfl ?_ -- t25
        refine WL.y (Yl.move rfl) rfl ?_ -- t26
        refine WL.off rfl rfl rfl rfl ?_ -- t27
        refine WL.off rfl rfl rfl rfl ?_ -- t28
        refine WL.off rfl rfl rfl rfl ?_ -- t29
        refine WL.off rfl rfl rfl rfl ?_ -- t30
        refine WL.off rfl rfl rfl rfl ?_ -- t31
        refine WL.offU rfl rfl rfl ?_ -- t32
        refine WL.offU rfl rfl rfl ?_ -- t33
        refine WL.offU rfl rfl rfl ?_ -- t34
        refine WL.offU rfl rfl rfl ?_ -- t35
        refine WL.off rfl rfl rfl rfl ?_ -- t36
        refine WL.y (Yl.pickF rfl rfl) rfl ?_ -- t37
        refine WL.y (Yl.assign rfl) rfl ?_ -- t4
        refine WL.nil ?_
        refine WC.ret ?_
        repeat (first | (with_reducible refine peelT ?_) | (with_reducible refine peelB ?_) | (with_reducible refine peelTX ?_) | (with_reducible refine peelBX ?_) | (with_reducible refine peelBN ?_) | (with_reducible refine peelBO rfl ?_))
        exact ret1 (.inr rfl) Try.results14 rfl fun w' h => ⟨(), trivial, by unfold folF; rw [g18]; simp, h.sub (by repeat (first | exact TakeL.nil | (apply TakeL.cons; · repeat (first | exact Take1.head | apply Take1.tail))))⟩
    · refine WL.off rfl rfl rfl rfl ?_ -- t12
      refine WL.off rfl rfl rfl rfl ?_ -- t13
      refine WL.off rfl rfl rfl rfl ?_ -- t14
      refine WL.off rfl rfl rfl rfl ?_ -- t15
      refine WL.off rfl rfl rfl rfl ?_ -- t16
      refine WL.y (Yl.pickF rfl rfl) rfl ?_ -- t17
      refine WL.y (Yl.move rfl) rfl ?_ -- t18
      refine WL.off rfl rfl rfl rfl ?_ -- t19
      refine WL.off rfl rfl rfl rfl ?_ -- t20
      refine WL.off rfl rfl rfl rfl ?_ -- t21
      refine WL.off rfl rfl rfl rfl ?_ -- t22
      refine WL.off rfl rfl rfl rfl ?_ -- t23
      refine WL.off rfl rfl rfl rfl ?_ -- t24
      refine WL.y (Yl.pickF rfl rfl) rfl ?_ -- t25
      refine WL.y (Yl.move rfl) rfl ?_ -- t26
      refine WL.off rfl rfl rfl rfl ?_ -- t27
      refine WL.off rfl rfl rfl rfl ?_ -- t28
      refine WL.off rfl rfl rfl rfl ?_ -- t29
      refine WL.off rfl rfl rfl rfl ?_ -- t30
      refine WL.off rfl rfl rfl rfl ?_ -- t31
      refine WL.offU rfl rfl rfl ?_ -- t32
      refine WL.offU rfl rfl rfl ?_ -- t33
      refine WL.offU rfl rfl rfl ?_ -- t34
      refine WL.offU rfl rfl rfl ?_ -- t35
      refine WL.off rfl rfl rfl rfl ?_ -- t36
      refine WL.y (Yl.pickF rfl rfl) rfl ?_ -- t37
      refine WL.y (Yl.assign rfl) rfl ?_ -- t4
      refine WL.nil ?_
      refine WC.ret ?_
      repeat (first | (with_reducible refine peelT ?_) | (with_reducible refine peelB ?_) | (with_reducible refine peelTX ?_) | (with_reducible refine peelBX ?_) | (with_reducible refine peelBN ?_) | (with_reducible refine peelBO rfl ?_))
      exact ret1 (.inr rfl) Try.results14 rfl fun w' h => ⟨(), trivial, by unfold folF; rw [g11]; simp, h.sub (by repeat (first | exact TakeL.nil | (apply TakeL.cons; · repeat (first | exact Take1.head | apply Take1.tail))))⟩
  · refine WL.off rfl rfl rfl rfl ?_ -- t8
    refine WL.off rfl rfl rfl rfl ?_ -- t9
    refine WL.y (Yl.pickF rfl rfl) rfl ?_ -- t10
    refine WL.y (Yl.move rfl) rfl ?_ -- t11
    refine WL.off rfl rfl rfl rfl ?_ -- t12
    refine WL.off rfl rfl rfl rfl ?_ -- t13
    refine WL.off rfl rfl rfl rfl ?_ -- t14
    refine WL.off rfl rfl rfl rfl ?_ -- t15
    refine WL.off rfl rfl rfl rfl ?_ -- t16
    refine WL.y (Yl.pickF rfl rfl) rfl ?_ -- t17
    refine WL.y (Yl.move rfl) rfl ?_ -- t18
    refine WL.off rfl rfl rfl rfl ?_ -- t19
    refine WL.off rfl rfl rfl rfl ?_ -- t20
    refine WL.off rfl rfl rfl rfl ?_ -- t21
    refine WL.off rfl rfl rfl rfl ?_ -- t22
    refine WL.off rfl rfl rfl rfl ?_ -- t23
    refine WL.off rfl rfl rfl rfl ?_ -- t24
    refine WL.y (Yl.pickF rfl rfl) rfl ?_ -- t25
    refine WL.y (Yl.move rfl) rfl ?_ -- t26
    refine WL.off rfl rfl rfl rfl ?_ -- t27
    refine WL.off rfl rfl rfl rfl ?_ -- t28
    refine WL.off rfl rfl rfl rfl ?_ -- t29
    refine WL.off rfl rfl rfl rfl ?_ -- t30
    refine WL.off rfl rfl rfl rfl ?_ -- t31
    refine WL.offU rfl rfl rfl ?_ -- t32
    refine WL.offU rfl rfl rfl ?_ -- t33
    refine WL.offU rfl rfl rfl ?_ -- t34
    refine WL.offU rfl rfl rfl ?_ -- t35
    refine WL.off rfl rfl rfl rfl ?_ -- t36
    refine WL.y (Yl.pickF rfl rfl) rfl ?_ -- t37
    refine WL.y (Yl.assign rfl) rfl ?_ -- t4
    refine WL.nil ?_
    refine WC.ret ?_
    repeat (first | (with_reducible refine peelT ?_) | (with_reducible refine peelB ?_) | (with_reducible refine peelTX ?_) | (with_reducible refine peelBX ?_) | (with_reducible refine peelBN ?_) | (with_reducible refine peelBO rfl ?_))
    exact ret1 (.inr rfl) Try.results14 rfl fun w' h => ⟨(), trivial, by unfold folF; rw [g7]; rfl, h.sub (by repeat (first | exact TakeL.nil | (apply TakeL.cons; · repeat (first | exact Take1.head | apply Take1.tail))))⟩
end Go.Proofs.Ytfdnnlcfolgegaa

namespace Go.Proofs.Ytfdnnlcfolgegaa
open Go Go.RowKit

def gid : List Int := 1 :: List.replicate 15 0
theorem rdDvs {b T n : Nat} {xs : List Dv} (h : xs.length = n) (hm : n ≤ maxLen) : RdOf (blkR b T (vcs Dv.val xs)) (.slice (some ⟨b, 0, none⟩) n n) 2 n (vcs Dv.val xs) := by
  subst h
  exact RdOf.blk (Nat.le_refl _) hm (by rw [dv_len]; omega) (by rw [List.drop_zero, List.take_of_length_le (by rw [dv_len]; omega)])
theorem gid_len : gid.length = 16 := rfl
theorem gid_b : ∀ x ∈ gid, 0 ≤ x ∧ x < 256 := by
  intro x hx
  simp [gid] at hx
  omega
theorem dok {a d : Int} (h : (decide (0 ≤ a) && decide (a < 256) && decide (0 ≤ d) && decide (d < 256)) = true) : (Dv.mk a d).ok := by
  simp only [Bool.and_eq_true, decide_eq_true_eq] at h
  exact ⟨⟨h.1.1.1, h.1.1.2⟩, h.1.2, h.2⟩
def kS : List Dv := [⟨0, 3⟩, ⟨1, 0⟩, ⟨1, 2⟩]
theorem k1_ok : DOk [⟨1, 2⟩] := fun x hx => by rw [List.mem_singleton.1 hx]; exact dok (by decide)
theorem k2_ok : DOk [⟨0, 3⟩, ⟨1, 0⟩] := fun x hx => by
  simp at hx
  rcases hx with rfl | rfl <;> exact dok (by decide)
theorem kS_ok : DOk kS := fun x hx => by
  simp [kS] at hx
  rcases hx with rfl | rfl | rfl <;> exact dok (by decide)
theorem rg_ok (e : Int) (h : 0 ≤ e ∧ e < 18446744073709551616) (v : Value) : (Rs.mk gid e v).ok := ⟨gid_len, gid_b, h⟩

theorem new_kn (w : World) (hw : OK w (fpL []) [] w) : Fn Try.prog 13 [.agg (ints .u8 gid).toArray, (Dv.mk 1 2).val] [] w IsSl (fun y => .tuple #[.agg (Rs.mk gid 1 y).cells.toArray, .int .i64 0]) (fun y => [ownR y 31 2 1 (vcs Dv.val [⟨1, 2⟩])]) :=
  new_any gid gid_len ⟨1, 2⟩ w hw
theorem kn_code : codeF true 1 [⟨1, 2⟩] [⟨0, 3⟩, ⟨1, 0⟩] = 0 := by decide
theorem kn_ms : outMs true 1 [⟨1, 2⟩] [⟨0, 3⟩, ⟨1, 0⟩] = kS := by decide
theorem with_kn (v lv : Value) (w : World) (hx : RdS w (fpL []) v 2 1 (vcs Dv.val [⟨1, 2⟩])) (hy : RdS w (fpL []) lv 2 2 (vcs Dv.val [⟨0, 3⟩, ⟨1, 0⟩])) (hw : OK w (fpL []) [] w) :
    Fn Try.prog 8 [.agg (Rs.mk gid 1 v).cells.toArray, lv] [] w IsSl (fun y => .tuple #[.agg (Rs.mk gid 2 y).cells.toArray, .int .i64 0]) (fun y => [ownR y 31 2 3 (vcs Dv.val kS)]) := by
  have h := with_any (Rs.mk gid 1 v) (rg_ok 1 (by omega) v) [⟨1, 2⟩] [⟨0, 3⟩, ⟨1, 0⟩] lv k1_ok k2_ok (by decide) w hx hy hw
  simp only [kn_ms, outRs, kn_code, if_true] at h
  refine Calls.mono h ?_
  rintro e w' ⟨x, a, b⟩
  exact ⟨x, a.sl, b⟩
/-- One device that cannot come, or go. -/
theorem with_bad (c : Int) (d : Dv) (hd : d.ok) (hc : codeF true 1 [⟨1, 2⟩] [d] = c) (h0 : c ≠ 0) (v lv : Value) (w : World) (hx : RdS w (fpL []) v 2 1 (vcs Dv.val [⟨1, 2⟩])) (hy : RdS w (fpL []) lv 2 1 (vcs Dv.val [d])) (hw : OK w (fpL []) [] w) :
    Fn Try.prog 8 [.agg (Rs.mk gid 1 v).cells.toArray, lv] [] w IsSl (fun y => .tuple #[.agg Rs.zero.cells.toArray, .int .i64 c]) (fun y => []) := by
  have h := with_any (Rs.mk gid 1 v) (rg_ok 1 (by omega) v) [⟨1, 2⟩] [d] lv k1_ok (fun x hx => by rw [List.mem_singleton.1 hx]; exact hd) (by simp) w hx hy hw
  simp only [outRs, hc, if_neg h0] at h
  refine Calls.mono h ?_
  rintro e w' ⟨x, a, b, d⟩
  exact ⟨x, a.sl, b, OK.drop (A := [_]) d⟩
theorem without_bad (c : Int) (d : Dv) (hd : d.ok) (hc : codeF false 1 [⟨1, 2⟩] [d] = c) (h0 : c ≠ 0) (v lv : Value) (w : World) (hx : RdS w (fpL []) v 2 1 (vcs Dv.val [⟨1, 2⟩])) (hy : RdS w (fpL []) lv 2 1 (vcs Dv.val [d])) (hw : OK w (fpL []) [] w) :
    Fn Try.prog 9 [.agg (Rs.mk gid 1 v).cells.toArray, lv] [] w IsSl (fun y => .tuple #[.agg Rs.zero.cells.toArray, .int .i64 c]) (fun y => []) := by
  have h := without_any (Rs.mk gid 1 v) (rg_ok 1 (by omega) v) [⟨1, 2⟩] [d] lv k1_ok (fun x hx => by rw [List.mem_singleton.1 hx]; exact hd) (by simp) w hx hy hw
  simp only [outRs, hc, if_neg h0] at h
  refine Calls.mono h ?_
  rintro e w' ⟨x, a, b, d⟩
  exact ⟨x, a.sl, b, OK.drop (A := [_]) d⟩
theorem rs18 {g : List Int} {e : Int} {v : Value} (hg : g.length = 16) : ((Rs.mk g e v).cells.drop 0).take 18 = (Rs.mk g e v).cells := by
  rw [List.drop_zero, List.take_of_length_le (by rw [Rs.len18 hg]; omega)]

set_option maxRecDepth 100000 in
theorem works_any (w : World) (hw : OK w (fpL []) [] w) : Fn Try.prog 27 [] [] w (fun _ : Unit => True) (fun _ => .bool true) (fun _ => []) := by
  refine enterF Try.func27 rfl Try.ntmps27 rfl hw ?_
  refine WC.seq ?_
  refine WC.region ?_
  refine WL.y (Yl.assign rfl) rfl ?_ -- t0
  refine WL.nil ?_
  refine WC.seq ?_
  refine WC.region ?_
  refine WL.y (Yl.build rfl (cs := ints .u8 gid) (fun _ => by kernel_rfl)) rfl ?_ -- t6
  refine WL.callC (xs := [_, _]) (cap := []) rfl rfl en28 (by repeat (first | exact TakeL.nil | (apply TakeL.cons; · repeat (first | exact Take1.head | apply Take1.tail)))) (fun w hw => mkdev_any 1 2 w hw.left.here) rfl ?_ -- t7 hailer/hailerlaw23.dev
  rintro ⟨⟩ -
  refine WL.callC (xs := [.tmp 6, .tmp 7]) (cap := []) rfl rfl en13 (by repeat (first | exact TakeL.nil | (apply TakeL.cons; · repeat (first | exact Take1.head | apply Take1.tail)))) (fun w hw => new_kn w hw.left.here) rfl ?_ -- t8 hailer/roster.New
  intro y8 hy8
  refine WL.y (Yl.move rfl) rfl ?_ -- t5
  refine WL.y (Yl.extract rfl rfl) rfl ?_ -- t9
  refine WL.y (Yl.extract rfl rfl) rfl ?_ -- t10
  refine WL.to (To.alloc (cs := Rs.zero.cells) zr27 rfl) rfl ?_ -- t1
  intro b1
  refine WL.sto (Sto.agg sz27 rfl rfl (by repeat (first | exact Take1.head | apply Take1.tail)) (Rs.one (sliceOne hy8)) rfl (by rfl) (Rs.put (r := Rs.zero) rfl)) (fun _ h => nomatch h) ?_ -- st 1
  refine WL.y (Yl.assign rfl) rfl ?_ -- t2
  refine WL.nil ?_
  refine WC.midE (α := Nat × Value) (fun z => [(3, .pointer (some ⟨z.1, 0, none⟩)), (4, .int .i64 0)]) (fun z => [blkR b1 27 (Rs.mk gid 1 y8).cells, blkR z.1 27 (Rs.mk gid 2 z.2).cells, ownR z.2 31 2 3 (vcs Dv.val kS)]) (fun z => IsSl z.2) ?_ ?_
  · refine WC.drawAny (Hs := [blkR b1 27 (Rs.mk gid 1 y8).cells]) mixed (by kernel_rfl) ⟨_, (by repeat (first | exact TakeL.nil | (apply TakeL.cons; · repeat (first | exact Take1.head | apply Take1.tail))))⟩ ?_
    refine WD.take 0 rfl (by kernel_rfl) (by kernel_rfl) (by kernel_rfl) rfl rfl (Yl.loadN ag27 rfl (by repeat (first | exact Take1.head | apply Take1.tail)) rfl (rs18 rfl)) rfl ?_ -- t12
    refine WD.two 1 8 (by kernel_rfl) ?_ ?_
    · refine WO.callC (xs := [_, _]) (cap := []) rfl .no rfl rfl en28 (by repeat (first | exact TakeL.nil | (apply TakeL.cons; · repeat (first | exact Take1.head | apply Take1.tail)))) (fun w hw => mkdev_any 0 3 w hw.left.here) rfl (fun _ => ⟨_, (by repeat (first | exact TakeL.nil | (apply TakeL.cons; · repeat (first | exact Take1.head | apply Take1.tail))))⟩) ?_ -- t13 hailer/hailerlaw23.dev
      rintro ⟨⟩ -
      refine WD.two 2 8 (by kernel_rfl) ?_ ?_
      · refine WO.callC (xs := [_, _]) (cap := []) rfl .no rfl rfl en28 (by repeat (first | exact TakeL.nil | (apply TakeL.cons; · repeat (first | exact Take1.head | apply Take1.tail)))) (fun w hw => mkdev_any 1 0 w hw.left.here) rfl (fun _ => ⟨_, (by repeat (first | exact TakeL.nil | (apply TakeL.cons; · repeat (first | exact Take1.head | apply Take1.tail))))⟩) ?_ -- t14 hailer/hailerlaw23.dev
        rintro ⟨⟩ -
        refine WD.two 3 8 (by kernel_rfl) ?_ ?_
        · refine WO.to rfl rfl .no (To.buildSlice (vs := [(Dv.mk 0 3).val, (Dv.mk 1 0).val]) un25 zs31 rfl rfl (by intro u hu; simp at hu; rcases hu with rfl | rfl <;> rfl) (by decide) (by decide)) rfl (fun _ => ⟨_, (by repeat (first | exact TakeL.nil | (apply TakeL.cons; · repeat (first | exact Take1.head | apply Take1.tail))))⟩) ?_ -- t15
          intro b15
          refine WD.two 4 8 (by kernel_rfl) ?_ ?_
          · refine WO.callC (xs := [.tmp 12, .tmp 15]) (cap := []) rfl .no rfl rfl en8 (by repeat (first | exact TakeL.nil | (apply TakeL.cons; · repeat (first | exact Take1.head | apply Take1.tail)))) (fun w hw => with_kn y8 _ w (hw.src (A := []) RdOf.own (by repeat (first | exact Take1.head | apply Take1.tail))) (hw.src (A := []) (rdDvs (xs := [⟨0, 3⟩, ⟨1, 0⟩]) rfl (by unfold maxLen; omega)) (by repeat (first | exact Take1.head | apply Take1.tail))) hw.left.here) rfl (fun _ => ⟨_, (by repeat (first | exact TakeL.nil | (apply TakeL.cons; · repeat (first | exact Take1.head | apply Take1.tail))))⟩) ?_ -- t16 hailer/roster.With
            intro y16 hy16
            refine WD.take 5 rfl (by kernel_rfl) (by kernel_rfl) (by kernel_rfl) rfl rfl (Yl.move rfl) rfl ?_ -- t11
            refine WD.take 6 rfl (by kernel_rfl) (by kernel_rfl) (by kernel_rfl) rfl rfl (Yl.extract rfl rfl) rfl ?_ -- t17
            refine WD.take 7 rfl (by kernel_rfl) (by kernel_rfl) (by kernel_rfl) rfl rfl (Yl.extract rfl rfl) rfl ?_ -- t18
            refine WD.one 8 (by kernel_rfl) ?_
            refine WO.to rfl rfl .no (To.alloc (cs := Rs.zero.cells) zr27 rfl) rfl (fun _ => ⟨_, (by repeat (first | exact TakeL.nil | (apply TakeL.cons; · repeat (first | exact Take1.head | apply Take1.tail))))⟩) ?_ -- t3
            intro b3
            refine WD.one 9 (by kernel_rfl) ?_
            refine WO.sto rfl rfl .no (Sto.agg sz27 rfl rfl (by repeat (first | exact Take1.head | apply Take1.tail)) (Rs.one (sliceOne hy16)) rfl (by rfl) (Rs.put (r := Rs.zero) rfl)) ⟨_, (by repeat (first | exact TakeL.nil | (apply TakeL.cons; · repeat (first | exact Take1.head | apply Take1.tail))))⟩ ?_ -- st 2
            refine WD.take 10 rfl (by kernel_rfl) (by kernel_rfl) (by kernel_rfl) rfl rfl (Yl.assign rfl) rfl ?_ -- t4
            refine WD.done (by kernel_rfl) ?_
            exact ⟨rfl, (b3, y16), hy16, (by repeat (first | exact Sub.nil | refine Sub.cons rfl ?_)), (by repeat (first | exact Sub.nil | refine Sub.cons rfl ?_)), _, (by repeat (first | exact TakeL.nil | (apply TakeL.cons; · repeat (first | exact Take1.head | apply Take1.tail))))⟩
          · refine WO.to rfl rfl .no (To.alloc (cs := Rs.zero.cells) zr27 rfl) rfl (fun _ => ⟨_, (by repeat (first | exact TakeL.nil | (apply TakeL.cons; · repeat (first | exact Take1.head | apply Take1.tail))))⟩) ?_ -- t3
            intro b3
            refine WD.one 4 (by kernel_rfl) ?_
            refine WO.callC (xs := [.tmp 12, .tmp 15]) (cap := []) rfl .no rfl rfl en8 (by repeat (first | exact TakeL.nil | (apply TakeL.cons; · repeat (first | exact Take1.head | apply Take1.tail)))) (fun w hw => with_kn y8 _ w (hw.src (A := []) RdOf.own (by repeat (first | exact Take1.head | apply Take1.tail))) (hw.src (A := []) (rdDvs (xs := [⟨0, 3⟩, ⟨1, 0⟩]) rfl (by unfold maxLen; omega)) (by repeat (first | exact Take1.head | apply Take1.tail))) hw.left.here) rfl (fun _ => ⟨_, (by repeat (first | exact TakeL.nil | (apply TakeL.cons; · repeat (first | exact Take1.head | apply Take1.tail))))⟩) ?_ -- t16 hailer/roster.With
            intro y16 hy16
            refine WD.take 5 rfl (by kernel_rfl) (by kernel_rfl) (by kernel_rfl) rfl rfl (Yl.move rfl) rfl ?_ -- t11
            refine WD.take 6 rfl (by kernel_rfl) (by kernel_rfl) (by kernel_rfl) rfl rfl (Yl.extract rfl rfl) rfl ?_ -- t17
            refine WD.take 7 rfl (by kernel_rfl) (by kernel_rfl) (by kernel_rfl) rfl rfl (Yl.extract rfl rfl) rfl ?_ -- t18
            refine WD.one 9 (by kernel_rfl) ?_
            refine WO.sto rfl rfl .no (Sto.agg sz27 rfl rfl (by repeat (first | exact Take1.head | apply Take1.tail)) (Rs.one (sliceOne hy16)) rfl (by rfl) (Rs.put (r := Rs.zero) rfl)) ⟨_, (by repeat (first | exact TakeL.nil | (apply TakeL.cons; · repeat (first | exact Take1.head | apply Take1.tail))))⟩ ?_ -- st 2
            refine WD.take 10 rfl (by kernel_rfl) (by kernel_rfl) (by kernel_rfl) rfl rfl (Yl.assign rfl) rfl ?_ -- t4
            refine WD.done (by kernel_rfl) ?_
            exact ⟨rfl, (b3, y16), hy16, (by repeat (first | exact Sub.nil | refine Sub.cons rfl ?_)), (by repeat (first | exact Sub.nil | refine Sub.cons rfl ?_)), _, (by repeat (first | exact TakeL.nil | (apply TakeL.cons; · repeat (first | exact Take1.head | apply Take1.tail))))⟩
        · refine WO.to rfl rfl .no (To.alloc (cs := Rs.zero.cells) zr27 rfl) rfl (fun _ => ⟨_, (by repeat (first | exact TakeL.nil | (apply TakeL.cons; · repeat (first | exact Take1.head | apply Take1.tail))))⟩) ?_ -- t3
          intro b3
          refine WD.one 3 (by kernel_rfl) ?_
          refine WO.to rfl rfl .no (To.buildSlice (vs := [(Dv.mk 0 3).val, (Dv.mk 1 0).val]) un25 zs31 rfl rfl (by intro u hu; simp at hu; rcases hu with rfl | rfl <;> rfl) (by decide) (by decide)) rfl (fun _ => ⟨_, (by repeat (first | exact TakeL.nil | (apply TakeL.cons; · repeat (first | exact Take1.head | apply Take1.tail))))⟩) ?_ -- t15
          intro b15
          refine WD.one 4 (by kernel_rfl) ?_
          refine WO.callC (xs := [.tmp 12, .tmp 15]) (cap := []) rfl .no rfl rfl en8 (by repeat (first | exact TakeL.nil | (apply TakeL.cons; · repeat (first | exact Take1.head | apply Take1.tail)))) (fun w hw => with_kn y8 _ w (hw.src (A := []) RdOf.own (by repeat (first | exact Take1.head | apply Take1.tail))) (hw.src (A := []) (rdDvs (xs := [⟨0, 3⟩, ⟨1, 0⟩]) rfl (by unfold maxLen; omega)) (by repeat (first | exact Take1.head | apply Take1.tail))) hw.left.here) rfl (fun _ => ⟨_, (by repeat (first | exact TakeL.nil | (apply TakeL.cons; · repeat (first | exact Take1.head | apply Take1.tail))))⟩) ?_ -- t16 hailer/roster.With
          intro y16 hy16
          refine WD.take 5 rfl (by kernel_rfl) (by kernel_rfl) (by kernel_rfl) rfl rfl (Yl.move rfl) rfl ?_ -- t11
          refine WD.take 6 rfl (by kernel_rfl) (by kernel_rfl) (by kernel_rfl) rfl rfl (Yl.extract rfl rfl) rfl ?_ -- t17
          refine WD.take 7 rfl (by kernel_rfl) (by kernel_rfl) (by kernel_rfl) rfl rfl (Yl.extract rfl rfl) rfl ?_ -- t18
          refine WD.one 9 (by kernel_rfl) ?_
          refine WO.sto rfl rfl .no (Sto.agg sz27 rfl rfl (by repeat (first | exact Take1.head | apply Take1.tail)) (Rs.one (sliceOne hy16)) rfl (by rfl) (Rs.put (r := Rs.zero) rfl)) ⟨_, (by repeat (first | exact TakeL.nil | (apply TakeL.cons; · repeat (first | exact Take1.head | apply Take1.tail))))⟩ ?_ -- st 2
          refine WD.take 10 rfl (by kernel_rfl) (by kernel_rfl) (by kernel_rfl) rfl rfl (Yl.assign rfl) rfl ?_ -- t4
          refine WD.done (by kernel_rfl) ?_
          exact ⟨rfl, (b3, y16), hy16, (by repeat (first | exact Sub.nil | refine Sub.cons rfl ?_)), (by repeat (first | exact Sub.nil | refine Sub.cons rfl ?_)), _, (by repeat (first | exact TakeL.nil | (apply TakeL.cons; · repeat (first | exact Take1.head | apply Take1.tail))))⟩
      · refine WO.to rfl rfl .no (To.alloc (cs := Rs.zero.cells) zr27 rfl) rfl (fun _ => ⟨_, (by repeat (first | exact TakeL.nil | (apply TakeL.cons; · repeat (first | exact Take1.head | apply Take1.tail))))⟩) ?_ -- t3
        intro b3
        refine WD.one 2 (by kernel_rfl) ?_
        refine WO.callC (xs := [_, _]) (cap := []) rfl .no rfl rfl en28 (by repeat (first | exact TakeL.nil | (apply TakeL.cons; · repeat (first | exact Take1.head | apply Take1.tail)))) (fun w hw => mkdev_any 1 0 w hw.left.here) rfl (fun _ => ⟨_, (by repeat (first | exact TakeL.nil | (apply TakeL.cons; · repeat (first | exact Take1.head | apply Take1.tail))))⟩) ?_ -- t14 hailer/hailerlaw23.dev
        rintro ⟨⟩ -
        refine WD.one 3 (by kernel_rfl) ?_
        refine WO.to rfl rfl .no (To.buildSlice (vs := [(Dv.mk 0 3).val, (Dv.mk 1 0).val]) un25 zs31 rfl rfl (by intro u hu; simp at hu; rcases hu with rfl | rfl <;> rfl) (by decide) (by decide)) rfl (fun _ => ⟨_, (by repeat (first | exact TakeL.nil | (apply TakeL.cons; · repeat (first | exact Take1.head | apply Take1.tail))))⟩) ?_ -- t15
        intro b15
        refine WD.one 4 (by kernel_rfl) ?_
        refine WO.callC (xs := [.tmp 12, .tmp 15]) (cap := []) rfl .no rfl rfl en8 (by repeat (first | exact TakeL.nil | (apply TakeL.cons; · repeat (first | exact Take1.head | apply Take1.tail)))) (fun w hw => with_kn y8 _ w (hw.src (A := []) RdOf.own (by repeat (first | exact Take1.head | apply Take1.tail))) (hw.src (A := []) (rdDvs (xs := [⟨0, 3⟩, ⟨1, 0⟩]) rfl (by unfold maxLen; omega)) (by repeat (first | exact Take1.head | apply Take1.tail))) hw.left.here) rfl (fun _ => ⟨_, (by repeat (first | exact TakeL.nil | (apply TakeL.cons; · repeat (first | exact Take1.head | apply Take1.tail))))⟩) ?_ -- t16 hailer/roster.With
        intro y16 hy16
        refine WD.take 5 rfl (by kernel_rfl) (by kernel_rfl) (by kernel_rfl) rfl rfl (Yl.move rfl) rfl ?_ -- t11
        refine WD.take 6 rfl (by kernel_rfl) (by kernel_rfl) (by kernel_rfl) rfl rfl (Yl.extract rfl rfl) rfl ?_ -- t17
        refine WD.take 7 rfl (by kernel_rfl) (by kernel_rfl) (by kernel_rfl) rfl rfl (Yl.extract rfl rfl) rfl ?_ -- t18
        refine WD.one 9 (by kernel_rfl) ?_
        refine WO.sto rfl rfl .no (Sto.agg sz27 rfl rfl (by repeat (first | exact Take1.head | apply Take1.tail)) (Rs.one (sliceOne hy16)) rfl (by rfl) (Rs.put (r := Rs.zero) rfl)) ⟨_, (by repeat (first | exact TakeL.nil | (apply TakeL.cons; · repeat (first | exact Take1.head | apply Take1.tail))))⟩ ?_ -- st 2
        refine WD.take 10 rfl (by kernel_rfl) (by kernel_rfl) (by kernel_rfl) rfl rfl (Yl.assign rfl) rfl ?_ -- t4
        refine WD.done (by kernel_rfl) ?_
        exact ⟨rfl, (b3, y16), hy16, (by repeat (first | exact Sub.nil | refine Sub.cons rfl ?_)), (by repeat (first | exact Sub.nil | refine Sub.cons rfl ?_)), _, (by repeat (first | exact TakeL.nil | (apply TakeL.cons; · repeat (first | exact Take1.head | apply Take1.tail))))⟩
    · refine WO.to rfl rfl .no (To.alloc (cs := Rs.zero.cells) zr27 rfl) rfl (fun _ => ⟨_, (by repeat (first | exact TakeL.nil | (apply TakeL.cons; · repeat (first | exact Take1.head | apply Take1.tail))))⟩) ?_ -- t3
      intro b3
      refine WD.one 1 (by kernel_rfl) ?_
      refine WO.callC (xs := [_, _]) (cap := []) rfl .no rfl rfl en28 (by repeat (first | exact TakeL.nil | (apply TakeL.cons; · repeat (first | exact Take1.head | apply Take1.tail)))) (fun w hw => mkdev_any 0 3 w hw.left.here) rfl (fun _ => ⟨_, (by repeat (first | exact TakeL.nil | (apply TakeL.cons; · repeat (first | exact Take1.head | apply Take1.tail))))⟩) ?_ -- t13 hailer/hailerlaw23.dev
      rintro ⟨⟩ -
      refine WD.one 2 (by kernel_rfl) ?_
      refine WO.callC (xs := [_, _]) (cap := []) rfl .no rfl rfl en28 (by repeat (first | exact TakeL.nil | (apply TakeL.cons; · repeat (first | exact Take1.head | apply Take1.tail)))) (fun w hw => mkdev_any 1 0 w hw.left.here) rfl (fun _ => ⟨_, (by repeat (first | exact TakeL.nil | (apply TakeL.cons; · repeat (first | exact Take1.head | apply Take1.tail))))⟩) ?_ -- t14 hailer/hailerlaw23.dev
      rintro ⟨⟩ -
      refine WD.one 3 (by kernel_rfl) ?_
      refine WO.to rfl rfl .no (To.buildSlice (vs := [(Dv.mk 0 3).val, (Dv.mk 1 0).val]) un25 zs31 rfl rfl (by intro u hu; simp at hu; rcases hu with rfl | rfl <;> rfl) (by decide) (by decide)) rfl (fun _ => ⟨_, (by repeat (first | exact TakeL.nil | (apply TakeL.cons; · repeat (first | exact Take1.head | apply Take1.tail))))⟩) ?_ -- t15
      intro b15
      refine WD.one 4 (by kernel_rfl) ?_
      refine WO.callC (xs := [.tmp 12, .tmp 15]) (cap := []) rfl .no rfl rfl en8 (by repeat (first | exact TakeL.nil | (apply TakeL.cons; · repeat (first | exact Take1.head | apply Take1.tail)))) (fun w hw => with_kn y8 _ w (hw.src (A := []) RdOf.own (by repeat (first | exact Take1.head | apply Take1.tail))) (hw.src (A := []) (rdDvs (xs := [⟨0, 3⟩, ⟨1, 0⟩]) rfl (by unfold maxLen; omega)) (by repeat (first | exact Take1.head | apply Take1.tail))) hw.left.here) rfl (fun _ => ⟨_, (by repeat (first | exact TakeL.nil | (apply TakeL.cons; · repeat (first | exact Take1.head | apply Take1.tail))))⟩) ?_ -- t16 hailer/roster.With
      intro y16 hy16
      refine WD.take 5 rfl (by kernel_rfl) (by kernel_rfl) (by kernel_rfl) rfl rfl (Yl.move rfl) rfl ?_ -- t11
      refine WD.take 6 rfl (by kernel_rfl) (by kernel_rfl) (by kernel_rfl) rfl rfl (Yl.extract rfl rfl) rfl ?_ -- t17
      refine WD.take 7 rfl (by kernel_rfl) (by kernel_rfl) (by kernel_rfl) rfl rfl (Yl.extract rfl rfl) rfl ?_ -- t18
      refine WD.one 9 (by kernel_rfl) ?_
      refine WO.sto rfl rfl .no (Sto.agg sz27 rfl rfl (by repeat (first | exact Take1.head | apply Take1.tail)) (Rs.one (sliceOne hy16)) rfl (by rfl) (Rs.put (r := Rs.zero) rfl)) ⟨_, (by repeat (first | exact TakeL.nil | (apply TakeL.cons; · repeat (first | exact Take1.head | apply Take1.tail))))⟩ ?_ -- st 2
      refine WD.take 10 rfl (by kernel_rfl) (by kernel_rfl) (by kernel_rfl) rfl rfl (Yl.assign rfl) rfl ?_ -- t4
      refine WD.done (by kernel_rfl) ?_
      exact ⟨rfl, (b3, y16), hy16, (by repeat (first | exact Sub.nil | refine Sub.cons rfl ?_)), (by repeat (first | exact Sub.nil | refine Sub.cons rfl ?_)), _, (by repeat (first | exact TakeL.nil | (apply TakeL.cons; · repeat (first | exact Take1.head | apply Take1.tail))))⟩
  · rintro ⟨b3, y16⟩ hy16
    dsimp only [List.cons_append, List.nil_append]
    refine WC.seq ?_
    refine WC.drawAny (Hs := [blkR b1 27 (Rs.mk gid 1 y8).cells, blkR b3 27 (Rs.mk gid 2 y16).cells]) mixed (by kernel_rfl) ⟨_, (by repeat (first | exact TakeL.nil | (apply TakeL.cons; · repeat (first | exact Take1.head | apply Take1.tail))))⟩ ?_
    refine WD.take 0 rfl (by kernel_rfl) (by kernel_rfl) (by kernel_rfl) rfl rfl (Yl.move rfl) rfl ?_ -- t19
    refine WD.take 1 rfl (by kernel_rfl) (by kernel_rfl) (by kernel_rfl) rfl rfl (Yl.eql rfl rfl) rfl ?_ -- t20
    refine WD.know (t := 20) (b' := true) rfl (by first | rfl | (simp; done) | (simp; omega)) ?_
    refine WD.take 2 rfl (by kernel_rfl) (by kernel_rfl) (by kernel_rfl) rfl rfl (Yl.move rfl) rfl ?_ -- t21
    refine WD.takeOn 3 rfl (by kernel_rfl) (by kernel_rfl) (by kernel_rfl) rfl rfl rfl rfl (Yl.field fo27_1 rfl) rfl ?_ -- t22
    refine WD.takeOn 4 rfl (by kernel_rfl) (by kernel_rfl) (by kernel_rfl) rfl rfl rfl rfl (Yl.load on24 rfl (by repeat (first | exact Take1.head | apply Take1.tail)) (by rfl)) rfl ?_ -- t23
    refine WD.takeOn 5 rfl (by kernel_rfl) (by kernel_rfl) (by kernel_rfl) rfl rfl rfl rfl (Yl.eql rfl rfl) rfl ?_ -- t24
    refine WD.know (t := 24) (b' := true) rfl (by first | rfl | (simp; done) | (simp; omega)) ?_
    refine WD.take 6 rfl (by kernel_rfl) (by kernel_rfl) (by kernel_rfl) rfl rfl (Yl.pickT rfl rfl) rfl ?_ -- t25
    refine WD.take 7 rfl (by kernel_rfl) (by kernel_rfl) (by kernel_rfl) rfl rfl (Yl.move rfl) rfl ?_ -- t26
    refine WD.takeOn 8 rfl (by kernel_rfl) (by kernel_rfl) (by kernel_rfl) rfl rfl rfl rfl (Yl.move rfl) rfl ?_ -- t27
    refine WD.takeOn 9 rfl (by kernel_rfl) (by kernel_rfl) (by kernel_rfl) rfl rfl rfl rfl (Yl.eql rfl rfl) rfl ?_ -- t28
    refine WD.know (t := 28) (b' := true) rfl (by first | rfl | (simp; done) | (simp; omega)) ?_
    refine WD.take 10 rfl (by kernel_rfl) (by kernel_rfl) (by kernel_rfl) rfl rfl (Yl.pickT rfl rfl) rfl ?_ -- t29
    refine WD.take 11 rfl (by kernel_rfl) (by kernel_rfl) (by kernel_rfl) rfl rfl (Yl.move rfl) rfl ?_ -- t30
    refine WD.takeOn 12 rfl (by kernel_rfl) (by kernel_rfl) (by kernel_rfl) rfl rfl rfl rfl (Yl.loadN ag27 rfl (by repeat (first | exact Take1.head | apply Take1.tail)) rfl (rs18 rfl)) rfl ?_ -- t31
    refine WD.takeOn 13 rfl (by kernel_rfl) (by kernel_rfl) (by kernel_rfl) rfl rfl rfl rfl (Yl.build rfl (cs := ints .u8 gid) (fun _ => by kernel_rfl)) rfl ?_ -- t32
    refine WD.one 14 (by kernel_rfl) ?_
    refine WO.callC (xs := [_, _]) (cap := []) rfl (.on rfl rfl) rfl rfl en28 (by repeat (first | exact TakeL.nil | (apply TakeL.cons; · repeat (first | exact Take1.head | apply Take1.tail)))) (fun w hw => mkdev_any 0 3 w hw.left.here) rfl (fun _ => ⟨_, (by repeat (first | exact TakeL.nil | (apply TakeL.cons; · repeat (first | exact Take1.head | apply Take1.tail))))⟩) ?_ -- t33 hailer/hailerlaw23.dev
    rintro ⟨⟩ -
    refine WD.one 15 (by kernel_rfl) ?_
    refine WO.callC (xs := [_, _]) (cap := []) rfl (.on rfl rfl) rfl rfl en28 (by repeat (first | exact TakeL.nil | (apply TakeL.cons; · repeat (first | exact Take1.head | apply Take1.tail)))) (fun w hw => mkdev_any 1 0 w hw.left.here) rfl (fun _ => ⟨_, (by repeat (first | exact TakeL.nil | (apply TakeL.cons; · repeat (first | exact Take1.head | apply Take1.tail))))⟩) ?_ -- t34 hailer/hailerlaw23.dev
    rintro ⟨⟩ -
    refine WD.one 16 (by kernel_rfl) ?_
    refine WO.callC (xs := [_, _]) (cap := []) rfl (.on rfl rfl) rfl rfl en28 (by repeat (first | exact TakeL.nil | (apply TakeL.cons; · repeat (first | exact Take1.head | apply Take1.tail)))) (fun w hw => mkdev_any 1 2 w hw.left.here) rfl (fun _ => ⟨_, (by repeat (first | exact TakeL.nil | (apply TakeL.cons; · repeat (first | exact Take1.head | apply Take1.tail))))⟩) ?_ -- t35 hailer/hailerlaw23.dev
    rintro ⟨⟩ -
    refine WD.one 17 (by kernel_rfl) ?_
    refine WO.to rfl rfl (.on rfl rfl) (To.buildSlice (vs := [(Dv.mk 0 3).val, (Dv.mk 1 0).val, (Dv.mk 1 2).val]) un25 zs31 rfl rfl (by intro u hu; simp at hu; rcases hu with rfl | rfl | rfl <;> rfl) (by decide) (by decide)) rfl (fun _ => ⟨_, (by repeat (first | exact TakeL.nil | (apply TakeL.cons; · repeat (first | exact Take1.head | apply Take1.tail))))⟩) ?_ -- t36
    intro b36
    refine WD.takeOn 18 rfl (by kernel_rfl) (by kernel_rfl) (by kernel_rfl) rfl rfl rfl rfl (Yl.build rfl (cs := (Rs.mk gid 2 (.slice (some ⟨b36, 0, none⟩) 3 3)).cells) (build_ro gid_len _ _ ⟨_, _, _, rfl⟩)) rfl ?_ -- t37
    refine WD.one 19 (by kernel_rfl) ?_
    refine WO.callC (xs := [.tmp 31, .tmp 37]) (cap := []) rfl (.on rfl rfl) rfl rfl en11 (by repeat (first | exact TakeL.nil | (apply TakeL.cons; · repeat (first | exact Take1.head | apply Take1.tail)))) (fun w hw => same_any (Rs.mk gid 2 y16) (Rs.mk gid 2 (.slice (some ⟨b36, 0, none⟩) 3 3)) kS kS (rg_ok 2 (by omega) _) (rg_ok 2 (by omega) _) (by decide) kS_ok kS_ok w (hw.src (A := []) RdOf.own (by repeat (first | exact Take1.head | apply Take1.tail))) (hw.src (A := []) (rdDvs (xs := kS) rfl (by unfold maxLen; omega)) (by repeat (first | exact Take1.head | apply Take1.tail))) hw.left.here) rfl (fun _ => ⟨_, (by repeat (first | exact TakeL.nil | (apply TakeL.cons; · repeat (first | exact Take1.head | apply Take1.tail))))⟩) ?_ -- t38 hailer/hailerref23.Same
    rintro ⟨⟩ -
    refine WD.know (t := 38) (b' := true) rfl (by first | rfl | (simp; done) | (simp; omega)) ?_
    refine WD.take 20 rfl (by kernel_rfl) (by kernel_rfl) (by kernel_rfl) rfl rfl (Yl.pickT rfl rfl) rfl ?_ -- t39
    refine WD.take 21 rfl (by kernel_rfl) (by kernel_rfl) (by kernel_rfl) rfl rfl (Yl.assign rfl) rfl ?_ -- t0
    refine WD.done (by kernel_rfl) ?_
    refine WC.ret ?_
    repeat (first | (with_reducible refine peelT ?_) | (with_reducible refine peelB ?_) | (with_reducible refine peelTX ?_) | (with_reducible refine peelBX ?_) | (with_reducible refine peelBN ?_) | (with_reducible refine peelBO rfl ?_))
    exact ret1 (.inr rfl) Try.results27 rfl fun w' h => ⟨(), trivial, rfl, h.sub (by repeat (first | exact TakeL.nil | (apply TakeL.cons; · repeat (first | exact Take1.head | apply Take1.tail))))⟩
end Go.Proofs.Ytfdnnlcfolgegaa

namespace Go.Proofs.Ytfdnnlcfolgegaa
open Go Go.RowKit

theorem fol_kn (v u : Value) : folF (Rs.mk gid 1 v) (Rs.mk gid 2 u) [⟨1, 2⟩] kS = true := by unfold folF; dsimp only; rfl
theorem fol_kn2 (v u : Value) : folF (Rs.mk gid 2 v) (Rs.mk gid 1 u) kS [⟨1, 2⟩] = false := by unfold folF; dsimp only; rfl
theorem new_bad (w : World) (hw : OK w (fpL []) [] w) : Fn Try.prog 13 [.agg (ints .u8 (List.replicate 16 0)).toArray, (Dv.mk 0 4).val] [] w IsSl (fun y => .tuple #[.agg Rs.zero.cells.toArray, .int .i64 2]) (fun y => [ownR y 31 2 0 (vcs Dv.val [])]) :=
  new_any (List.replicate 16 0) rfl ⟨0, 4⟩ w hw
theorem dev1 {b T : Nat} {d : Dv} : RdOf (blkR b T (flat [d.val])) (.slice (some ⟨b, 0, none⟩) 1 1) 2 1 (vcs Dv.val [d]) := rdDvs (xs := [d]) rfl (by unfold maxLen; omega)

set_option maxRecDepth 100000 in
theorem known_any (w : World) (hw : OK w (fpL []) [] w) : Fn Try.prog 6 [] [] w (fun _ : Unit => True) (fun _ => .bool true) (fun _ => []) := by
  refine enterF Try.func6 rfl Try.ntmps6 rfl hw ?_
  refine WC.seq ?_
  refine WC.region ?_
  refine WL.y (Yl.assign rfl) rfl ?_ -- t0
  refine WL.nil ?_
  refine WC.seq ?_
  refine WC.seq ?_
  refine WC.region ?_
  refine WL.callC (xs := []) (cap := []) rfl rfl en27 (by repeat (first | exact TakeL.nil | (apply TakeL.cons; · repeat (first | exact Take1.head | apply Take1.tail)))) (fun w hw => works_any w hw.left.here) rfl ?_ -- t17 hailer/hailerlaw23.works
  rintro ⟨⟩ -
  refine WL.y (Yl.not rfl) rfl ?_ -- t18
  refine WL.know (t := 18) (b' := false) rfl (by first | rfl | (simp; done) | (simp; omega)) ?_
  refine WL.nil ?_
  refine WC.condF rfl (by first | rfl | (simp; done) | (simp; omega)) ?_
  refine WC.skip ?_
  refine WC.seq ?_
  refine WC.region ?_
  refine WL.y (Yl.build rfl (cs := ints .u8 gid) (fun _ => by kernel_rfl)) rfl ?_ -- t20
  refine WL.callC (xs := [_, _]) (cap := []) rfl rfl en28 (by repeat (first | exact TakeL.nil | (apply TakeL.cons; · repeat (first | exact Take1.head | apply Take1.tail)))) (fun w hw => mkdev_any 1 2 w hw.left.here) rfl ?_ -- t21 hailer/hailerlaw23.dev
  rintro ⟨⟩ -
  refine WL.callC (xs := [.tmp 20, .tmp 21]) (cap := []) rfl rfl en13 (by repeat (first | exact TakeL.nil | (apply TakeL.cons; · repeat (first | exact Take1.head | apply Take1.tail)))) (fun w hw => new_kn w hw.left.here) rfl ?_ -- t22 hailer/roster.New
  intro y22 hy22
  refine WL.y (Yl.move rfl) rfl ?_ -- t19
  refine WL.y (Yl.extract rfl rfl) rfl ?_ -- t23
  refine WL.y (Yl.extract rfl rfl) rfl ?_ -- t24
  refine WL.to (To.alloc (cs := Rs.zero.cells) zr27 rfl) rfl ?_ -- t1
  intro b1
  refine WL.sto (Sto.agg sz27 rfl rfl (by repeat (first | exact Take1.head | apply Take1.tail)) (Rs.one (sliceOne hy22)) rfl (by rfl) (Rs.put (r := Rs.zero) rfl)) (fun _ h => nomatch h) ?_ -- st 1
  refine WL.y (Yl.assign rfl) rfl ?_ -- t2
  refine WL.nil ?_
  refine WC.midE (α := Nat × Value) (fun z => [(3, .pointer (some ⟨z.1, 0, none⟩)), (4, .int .i64 0)]) (fun z => [blkR b1 27 (Rs.mk gid 1 y22).cells, blkR z.1 27 (Rs.mk gid 2 z.2).cells, ownR y22 31 2 1 (vcs Dv.val [⟨1, 2⟩]), ownR z.2 31 2 3 (vcs Dv.val kS)]) (fun z => IsSl z.2) ?_ ?_
  · refine WC.drawAny (Hs := [blkR b1 27 (Rs.mk gid 1 y22).cells]) mixed (by kernel_rfl) ⟨_, (by repeat (first | exact TakeL.nil | (apply TakeL.cons; · repeat (first | exact Take1.head | apply Take1.tail))))⟩ ?_
    refine WD.take 0 rfl (by kernel_rfl) (by kernel_rfl) (by kernel_rfl) rfl rfl (Yl.loadN ag27 rfl (by repeat (first | exact Take1.head | apply Take1.tail)) rfl (rs18 rfl)) rfl ?_ -- t26
    refine WD.two 1 8 (by kernel_rfl) ?_ ?_
    · refine WO.callC (xs := [_, _]) (cap := []) rfl .no rfl rfl en28 (by repeat (first | exact TakeL.nil | (apply TakeL.cons; · repeat (first | exact Take1.head | apply Take1.tail)))) (fun w hw => mkdev_any 0 3 w hw.left.here) rfl (fun _ => ⟨_, (by repeat (first | exact TakeL.nil | (apply TakeL.cons; · repeat (first | exact Take1.head | apply Take1.tail))))⟩) ?_ -- t27 hailer/hailerlaw23.dev
      rintro ⟨⟩ -
      refine WD.two 2 8 (by kernel_rfl) ?_ ?_
      · refine WO.callC (xs := [_, _]) (cap := []) rfl .no rfl rfl en28 (by repeat (first | exact TakeL.nil | (apply TakeL.cons; · repeat (first | exact Take1.head | apply Take1.tail)))) (fun w hw => mkdev_any 1 0 w hw.left.here) rfl (fun _ => ⟨_, (by repeat (first | exact TakeL.nil | (apply TakeL.cons; · repeat (first | exact Take1.head | apply Take1.tail))))⟩) ?_ -- t28 hailer/hailerlaw23.dev
        rintro ⟨⟩ -
        refine WD.two 3 8 (by kernel_rfl) ?_ ?_
        · refine WO.to rfl rfl .no (To.buildSlice (vs := [(Dv.mk 0 3).val, (Dv.mk 1 0).val]) un25 zs31 rfl rfl (by intro u hu; simp at hu; rcases hu with rfl | rfl <;> rfl) (by decide) (by decide)) rfl (fun _ => ⟨_, (by repeat (first | exact TakeL.nil | (apply TakeL.cons; · repeat (first | exact Take1.head | apply Take1.tail))))⟩) ?_ -- t29
          intro b29
          refine WD.two 4 8 (by kernel_rfl) ?_ ?_
          · refine WO.callC (xs := [.tmp 26, .tmp 29]) (cap := []) rfl .no rfl rfl en8 (by repeat (first | exact TakeL.nil | (apply TakeL.cons; · repeat (first | exact Take1.head | apply Take1.tail)))) (fun w hw => with_kn y22 _ w (hw.src (A := []) RdOf.own (by repeat (first | exact Take1.head | apply Take1.tail))) (hw.src (A := []) (rdDvs (xs := [⟨0, 3⟩, ⟨1, 0⟩]) rfl (by unfold maxLen; omega)) (by repeat (first | exact Take1.head | apply Take1.tail))) hw.left.here) rfl (fun _ => ⟨_, (by repeat (first | exact TakeL.nil | (apply TakeL.cons; · repeat (first | exact Take1.head | apply Take1.tail))))⟩) ?_ -- t30 hailer/roster.With
            intro y30 hy30
            refine WD.take 5 rfl (by kernel_rfl) (by kernel_rfl) (by kernel_rfl) rfl rfl (Yl.move rfl) rfl ?_ -- t25
            refine WD.take 6 rfl (by kernel_rfl) (by kernel_rfl) (by kernel_rfl) rfl rfl (Yl.extract rfl rfl) rfl ?_ -- t31
            refine WD.take 7 rfl (by kernel_rfl) (by kernel_rfl) (by kernel_rfl) rfl rfl (Yl.extract rfl rfl) rfl ?_ -- t32
            refine WD.one 8 (by kernel_rfl) ?_
            refine WO.to rfl rfl .no (To.alloc (cs := Rs.zero.cells) zr27 rfl) rfl (fun _ => ⟨_, (by repeat (first | exact TakeL.nil | (apply TakeL.cons; · repeat (first | exact Take1.head | apply Take1.tail))))⟩) ?_ -- t3
            intro b3
            refine WD.one 9 (by kernel_rfl) ?_
            refine WO.sto rfl rfl .no (Sto.agg sz27 rfl rfl (by repeat (first | exact Take1.head | apply Take1.tail)) (Rs.one (sliceOne hy30)) rfl (by rfl) (Rs.put (r := Rs.zero) rfl)) ⟨_, (by repeat (first | exact TakeL.nil | (apply TakeL.cons; · repeat (first | exact Take1.head | apply Take1.tail))))⟩ ?_ -- st 2
            refine WD.take 10 rfl (by kernel_rfl) (by kernel_rfl) (by kernel_rfl) rfl rfl (Yl.assign rfl) rfl ?_ -- t4
            refine WD.done (by kernel_rfl) ?_
            exact ⟨rfl, (b3, y30), hy30, (by repeat (first | exact Sub.nil | refine Sub.cons rfl ?_)), (by repeat (first | exact Sub.nil | refine Sub.cons rfl ?_)), _, (by repeat (first | exact TakeL.nil | (apply TakeL.cons; · repeat (first | exact Take1.head | apply Take1.tail))))⟩
          · refine WO.to rfl rfl .no (To.alloc (cs := Rs.zero.cells) zr27 rfl) rfl (fun _ => ⟨_, (by repeat (first | exact TakeL.nil | (apply TakeL.cons; · repeat (first | exact Take1.head | apply Take1.tail))))⟩) ?_ -- t3
            intro b3
            refine WD.one 4 (by kernel_rfl) ?_
            refine WO.callC (xs := [.tmp 26, .tmp 29]) (cap := []) rfl .no rfl rfl en8 (by repeat (first | exact TakeL.nil | (apply TakeL.cons; · repeat (first | exact Take1.head | apply Take1.tail)))) (fun w hw => with_kn y22 _ w (hw.src (A := []) RdOf.own (by repeat (first | exact Take1.head | apply Take1.tail))) (hw.src (A := []) (rdDvs (xs := [⟨0, 3⟩, ⟨1, 0⟩]) rfl (by unfold maxLen; omega)) (by repeat (first | exact Take1.head | apply Take1.tail))) hw.left.here) rfl (fun _ => ⟨_, (by repeat (first | exact TakeL.nil | (apply TakeL.cons; · repeat (first | exact Take1.head | apply Take1.tail))))⟩) ?_ -- t30 hailer/roster.With
            intro y30 hy30
            refine WD.take 5 rfl (by kernel_rfl) (by kernel_rfl) (by kernel_rfl) rfl rfl (Yl.move rfl) rfl ?_ -- t25
            refine WD.take 6 rfl (by kernel_rfl) (by kernel_rfl) (by kernel_rfl) rfl rfl (Yl.extract rfl rfl) rfl ?_ -- t31
            refine WD.take 7 rfl (by kernel_rfl) (by kernel_rfl) (by kernel_rfl) rfl rfl (Yl.extract rfl rfl) rfl ?_ -- t32
            refine WD.one 9 (by kernel_rfl) ?_
            refine WO.sto rfl rfl .no (Sto.agg sz27 rfl rfl (by repeat (first | exact Take1.head | apply Take1.tail)) (Rs.one (sliceOne hy30)) rfl (by rfl) (Rs.put (r := Rs.zero) rfl)) ⟨_, (by repeat (first | exact TakeL.nil | (apply TakeL.cons; · repeat (first | exact Take1.head | apply Take1.tail))))⟩ ?_ -- st 2
            refine WD.take 10 rfl (by kernel_rfl) (by kernel_rfl) (by kernel_rfl) rfl rfl (Yl.assign rfl) rfl ?_ -- t4
            refine WD.done (by kernel_rfl) ?_
            exact ⟨rfl, (b3, y30), hy30, (by repeat (first | exact Sub.nil | refine Sub.cons rfl ?_)), (by repeat (first | exact Sub.nil | refine Sub.cons rfl ?_)), _, (by repeat (first | exact TakeL.nil | (apply TakeL.cons; · repeat (first | exact Take1.head | apply Take1.tail))))⟩
        · refine WO.to rfl rfl .no (To.alloc (cs := Rs.zero.cells) zr27 rfl) rfl (fun _ => ⟨_, (by repeat (first | exact TakeL.nil | (apply TakeL.cons; · repeat (first | exact Take1.head | apply Take1.tail))))⟩) ?_ -- t3
          intro b3
          refine WD.one 3 (by kernel_rfl) ?_
          refine WO.to rfl rfl .no (To.buildSlice (vs := [(Dv.mk 0 3).val, (Dv.mk 1 0).val]) un25 zs31 rfl rfl (by intro u hu; simp at hu; rcases hu with rfl | rfl <;> rfl) (by decide) (by decide)) rfl (fun _ => ⟨_, (by repeat (first | exact TakeL.nil | (apply TakeL.cons; · repeat (first | exact Take1.head | apply Take1.tail))))⟩) ?_ -- t29
          intro b29
          refine WD.one 4 (by kernel_rfl) ?_
          refine WO.callC (xs := [.tmp 26, .tmp 29]) (cap := []) rfl .no rfl rfl en8 (by repeat (first | exact TakeL.nil | (apply TakeL.cons; · repeat (first | exact Take1.head | apply Take1.tail)))) (fun w hw => with_kn y22 _ w (hw.src (A := []) RdOf.own (by repeat (first | exact Take1.head | apply Take1.tail))) (hw.src (A := []) (rdDvs (xs := [⟨0, 3⟩, ⟨1, 0⟩]) rfl (by unfold maxLen; omega)) (by repeat (first | exact Take1.head | apply Take1.tail))) hw.left.here) rfl (fun _ => ⟨_, (by repeat (first | exact TakeL.nil | (apply TakeL.cons; · repeat (first | exact Take1.head | apply Take1.tail))))⟩) ?_ -- t30 hailer/roster.With
          intro y30 hy30
          refine WD.take 5 rfl (by kernel_rfl) (by kernel_rfl) (by kernel_rfl) rfl rfl (Yl.move rfl) rfl ?_ -- t25
          refine WD.take 6 rfl (by kernel_rfl) (by kernel_rfl) (by kernel_rfl) rfl rfl (Yl.extract rfl rfl) rfl ?_ -- t31
          refine WD.take 7 rfl (by kernel_rfl) (by kernel_rfl) (by kernel_rfl) rfl rfl (Yl.extract rfl rfl) rfl ?_ -- t32
          refine WD.one 9 (by kernel_rfl) ?_
          refine WO.sto rfl rfl .no (Sto.agg sz27 rfl rfl (by repeat (first | exact Take1.head | apply Take1.tail)) (Rs.one (sliceOne hy30)) rfl (by rfl) (Rs.put (r := Rs.zero) rfl)) ⟨_, (by repeat (first | exact TakeL.nil | (apply TakeL.cons; · repeat (first | exact Take1.head | apply Take1.tail))))⟩ ?_ -- st 2
          refine WD.take 10 rfl (by kernel_rfl) (by kernel_rfl) (by kernel_rfl) rfl rfl (Yl.assign rfl) rfl ?_ -- t4
          refine WD.done (by kernel_rfl) ?_
          exact ⟨rfl, (b3, y30), hy30, (by repeat (first | exact Sub.nil | refine Sub.cons rfl ?_)), (by repeat (first | exact Sub.nil | refine Sub.cons rfl ?_)), _, (by repeat (first | exact TakeL.nil | (apply TakeL.cons; · repeat (first | exact Take1.head | apply Take1.tail))))⟩
      · refine WO.to rfl rfl .no (To.alloc (cs := Rs.zero.cells) zr27 rfl) rfl (fun _ => ⟨_, (by repeat (first | exact TakeL.nil | (apply TakeL.cons; · repeat (first | exact Take1.head | apply Take1.tail))))⟩) ?_ -- t3
        intro b3
        refine WD.one 2 (by kernel_rfl) ?_
        refine WO.callC (xs := [_, _]) (cap := []) rfl .no rfl rfl en28 (by repeat (first | exact TakeL.nil | (apply TakeL.cons; · repeat (first | exact Take1.head | apply Take1.tail)))) (fun w hw => mkdev_any 1 0 w hw.left.here) rfl (fun _ => ⟨_, (by repeat (first | exact TakeL.nil | (apply TakeL.cons; · repeat (first | exact Take1.head | apply Take1.tail))))⟩) ?_ -- t28 hailer/hailerlaw23.dev
        rintro ⟨⟩ -
        refine WD.one 3 (by kernel_rfl) ?_
        refine WO.to rfl rfl .no (To.buildSlice (vs := [(Dv.mk 0 3).val, (Dv.mk 1 0).val]) un25 zs31 rfl rfl (by intro u hu; simp at hu; rcases hu with rfl | rfl <;> rfl) (by decide) (by decide)) rfl (fun _ => ⟨_, (by repeat (first | exact TakeL.nil | (apply TakeL.cons; · repeat (first | exact Take1.head | apply Take1.tail))))⟩) ?_ -- t29
        intro b29
        refine WD.one 4 (by kernel_rfl) ?_
        refine WO.callC (xs := [.tmp 26, .tmp 29]) (cap := []) rfl .no rfl rfl en8 (by repeat (first | exact TakeL.nil | (apply TakeL.cons; · repeat (first | exact Take1.head | apply Take1.tail)))) (fun w hw => with_kn y22 _ w (hw.src (A := []) RdOf.own (by repeat (first | exact Take1.head | apply Take1.tail))) (hw.src (A := []) (rdDvs (xs := [⟨0, 3⟩, ⟨1, 0⟩]) rfl (by unfold maxLen; omega)) (by repeat (first | exact Take1.head | apply Take1.tail))) hw.left.here) rfl (fun _ => ⟨_, (by repeat (first | exact TakeL.nil | (apply TakeL.cons; · repeat (first | exact Take1.head | apply Take1.tail))))⟩) ?_ -- t30 hailer/roster.With
        intro y30 hy30
        refine WD.take 5 rfl (by kernel_rfl) (by kernel_rfl) (by kernel_rfl) rfl rfl (Yl.move rfl) rfl ?_ -- t25
        refine WD.take 6 rfl (by kernel_rfl) (by kernel_rfl) (by kernel_rfl) rfl rfl (Yl.extract rfl rfl) rfl ?_ -- t31
        refine WD.take 7 rfl (by kernel_rfl) (by kernel_rfl) (by kernel_rfl) rfl rfl (Yl.extract rfl rfl) rfl ?_ -- t32
        refine WD.one 9 (by kernel_rfl) ?_
        refine WO.sto rfl rfl .no (Sto.agg sz27 rfl rfl (by repeat (first | exact Take1.head | apply Take1.tail)) (Rs.one (sliceOne hy30)) rfl (by rfl) (Rs.put (r := Rs.zero) rfl)) ⟨_, (by repeat (first | exact TakeL.nil | (apply TakeL.cons; · repeat (first | exact Take1.head | apply Take1.tail))))⟩ ?_ -- st 2
        refine WD.take 10 rfl (by kernel_rfl) (by kernel_rfl) (by kernel_rfl) rfl rfl (Yl.assign rfl) rfl ?_ -- t4
        refine WD.done (by kernel_rfl) ?_
        exact ⟨rfl, (b3, y30), hy30, (by repeat (first | exact Sub.nil | refine Sub.cons rfl ?_)), (by repeat (first | exact Sub.nil | refine Sub.cons rfl ?_)), _, (by repeat (first | exact TakeL.nil | (apply TakeL.cons; · repeat (first | exact Take1.head | apply Take1.tail))))⟩
    · refine WO.to rfl rfl .no (To.alloc (cs := Rs.zero.cells) zr27 rfl) rfl (fun _ => ⟨_, (by repeat (first | exact TakeL.nil | (apply TakeL.cons; · repeat (first | exact Take1.head | apply Take1.tail))))⟩) ?_ -- t3
      intro b3
      refine WD.one 1 (by kernel_rfl) ?_
      refine WO.callC (xs := [_, _]) (cap := []) rfl .no rfl rfl en28 (by repeat (first | exact TakeL.nil | (apply TakeL.cons; · repeat (first | exact Take1.head | apply Take1.tail)))) (fun w hw => mkdev_any 0 3 w hw.left.here) rfl (fun _ => ⟨_, (by repeat (first | exact TakeL.nil | (apply TakeL.cons; · repeat (first | exact Take1.head | apply Take1.tail))))⟩) ?_ -- t27 hailer/hailerlaw23.dev
      rintro ⟨⟩ -
      refine WD.one 2 (by kernel_rfl) ?_
      refine WO.callC (xs := [_, _]) (cap := []) rfl .no rfl rfl en28 (by repeat (first | exact TakeL.nil | (apply TakeL.cons; · repeat (first | exact Take1.head | apply Take1.tail)))) (fun w hw => mkdev_any 1 0 w hw.left.here) rfl (fun _ => ⟨_, (by repeat (first | exact TakeL.nil | (apply TakeL.cons; · repeat (first | exact Take1.head | apply Take1.tail))))⟩) ?_ -- t28 hailer/hailerlaw23.dev
      rintro ⟨⟩ -
      refine WD.one 3 (by kernel_rfl) ?_
      refine WO.to rfl rfl .no (To.buildSlice (vs := [(Dv.mk 0 3).val, (Dv.mk 1 0).val]) un25 zs31 rfl rfl (by intro u hu; simp at hu; rcases hu with rfl | rfl <;> rfl) (by decide) (by decide)) rfl (fun _ => ⟨_, (by repeat (first | exact TakeL.nil | (apply TakeL.cons; · repeat (first | exact Take1.head | apply Take1.tail))))⟩) ?_ -- t29
      intro b29
      refine WD.one 4 (by kernel_rfl) ?_
      refine WO.callC (xs := [.tmp 26, .tmp 29]) (cap := []) rfl .no rfl rfl en8 (by repeat (first | exact TakeL.nil | (apply TakeL.cons; · repeat (first | exact Take1.head | apply Take1.tail)))) (fun w hw => with_kn y22 _ w (hw.src (A := []) RdOf.own (by repeat (first | exact Take1.head | apply Take1.tail))) (hw.src (A := []) (rdDvs (xs := [⟨0, 3⟩, ⟨1, 0⟩]) rfl (by unfold maxLen; omega)) (by repeat (first | exact Take1.head | apply Take1.tail))) hw.left.here) rfl (fun _ => ⟨_, (by repeat (first | exact TakeL.nil | (apply TakeL.cons; · repeat (first | exact Take1.head | apply Take1.tail))))⟩) ?_ -- t30 hailer/roster.With
      intro y30 hy30
      refine WD.take 5 rfl (by kernel_rfl) (by kernel_rfl) (by kernel_rfl) rfl rfl (Yl.move rfl) rfl ?_ -- t25
      refine WD.take 6 rfl (by kernel_rfl) (by kernel_rfl) (by kernel_rfl) rfl rfl (Yl.extract rfl rfl) rfl ?_ -- t31
      refine WD.take 7 rfl (by kernel_rfl) (by kernel_rfl) (by kernel_rfl) rfl rfl (Yl.extract rfl rfl) rfl ?_ -- t32
      refine WD.one 9 (by kernel_rfl) ?_
      refine WO.sto rfl rfl .no (Sto.agg sz27 rfl rfl (by repeat (first | exact Take1.head | apply Take1.tail)) (Rs.one (sliceOne hy30)) rfl (by rfl) (Rs.put (r := Rs.zero) rfl)) ⟨_, (by repeat (first | exact TakeL.nil | (apply TakeL.cons; · repeat (first | exact Take1.head | apply Take1.tail))))⟩ ?_ -- st 2
      refine WD.take 10 rfl (by kernel_rfl) (by kernel_rfl) (by kernel_rfl) rfl rfl (Yl.assign rfl) rfl ?_ -- t4
      refine WD.done (by kernel_rfl) ?_
      exact ⟨rfl, (b3, y30), hy30, (by repeat (first | exact Sub.nil | refine Sub.cons rfl ?_)), (by repeat (first | exact Sub.nil | refine Sub.cons rfl ?_)), _, (by repeat (first | exact TakeL.nil | (apply TakeL.cons; · repeat (first | exact Take1.head | apply Take1.tail))))⟩
  · rintro ⟨b3, y30⟩ hy30
    dsimp only [List.cons_append, List.nil_append]
    refine WC.view (fun w h => h.readOnly (v := y22) (by repeat (first | exact Take1.head | apply Take1.tail))) ?_
    refine WC.view (fun w h => h.readOnly (v := y30) (by repeat (first | exact Take1.head | apply Take1.tail))) ?_
    refine WC.seq ?_
    refine WC.region ?_
    refine WL.y (Yl.loadN ag27 rfl (by repeat (first | exact Take1.head | apply Take1.tail)) rfl (rs18 rfl)) rfl ?_ -- t34
    refine WL.callC (xs := [.tmp 34]) (cap := []) rfl rfl en17 (by repeat (first | exact TakeL.nil | (apply TakeL.cons; · repeat (first | exact Take1.head | apply Take1.tail)))) (fun w hw => head_any (Rs.mk gid 2 y30) kS rfl (by decide) w (hw.src (A := []) RdOf.rd' (by repeat (first | exact Take1.head | apply Take1.tail))) hw.left.here) rfl ?_ -- t35 hailer/roster.Head
    rintro ⟨⟩ -
    refine WL.y (Yl.move rfl) rfl ?_ -- t33
    refine WL.y (Yl.extract rfl rfl) rfl ?_ -- t36
    refine WL.y (Yl.extract rfl rfl) rfl ?_ -- t37
    refine WL.to (To.alloc (cs := d0.cells) zr31 rfl) rfl ?_ -- t5
    intro b5
    refine WL.sto (Sto.agg sz31 rfl rfl (by repeat (first | exact Take1.head | apply Take1.tail)) (Dv.ones (hdF kS)) rfl (by rfl) (show _ = (hdF kS).cells from rfl)) (fun _ h => nomatch h) ?_ -- st 3
    refine WL.y (Yl.assign rfl) rfl ?_ -- t6
    refine WL.nil ?_
    refine WC.midK [(8, .int .i64 6)] [blkR b1 27 (Rs.mk gid 1 y22).cells, blkR b3 27 (Rs.mk gid 2 y30).cells, rdR y22 2 1 (vcs Dv.val [⟨1, 2⟩]), rdR y30 2 3 (vcs Dv.val kS), blkR b5 31 (hdF kS).cells] ?_ ?_
    · refine WC.drawAny (Hs := [blkR b1 27 (Rs.mk gid 1 y22).cells]) mixed (by kernel_rfl) ⟨_, (by repeat (first | exact TakeL.nil | (apply TakeL.cons; · repeat (first | exact Take1.head | apply Take1.tail))))⟩ ?_
      refine WD.take 0 rfl (by kernel_rfl) (by kernel_rfl) (by kernel_rfl) rfl rfl (Yl.loadN ag27 rfl (by repeat (first | exact Take1.head | apply Take1.tail)) rfl (rs18 rfl)) rfl ?_ -- t39
      refine WD.two 1 7 (by kernel_rfl) ?_ ?_
      · refine WO.callC (xs := [_, _]) (cap := []) rfl .no rfl rfl en28 (by repeat (first | exact TakeL.nil | (apply TakeL.cons; · repeat (first | exact Take1.head | apply Take1.tail)))) (fun w hw => mkdev_any 1 2 w hw.left.here) rfl (fun _ => ⟨_, (by repeat (first | exact TakeL.nil | (apply TakeL.cons; · repeat (first | exact Take1.head | apply Take1.tail))))⟩) ?_ -- t40 hailer/hailerlaw23.dev
        rintro ⟨⟩ -
        refine WD.two 2 7 (by kernel_rfl) ?_ ?_
        · refine WO.to rfl rfl .no (To.buildSlice (vs := [(Dv.mk 1 2).val]) un25 zs31 rfl rfl (by intro u hu; simp at hu; subst hu; rfl) (by decide) (by decide)) rfl (fun _ => ⟨_, (by repeat (first | exact TakeL.nil | (apply TakeL.cons; · repeat (first | exact Take1.head | apply Take1.tail))))⟩) ?_ -- t41
          intro b41
          refine WD.two 3 7 (by kernel_rfl) ?_ ?_
          · refine WO.callC (xs := [.tmp 39, .tmp 41]) (cap := []) rfl .no rfl rfl en8 (by repeat (first | exact TakeL.nil | (apply TakeL.cons; · repeat (first | exact Take1.head | apply Take1.tail)))) (fun w hw => with_bad 6 ⟨1, 2⟩ (dok (by decide)) (by decide) (by decide) y22 _ w (hw.src (A := []) RdOf.rd' (by repeat (first | exact Take1.head | apply Take1.tail))) (hw.src (A := []) dev1 (by repeat (first | exact Take1.head | apply Take1.tail))) hw.left.here) rfl (fun _ => ⟨_, (by repeat (first | exact TakeL.nil | (apply TakeL.cons; · repeat (first | exact Take1.head | apply Take1.tail))))⟩) ?_ -- t42 hailer/roster.With
            rintro y42 -
            refine WD.take 4 rfl (by kernel_rfl) (by kernel_rfl) (by kernel_rfl) rfl rfl (Yl.move rfl) rfl ?_ -- t38
            refine WD.take 5 rfl (by kernel_rfl) (by kernel_rfl) (by kernel_rfl) rfl rfl (Yl.extract rfl rfl) rfl ?_ -- t43
            refine WD.take 6 rfl (by kernel_rfl) (by kernel_rfl) (by kernel_rfl) rfl rfl (Yl.extract rfl rfl) rfl ?_ -- t44
            refine WD.one 7 (by kernel_rfl) ?_
            refine WO.to rfl rfl .no (To.alloc (cs := Rs.zero.cells) zr27 rfl) rfl (fun _ => ⟨_, (by repeat (first | exact TakeL.nil | (apply TakeL.cons; · repeat (first | exact Take1.head | apply Take1.tail))))⟩) ?_ -- t7
            intro b7
            refine WD.one 8 (by kernel_rfl) ?_
            refine WO.sto rfl rfl .no (Sto.agg sz27 rfl rfl (by repeat (first | exact Take1.head | apply Take1.tail)) (Rs.one rfl) rfl (by rfl) (Rs.put (r := Rs.zero) (q := Rs.zero) rfl)) ⟨_, (by repeat (first | exact TakeL.nil | (apply TakeL.cons; · repeat (first | exact Take1.head | apply Take1.tail))))⟩ ?_ -- st 4
            refine WD.take 9 rfl (by kernel_rfl) (by kernel_rfl) (by kernel_rfl) rfl rfl (Yl.assign rfl) rfl ?_ -- t8
            refine WD.done (by kernel_rfl) ?_
            exact ⟨rfl, (by repeat (first | exact Sub.nil | refine Sub.cons rfl ?_)), (by repeat (first | exact Sub.nil | refine Sub.cons rfl ?_)), _, (by repeat (first | exact TakeL.nil | (apply TakeL.cons; · repeat (first | exact Take1.head | apply Take1.tail))))⟩
          · refine WO.to rfl rfl .no (To.alloc (cs := Rs.zero.cells) zr27 rfl) rfl (fun _ => ⟨_, (by repeat (first | exact TakeL.nil | (apply TakeL.cons; · repeat (first | exact Take1.head | apply Take1.tail))))⟩) ?_ -- t7
            intro b7
            refine WD.one 3 (by kernel_rfl) ?_
            refine WO.callC (xs := [.tmp 39, .tmp 41]) (cap := []) rfl .no rfl rfl en8 (by repeat (first | exact TakeL.nil | (apply TakeL.cons; · repeat (first | exact Take1.head | apply Take1.tail)))) (fun w hw => with_bad 6 ⟨1, 2⟩ (dok (by decide)) (by decide) (by decide) y22 _ w (hw.src (A := []) RdOf.rd' (by repeat (first | exact Take1.head | apply Take1.tail))) (hw.src (A := []) dev1 (by repeat (first | exact Take1.head | apply Take1.tail))) hw.left.here) rfl (fun _ => ⟨_, (by repeat (first | exact TakeL.nil | (apply TakeL.cons; · repeat (first | exact Take1.head | apply Take1.tail))))⟩) ?_ -- t42 hailer/roster.With
            rintro y42 -
            refine WD.take 4 rfl (by kernel_rfl) (by kernel_rfl) (by kernel_rfl) rfl rfl (Yl.move rfl) rfl ?_ -- t38
            refine WD.take 5 rfl (by kernel_rfl) (by kernel_rfl) (by kernel_rfl) rfl rfl (Yl.extract rfl rfl) rfl ?_ -- t43
            refine WD.take 6 rfl (by kernel_rfl) (by kernel_rfl) (by kernel_rfl) rfl rfl (Yl.extract rfl rfl) rfl ?_ -- t44
            refine WD.one 8 (by kernel_rfl) ?_
            refine WO.sto rfl rfl .no (Sto.agg sz27 rfl rfl (by repeat (first | exact Take1.head | apply Take1.tail)) (Rs.one rfl) rfl (by rfl) (Rs.put (r := Rs.zero) (q := Rs.zero) rfl)) ⟨_, (by repeat (first | exact TakeL.nil | (apply TakeL.cons; · repeat (first | exact Take1.head | apply Take1.tail))))⟩ ?_ -- st 4
            refine WD.take 9 rfl (by kernel_rfl) (by kernel_rfl) (by kernel_rfl) rfl rfl (Yl.assign rfl) rfl ?_ -- t8
            refine WD.done (by kernel_rfl) ?_
            exact ⟨rfl, (by repeat (first | exact Sub.nil | refine Sub.cons rfl ?_)), (by repeat (first | exact Sub.nil | refine Sub.cons rfl ?_)), _, (by repeat (first | exact TakeL.nil | (apply TakeL.cons; · repeat (first | exact Take1.head | apply Take1.tail))))⟩
        · refine WO.to rfl rfl .no (To.alloc (cs := Rs.zero.cells) zr27 rfl) rfl (fun _ => ⟨_, (by repeat (first | exact TakeL.nil | (apply TakeL.cons; · repeat (first | exact Take1.head | apply Take1.tail))))⟩) ?_ -- t7
          intro b7
          refine WD.one 2 (by kernel_rfl) ?_
          refine WO.to rfl rfl .no (To.buildSlice (vs := [(Dv.mk 1 2).val]) un25 zs31 rfl rfl (by intro u hu; simp at hu; subst hu; rfl) (by decide) (by decide)) rfl (fun _ => ⟨_, (by repeat (first | exact TakeL.nil | (apply TakeL.cons; · repeat (first | exact Take1.head | apply Take1.tail))))⟩) ?_ -- t41
          intro b41
          refine WD.one 3 (by kernel_rfl) ?_
          refine WO.callC (xs := [.tmp 39, .tmp 41]) (cap := []) rfl .no rfl rfl en8 (by repeat (first | exact TakeL.nil | (apply TakeL.cons; · repeat (first | exact Take1.head | apply Take1.tail)))) (fun w hw => with_bad 6 ⟨1, 2⟩ (dok (by decide)) (by decide) (by decide) y22 _ w (hw.src (A := []) RdOf.rd' (by repeat (first | exact Take1.head | apply Take1.tail))) (hw.src (A := []) dev1 (by repeat (first | exact Take1.head | apply Take1.tail))) hw.left.here) rfl (fun _ => ⟨_, (by repeat (first | exact TakeL.nil | (apply TakeL.cons; · repeat (first | exact Take1.head | apply Take1.tail))))⟩) ?_ -- t42 hailer/roster.With
          rintro y42 -
          refine WD.take 4 rfl (by kernel_rfl) (by kernel_rfl) (by kernel_rfl) rfl rfl (Yl.move rfl) rfl ?_ -- t38
          refine WD.take 5 rfl (by kernel_rfl) (by kernel_rfl) (by kernel_rfl) rfl rfl (Yl.extract rfl rfl) rfl ?_ -- t43
          refine WD.take 6 rfl (by kernel_rfl) (by kernel_rfl) (by kernel_rfl) rfl rfl (Yl.extract rfl rfl) rfl ?_ -- t44
          refine WD.one 8 (by kernel_rfl) ?_
          refine WO.sto rfl rfl .no (Sto.agg sz27 rfl rfl (by repeat (first | exact Take1.head | apply Take1.tail)) (Rs.one rfl) rfl (by rfl) (Rs.put (r := Rs.zero) (q := Rs.zero) rfl)) ⟨_, (by repeat (first | exact TakeL.nil | (apply TakeL.cons; · repeat (first | exact Take1.head | apply Take1.tail))))⟩ ?_ -- st 4
          refine WD.take 9 rfl (by kernel_rfl) (by kernel_rfl) (by kernel_rfl) rfl rfl (Yl.assign rfl) rfl ?_ -- t8
          refine WD.done (by kernel_rfl) ?_
          exact ⟨rfl, (by repeat (first | exact Sub.nil | refine Sub.cons rfl ?_)), (by repeat (first | exact Sub.nil | refine Sub.cons rfl ?_)), _, (by repeat (first | exact TakeL.nil | (apply TakeL.cons; · repeat (first | exact Take1.head | apply Take1.tail))))⟩
      · refine WO.to rfl rfl .no (To.alloc (cs := Rs.zero.cells) zr27 rfl) rfl (fun _ => ⟨_, (by repeat (first | exact TakeL.nil | (apply TakeL.cons; · repeat (first | exact Take1.head | apply Take1.tail))))⟩) ?_ -- t7
        intro b7
        refine WD.one 1 (by kernel_rfl) ?_
        refine WO.callC (xs := [_, _]) (cap := []) rfl .no rfl rfl en28 (by repeat (first | exact TakeL.nil | (apply TakeL.cons; · repeat (first | exact Take1.head | apply Take1.tail)))) (fun w hw => mkdev_any 1 2 w hw.left.here) rfl (fun _ => ⟨_, (by repeat (first | exact TakeL.nil | (apply TakeL.cons; · repeat (first | exact Take1.head | apply Take1.tail))))⟩) ?_ -- t40 hailer/hailerlaw23.dev
        rintro ⟨⟩ -
        refine WD.one 2 (by kernel_rfl) ?_
        refine WO.to rfl rfl .no (To.buildSlice (vs := [(Dv.mk 1 2).val]) un25 zs31 rfl rfl (by intro u hu; simp at hu; subst hu; rfl) (by decide) (by decide)) rfl (fun _ => ⟨_, (by repeat (first | exact TakeL.nil | (apply TakeL.cons; · repeat (first | exact Take1.head | apply Take1.tail))))⟩) ?_ -- t41
        intro b41
        refine WD.one 3 (by kernel_rfl) ?_
        refine WO.callC (xs := [.tmp 39, .tmp 41]) (cap := []) rfl .no rfl rfl en8 (by repeat (first | exact TakeL.nil | (apply TakeL.cons; · repeat (first | exact Take1.head | apply Take1.tail)))) (fun w hw => with_bad 6 ⟨1, 2⟩ (dok (by decide)) (by decide) (by decide) y22 _ w (hw.src (A := []) RdOf.rd' (by repeat (first | exact Take1.head | apply Take1.tail))) (hw.src (A := []) dev1 (by repeat (first | exact Take1.head | apply Take1.tail))) hw.left.here) rfl (fun _ => ⟨_, (by repeat (first | exact TakeL.nil | (apply TakeL.cons; · repeat (first | exact Take1.head | apply Take1.tail))))⟩) ?_ -- t42 hailer/roster.With
        rintro y42 -
        refine WD.take 4 rfl (by kernel_rfl) (by kernel_rfl) (by kernel_rfl) rfl rfl (Yl.move rfl) rfl ?_ -- t38
        refine WD.take 5 rfl (by kernel_rfl) (by kernel_rfl) (by kernel_rfl) rfl rfl (Yl.extract rfl rfl) rfl ?_ -- t43
        refine WD.take 6 rfl (by kernel_rfl) (by kernel_rfl) (by kernel_rfl) rfl rfl (Yl.extract rfl rfl) rfl ?_ -- t44
        refine WD.one 8 (by kernel_rfl) ?_
        refine WO.sto rfl rfl .no (Sto.agg sz27 rfl rfl (by repeat (first | exact Take1.head | apply Take1.tail)) (Rs.one rfl) rfl (by rfl) (Rs.put (r := Rs.zero) (q := Rs.zero) rfl)) ⟨_, (by repeat (first | exact TakeL.nil | (apply TakeL.cons; · repeat (first | exact Take1.head | apply Take1.tail))))⟩ ?_ -- st 4
        refine WD.take 9 rfl (by kernel_rfl) (by kernel_rfl) (by kernel_rfl) rfl rfl (Yl.assign rfl) rfl ?_ -- t8
        refine WD.done (by kernel_rfl) ?_
        exact ⟨rfl, (by repeat (first | exact Sub.nil | refine Sub.cons rfl ?_)), (by repeat (first | exact Sub.nil | refine Sub.cons rfl ?_)), _, (by repeat (first | exact TakeL.nil | (apply TakeL.cons; · repeat (first | exact Take1.head | apply Take1.tail))))⟩
    · refine WC.midK [(10, .int .i64 4)] [blkR b1 27 (Rs.mk gid 1 y22).cells, blkR b3 27 (Rs.mk gid 2 y30).cells, rdR y22 2 1 (vcs Dv.val [⟨1, 2⟩]), rdR y30 2 3 (vcs Dv.val kS), blkR b5 31 (hdF kS).cells] ?_ ?_
      · refine WC.drawAny (Hs := [blkR b1 27 (Rs.mk gid 1 y22).cells]) mixed (by kernel_rfl) ⟨_, (by repeat (first | exact TakeL.nil | (apply TakeL.cons; · repeat (first | exact Take1.head | apply Take1.tail))))⟩ ?_
        refine WD.take 0 rfl (by kernel_rfl) (by kernel_rfl) (by kernel_rfl) rfl rfl (Yl.loadN ag27 rfl (by repeat (first | exact Take1.head | apply Take1.tail)) rfl (rs18 rfl)) rfl ?_ -- t46
        refine WD.two 1 7 (by kernel_rfl) ?_ ?_
        · refine WO.callC (xs := [_, _]) (cap := []) rfl .no rfl rfl en28 (by repeat (first | exact TakeL.nil | (apply TakeL.cons; · repeat (first | exact Take1.head | apply Take1.tail)))) (fun w hw => mkdev_any 0 0 w hw.left.here) rfl (fun _ => ⟨_, (by repeat (first | exact TakeL.nil | (apply TakeL.cons; · repeat (first | exact Take1.head | apply Take1.tail))))⟩) ?_ -- t47 hailer/hailerlaw23.dev
          rintro ⟨⟩ -
          refine WD.two 2 7 (by kernel_rfl) ?_ ?_
          · refine WO.to rfl rfl .no (To.buildSlice (vs := [(Dv.mk 0 0).val]) un25 zs31 rfl rfl (by intro u hu; simp at hu; subst hu; rfl) (by decide) (by decide)) rfl (fun _ => ⟨_, (by repeat (first | exact TakeL.nil | (apply TakeL.cons; · repeat (first | exact Take1.head | apply Take1.tail))))⟩) ?_ -- t48
            intro b48
            refine WD.two 3 7 (by kernel_rfl) ?_ ?_
            · refine WO.callC (xs := [.tmp 46, .tmp 48]) (cap := []) rfl .no rfl rfl en9 (by repeat (first | exact TakeL.nil | (apply TakeL.cons; · repeat (first | exact Take1.head | apply Take1.tail)))) (fun w hw => without_bad 4 ⟨0, 0⟩ (dok (by decide)) (by decide) (by decide) y22 _ w (hw.src (A := []) RdOf.rd' (by repeat (first | exact Take1.head | apply Take1.tail))) (hw.src (A := []) dev1 (by repeat (first | exact Take1.head | apply Take1.tail))) hw.left.here) rfl (fun _ => ⟨_, (by repeat (first | exact TakeL.nil | (apply TakeL.cons; · repeat (first | exact Take1.head | apply Take1.tail))))⟩) ?_ -- t49 hailer/roster.Without
              rintro y49 -
              refine WD.take 4 rfl (by kernel_rfl) (by kernel_rfl) (by kernel_rfl) rfl rfl (Yl.move rfl) rfl ?_ -- t45
              refine WD.take 5 rfl (by kernel_rfl) (by kernel_rfl) (by kernel_rfl) rfl rfl (Yl.extract rfl rfl) rfl ?_ -- t50
              refine WD.take 6 rfl (by kernel_rfl) (by kernel_rfl) (by kernel_rfl) rfl rfl (Yl.extract rfl rfl) rfl ?_ -- t51
              refine WD.one 7 (by kernel_rfl) ?_
              refine WO.to rfl rfl .no (To.alloc (cs := Rs.zero.cells) zr27 rfl) rfl (fun _ => ⟨_, (by repeat (first | exact TakeL.nil | (apply TakeL.cons; · repeat (first | exact Take1.head | apply Take1.tail))))⟩) ?_ -- t9
              intro b9
              refine WD.one 8 (by kernel_rfl) ?_
              refine WO.sto rfl rfl .no (Sto.agg sz27 rfl rfl (by repeat (first | exact Take1.head | apply Take1.tail)) (Rs.one rfl) rfl (by rfl) (Rs.put (r := Rs.zero) (q := Rs.zero) rfl)) ⟨_, (by repeat (first | exact TakeL.nil | (apply TakeL.cons; · repeat (first | exact Take1.head | apply Take1.tail))))⟩ ?_ -- st 5
              refine WD.take 9 rfl (by kernel_rfl) (by kernel_rfl) (by kernel_rfl) rfl rfl (Yl.assign rfl) rfl ?_ -- t10
              refine WD.done (by kernel_rfl) ?_
              exact ⟨rfl, (by repeat (first | exact Sub.nil | refine Sub.cons rfl ?_)), (by repeat (first | exact Sub.nil | refine Sub.cons rfl ?_)), _, (by repeat (first | exact TakeL.nil | (apply TakeL.cons; · repeat (first | exact Take1.head | apply Take1.tail))))⟩
            · refine WO.to rfl rfl .no (To.alloc (cs := Rs.zero.cells) zr27 rfl) rfl (fun _ => ⟨_, (by repeat (first | exact TakeL.nil | (apply TakeL.cons; · repeat (first | exact Take1.head | apply Take1.tail))))⟩) ?_ -- t9
              intro b9
              refine WD.one 3 (by kernel_rfl) ?_
              refine WO.callC (xs := [.tmp 46, .tmp 48]) (cap := []) rfl .no rfl rfl en9 (by repeat (first | exact TakeL.nil | (apply TakeL.cons; · repeat (first | exact Take1.head | apply Take1.tail)))) (fun w hw => without_bad 4 ⟨0, 0⟩ (dok (by decide)) (by decide) (by decide) y22 _ w (hw.src (A := []) RdOf.rd' (by repeat (first | exact Take1.head | apply Take1.tail))) (hw.src (A := []) dev1 (by repeat (first | exact Take1.head | apply Take1.tail))) hw.left.here) rfl (fun _ => ⟨_, (by repeat (first | exact TakeL.nil | (apply TakeL.cons; · repeat (first | exact Take1.head | apply Take1.tail))))⟩) ?_ -- t49 hailer/roster.Without
              rintro y49 -
              refine WD.take 4 rfl (by kernel_rfl) (by kernel_rfl) (by kernel_rfl) rfl rfl (Yl.move rfl) rfl ?_ -- t45
              refine WD.take 5 rfl (by kernel_rfl) (by kernel_rfl) (by kernel_rfl) rfl rfl (Yl.extract rfl rfl) rfl ?_ -- t50
              refine WD.take 6 rfl (by kernel_rfl) (by kernel_rfl) (by kernel_rfl) rfl rfl (Yl.extract rfl rfl) rfl ?_ -- t51
              refine WD.one 8 (by kernel_rfl) ?_
              refine WO.sto rfl rfl .no (Sto.agg sz27 rfl rfl (by repeat (first | exact Take1.head | apply Take1.tail)) (Rs.one rfl) rfl (by rfl) (Rs.put (r := Rs.zero) (q := Rs.zero) rfl)) ⟨_, (by repeat (first | exact TakeL.nil | (apply TakeL.cons; · repeat (first | exact Take1.head | apply Take1.tail))))⟩ ?_ -- st 5
              refine WD.take 9 rfl (by kernel_rfl) (by kernel_rfl) (by kernel_rfl) rfl rfl (Yl.assign rfl) rfl ?_ -- t10
              refine WD.done (by kernel_rfl) ?_
              exact ⟨rfl, (by repeat (first | exact Sub.nil | refine Sub.cons rfl ?_)), (by repeat (first | exact Sub.nil | refine Sub.cons rfl ?_)), _, (by repeat (first | exact TakeL.nil | (apply TakeL.cons; · repeat (first | exact Take1.head | apply Take1.tail))))⟩
          · refine WO.to rfl rfl .no (To.alloc (cs := Rs.zero.cells) zr27 rfl) rfl (fun _ => ⟨_, (by repeat (first | exact TakeL.nil | (apply TakeL.cons; · repeat (first | exact Take1.head | apply Take1.tail))))⟩) ?_ -- t9
            intro b9
            refine WD.one 2 (by kernel_rfl) ?_
            refine WO.to rfl rfl .no (To.buildSlice (vs := [(Dv.mk 0 0).val]) un25 zs31 rfl rfl (by intro u hu; simp at hu; subst hu; rfl) (by decide) (by decide)) rfl (fun _ => ⟨_, (by repeat (first | exact TakeL.nil | (apply TakeL.cons; · repeat (first | exact Take1.head | apply Take1.tail))))⟩) ?_ -- t48
            intro b48
            refine WD.one 3 (by kernel_rfl) ?_
            refine WO.callC (xs := [.tmp 46, .tmp 48]) (cap := []) rfl .no rfl rfl en9 (by repeat (first | exact TakeL.nil | (apply TakeL.cons; · repeat (first | exact Take1.head | apply Take1.tail)))) (fun w hw => without_bad 4 ⟨0, 0⟩ (dok (by decide)) (by decide) (by decide) y22 _ w (hw.src (A := []) RdOf.rd' (by repeat (first | exact Take1.head | apply Take1.tail))) (hw.src (A := []) dev1 (by repeat (first | exact Take1.head | apply Take1.tail))) hw.left.here) rfl (fun _ => ⟨_, (by repeat (first | exact TakeL.nil | (apply TakeL.cons; · repeat (first | exact Take1.head | apply Take1.tail))))⟩) ?_ -- t49 hailer/roster.Without
            rintro y49 -
            refine WD.take 4 rfl (by kernel_rfl) (by kernel_rfl) (by kernel_rfl) rfl rfl (Yl.move rfl) rfl ?_ -- t45
            refine WD.take 5 rfl (by kernel_rfl) (by kernel_rfl) (by kernel_rfl) rfl rfl (Yl.extract rfl rfl) rfl ?_ -- t50
            refine WD.take 6 rfl (by kernel_rfl) (by kernel_rfl) (by kernel_rfl) rfl rfl (Yl.extract rfl rfl) rfl ?_ -- t51
            refine WD.one 8 (by kernel_rfl) ?_
            refine WO.sto rfl rfl .no (Sto.agg sz27 rfl rfl (by repeat (first | exact Take1.head | apply Take1.tail)) (Rs.one rfl) rfl (by rfl) (Rs.put (r := Rs.zero) (q := Rs.zero) rfl)) ⟨_, (by repeat (first | exact TakeL.nil | (apply TakeL.cons; · repeat (first | exact Take1.head | apply Take1.tail))))⟩ ?_ -- st 5
            refine WD.take 9 rfl (by kernel_rfl) (by kernel_rfl) (by kernel_rfl) rfl rfl (Yl.assign rfl) rfl ?_ -- t10
            refine WD.done (by kernel_rfl) ?_
            exact ⟨rfl, (by repeat (first | exact Sub.nil | refine Sub.cons rfl ?_)), (by repeat (first | exact Sub.nil | refine Sub.cons rfl ?_)), _, (by repeat (first | exact TakeL.nil | (apply TakeL.cons; · repeat (first | exact Take1.head | apply Take1.tail))))⟩
        · refine WO.to rfl rfl .no (To.alloc (cs := Rs.zero.cells) zr27 rfl) rfl (fun _ => ⟨_, (by repeat (first | exact TakeL.nil | (apply TakeL.cons; · repeat (first | exact Take1.head | apply Take1.tail))))⟩) ?_ -- t9
          intro b9
          refine WD.one 1 (by kernel_rfl) ?_
          refine WO.callC (xs := [_, _]) (cap := []) rfl .no rfl rfl en28 (by repeat (first | exact TakeL.nil | (apply TakeL.cons; · repeat (first | exact Take1.head | apply Take1.tail)))) (fun w hw => mkdev_any 0 0 w hw.left.here) rfl (fun _ => ⟨_, (by repeat (first | exact TakeL.nil | (apply TakeL.cons; · repeat (first | exact Take1.head | apply Take1.tail))))⟩) ?_ -- t47 hailer/hailerlaw23.dev
          rintro ⟨⟩ -
          refine WD.one 2 (by kernel_rfl) ?_
          refine WO.to rfl rfl .no (To.buildSlice (vs := [(Dv.mk 0 0).val]) un25 zs31 rfl rfl (by intro u hu; simp at hu; subst hu; rfl) (by decide) (by decide)) rfl (fun _ => ⟨_, (by repeat (first | exact TakeL.nil | (apply TakeL.cons; · repeat (first | exact Take1.head | apply Take1.tail))))⟩) ?_ -- t48
          intro b48
          refine WD.one 3 (by kernel_rfl) ?_
          refine WO.callC (xs := [.tmp 46, .tmp 48]) (cap := []) rfl .no rfl rfl en9 (by repeat (first | exact TakeL.nil | (apply TakeL.cons; · repeat (first | exact Take1.head | apply Take1.tail)))) (fun w hw => without_bad 4 ⟨0, 0⟩ (dok (by decide)) (by decide) (by decide) y22 _ w (hw.src (A := []) RdOf.rd' (by repeat (first | exact Take1.head | apply Take1.tail))) (hw.src (A := []) dev1 (by repeat (first | exact Take1.head | apply Take1.tail))) hw.left.here) rfl (fun _ => ⟨_, (by repeat (first | exact TakeL.nil | (apply TakeL.cons; · repeat (first | exact Take1.head | apply Take1.tail))))⟩) ?_ -- t49 hailer/roster.Without
          rintro y49 -
          refine WD.take 4 rfl (by kernel_rfl) (by kernel_rfl) (by kernel_rfl) rfl rfl (Yl.move rfl) rfl ?_ -- t45
          refine WD.take 5 rfl (by kernel_rfl) (by kernel_rfl) (by kernel_rfl) rfl rfl (Yl.extract rfl rfl) rfl ?_ -- t50
          refine WD.take 6 rfl (by kernel_rfl) (by kernel_rfl) (by kernel_rfl) rfl rfl (Yl.extract rfl rfl) rfl ?_ -- t51
          refine WD.one 8 (by kernel_rfl) ?_
          refine WO.sto rfl rfl .no (Sto.agg sz27 rfl rfl (by repeat (first | exact Take1.head | apply Take1.tail)) (Rs.one rfl) rfl (by rfl) (Rs.put (r := Rs.zero) (q := Rs.zero) rfl)) ⟨_, (by repeat (first | exact TakeL.nil | (apply TakeL.cons; · repeat (first | exact Take1.head | apply Take1.tail))))⟩ ?_ -- st 5
          refine WD.take 9 rfl (by kernel_rfl) (by kernel_rfl) (by kernel_rfl) rfl rfl (Yl.assign rfl) rfl ?_ -- t10
          refine WD.done (by kernel_rfl) ?_
          exact ⟨rfl, (by repeat (first | exact Sub.nil | refine Sub.cons rfl ?_)), (by repeat (first | exact Sub.nil | refine Sub.cons rfl ?_)), _, (by repeat (first | exact TakeL.nil | (apply TakeL.cons; · repeat (first | exact Take1.head | apply Take1.tail))))⟩
      · refine WC.midK [(12, .int .i64 2)] [blkR b1 27 (Rs.mk gid 1 y22).cells, blkR b3 27 (Rs.mk gid 2 y30).cells, rdR y22 2 1 (vcs Dv.val [⟨1, 2⟩]), rdR y30 2 3 (vcs Dv.val kS), blkR b5 31 (hdF kS).cells] ?_ ?_
        · refine WC.drawAny (Hs := [blkR b1 27 (Rs.mk gid 1 y22).cells]) mixed (by kernel_rfl) ⟨_, (by repeat (first | exact TakeL.nil | (apply TakeL.cons; · repeat (first | exact Take1.head | apply Take1.tail))))⟩ ?_
          refine WD.take 0 rfl (by kernel_rfl) (by kernel_rfl) (by kernel_rfl) rfl rfl (Yl.loadN ag27 rfl (by repeat (first | exact Take1.head | apply Take1.tail)) rfl (rs18 rfl)) rfl ?_ -- t53
          refine WD.two 1 7 (by kernel_rfl) ?_ ?_
          · refine WO.callC (xs := [_, _]) (cap := []) rfl .no rfl rfl en28 (by repeat (first | exact TakeL.nil | (apply TakeL.cons; · repeat (first | exact Take1.head | apply Take1.tail)))) (fun w hw => mkdev_any 8 0 w hw.left.here) rfl (fun _ => ⟨_, (by repeat (first | exact TakeL.nil | (apply TakeL.cons; · repeat (first | exact Take1.head | apply Take1.tail))))⟩) ?_ -- t54 hailer/hailerlaw23.dev
            rintro ⟨⟩ -
            refine WD.two 2 7 (by kernel_rfl) ?_ ?_
            · refine WO.to rfl rfl .no (To.buildSlice (vs := [(Dv.mk 8 0).val]) un25 zs31 rfl rfl (by intro u hu; simp at hu; subst hu; rfl) (by decide) (by decide)) rfl (fun _ => ⟨_, (by repeat (first | exact TakeL.nil | (apply TakeL.cons; · repeat (first | exact Take1.head | apply Take1.tail))))⟩) ?_ -- t55
              intro b55
              refine WD.two 3 7 (by kernel_rfl) ?_ ?_
              · refine WO.callC (xs := [.tmp 53, .tmp 55]) (cap := []) rfl .no rfl rfl en8 (by repeat (first | exact TakeL.nil | (apply TakeL.cons; · repeat (first | exact Take1.head | apply Take1.tail)))) (fun w hw => with_bad 2 ⟨8, 0⟩ (dok (by decide)) (by decide) (by decide) y22 _ w (hw.src (A := []) RdOf.rd' (by repeat (first | exact Take1.head | apply Take1.tail))) (hw.src (A := []) dev1 (by repeat (first | exact Take1.head | apply Take1.tail))) hw.left.here) rfl (fun _ => ⟨_, (by repeat (first | exact TakeL.nil | (apply TakeL.cons; · repeat (first | exact Take1.head | apply Take1.tail))))⟩) ?_ -- t56 hailer/roster.With
                rintro y56 -
                refine WD.take 4 rfl (by kernel_rfl) (by kernel_rfl) (by kernel_rfl) rfl rfl (Yl.move rfl) rfl ?_ -- t52
                refine WD.take 5 rfl (by kernel_rfl) (by kernel_rfl) (by kernel_rfl) rfl rfl (Yl.extract rfl rfl) rfl ?_ -- t57
                refine WD.take 6 rfl (by kernel_rfl) (by kernel_rfl) (by kernel_rfl) rfl rfl (Yl.extract rfl rfl) rfl ?_ -- t58
                refine WD.one 7 (by kernel_rfl) ?_
                refine WO.to rfl rfl .no (To.alloc (cs := Rs.zero.cells) zr27 rfl) rfl (fun _ => ⟨_, (by repeat (first | exact TakeL.nil | (apply TakeL.cons; · repeat (first | exact Take1.head | apply Take1.tail))))⟩) ?_ -- t11
                intro b11
                refine WD.one 8 (by kernel_rfl) ?_
                refine WO.sto rfl rfl .no (Sto.agg sz27 rfl rfl (by repeat (first | exact Take1.head | apply Take1.tail)) (Rs.one rfl) rfl (by rfl) (Rs.put (r := Rs.zero) (q := Rs.zero) rfl)) ⟨_, (by repeat (first | exact TakeL.nil | (apply TakeL.cons; · repeat (first | exact Take1.head | apply Take1.tail))))⟩ ?_ -- st 6
                refine WD.take 9 rfl (by kernel_rfl) (by kernel_rfl) (by kernel_rfl) rfl rfl (Yl.assign rfl) rfl ?_ -- t12
                refine WD.done (by kernel_rfl) ?_
                exact ⟨rfl, (by repeat (first | exact Sub.nil | refine Sub.cons rfl ?_)), (by repeat (first | exact Sub.nil | refine Sub.cons rfl ?_)), _, (by repeat (first | exact TakeL.nil | (apply TakeL.cons; · repeat (first | exact Take1.head | apply Take1.tail))))⟩
              · refine WO.to rfl rfl .no (To.alloc (cs := Rs.zero.cells) zr27 rfl) rfl (fun _ => ⟨_, (by repeat (first | exact TakeL.nil | (apply TakeL.cons; · repeat (first | exact Take1.head | apply Take1.tail))))⟩) ?_ -- t11
                intro b11
                refine WD.one 3 (by kernel_rfl) ?_
                refine WO.callC (xs := [.tmp 53, .tmp 55]) (cap := []) rfl .no rfl rfl en8 (by repeat (first | exact TakeL.nil | (apply TakeL.cons; · repeat (first | exact Take1.head | apply Take1.tail)))) (fun w hw => with_bad 2 ⟨8, 0⟩ (dok (by decide)) (by decide) (by decide) y22 _ w (hw.src (A := []) RdOf.rd' (by repeat (first | exact Take1.head | apply Take1.tail))) (hw.src (A := []) dev1 (by repeat (first | exact Take1.head | apply Take1.tail))) hw.left.here) rfl (fun _ => ⟨_, (by repeat (first | exact TakeL.nil | (apply TakeL.cons; · repeat (first | exact Take1.head | apply Take1.tail))))⟩) ?_ -- t56 hailer/roster.With
                rintro y56 -
                refine WD.take 4 rfl (by kernel_rfl) (by kernel_rfl) (by kernel_rfl) rfl rfl (Yl.move rfl) rfl ?_ -- t52
                refine WD.take 5 rfl (by kernel_rfl) (by kernel_rfl) (by kernel_rfl) rfl rfl (Yl.extract rfl rfl) rfl ?_ -- t57
                refine WD.take 6 rfl (by kernel_rfl) (by kernel_rfl) (by kernel_rfl) rfl rfl (Yl.extract rfl rfl) rfl ?_ -- t58
                refine WD.one 8 (by kernel_rfl) ?_
                refine WO.sto rfl rfl .no (Sto.agg sz27 rfl rfl (by repeat (first | exact Take1.head | apply Take1.tail)) (Rs.one rfl) rfl (by rfl) (Rs.put (r := Rs.zero) (q := Rs.zero) rfl)) ⟨_, (by repeat (first | exact TakeL.nil | (apply TakeL.cons; · repeat (first | exact Take1.head | apply Take1.tail))))⟩ ?_ -- st 6
                refine WD.take 9 rfl (by kernel_rfl) (by kernel_rfl) (by kernel_rfl) rfl rfl (Yl.assign rfl) rfl ?_ -- t12
                refine WD.done (by kernel_rfl) ?_
                exact ⟨rfl, (by repeat (first | exact Sub.nil | refine Sub.cons rfl ?_)), (by repeat (first | exact Sub.nil | refine Sub.cons rfl ?_)), _, (by repeat (first | exact TakeL.nil | (apply TakeL.cons; · repeat (first | exact Take1.head | apply Take1.tail))))⟩
            · refine WO.to rfl rfl .no (To.alloc (cs := Rs.zero.cells) zr27 rfl) rfl (fun _ => ⟨_, (by repeat (first | exact TakeL.nil | (apply TakeL.cons; · repeat (first | exact Take1.head | apply Take1.tail))))⟩) ?_ -- t11
              intro b11
              refine WD.one 2 (by kernel_rfl) ?_
              refine WO.to rfl rfl .no (To.buildSlice (vs := [(Dv.mk 8 0).val]) un25 zs31 rfl rfl (by intro u hu; simp at hu; subst hu; rfl) (by decide) (by decide)) rfl (fun _ => ⟨_, (by repeat (first | exact TakeL.nil | (apply TakeL.cons; · repeat (first | exact Take1.head | apply Take1.tail))))⟩) ?_ -- t55
              intro b55
              refine WD.one 3 (by kernel_rfl) ?_
              refine WO.callC (xs := [.tmp 53, .tmp 55]) (cap := []) rfl .no rfl rfl en8 (by repeat (first | exact TakeL.nil | (apply TakeL.cons; · repeat (first | exact Take1.head | apply Take1.tail)))) (fun w hw => with_bad 2 ⟨8, 0⟩ (dok (by decide)) (by decide) (by decide) y22 _ w (hw.src (A := []) RdOf.rd' (by repeat (first | exact Take1.head | apply Take1.tail))) (hw.src (A := []) dev1 (by repeat (first | exact Take1.head | apply Take1.tail))) hw.left.here) rfl (fun _ => ⟨_, (by repeat (first | exact TakeL.nil | (apply TakeL.cons; · repeat (first | exact Take1.head | apply Take1.tail))))⟩) ?_ -- t56 hailer/roster.With
              rintro y56 -
              refine WD.take 4 rfl (by kernel_rfl) (by kernel_rfl) (by kernel_rfl) rfl rfl (Yl.move rfl) rfl ?_ -- t52
              refine WD.take 5 rfl (by kernel_rfl) (by kernel_rfl) (by kernel_rfl) rfl rfl (Yl.extract rfl rfl) rfl ?_ -- t57
              refine WD.take 6 rfl (by kernel_rfl) (by kernel_rfl) (by kernel_rfl) rfl rfl (Yl.extract rfl rfl) rfl ?_ -- t58
              refine WD.one 8 (by kernel_rfl) ?_
              refine WO.sto rfl rfl .no (Sto.agg sz27 rfl rfl (by repeat (first | exact Take1.head | apply Take1.tail)) (Rs.one rfl) rfl (by rfl) (Rs.put (r := Rs.zero) (q := Rs.zero) rfl)) ⟨_, (by repeat (first | exact TakeL.nil | (apply TakeL.cons; · repeat (first | exact Take1.head | apply Take1.tail))))⟩ ?_ -- st 6
              refine WD.take 9 rfl (by kernel_rfl) (by kernel_rfl) (by kernel_rfl) rfl rfl (Yl.assign rfl) rfl ?_ -- t12
              refine WD.done (by kernel_rfl) ?_
              exact ⟨rfl, (by repeat (first | exact Sub.nil | refine Sub.cons rfl ?_)), (by repeat (first | exact Sub.nil | refine Sub.cons rfl ?_)), _, (by repeat (first | exact TakeL.nil | (apply TakeL.cons; · repeat (first | exact Take1.head | apply Take1.tail))))⟩
          · refine WO.to rfl rfl .no (To.alloc (cs := Rs.zero.cells) zr27 rfl) rfl (fun _ => ⟨_, (by repeat (first | exact TakeL.nil | (apply TakeL.cons; · repeat (first | exact Take1.head | apply Take1.tail))))⟩) ?_ -- t11
            intro b11
            refine WD.one 1 (by kernel_rfl) ?_
            refine WO.callC (xs := [_, _]) (cap := []) rfl .no rfl rfl en28 (by repeat (first | exact TakeL.nil | (apply TakeL.cons; · repeat (first | exact Take1.head | apply Take1.tail)))) (fun w hw => mkdev_any 8 0 w hw.left.here) rfl (fun _ => ⟨_, (by repeat (first | exact TakeL.nil | (apply TakeL.cons; · repeat (first | exact Take1.head | apply Take1.tail))))⟩) ?_ -- t54 hailer/hailerlaw23.dev
            rintro ⟨⟩ -
            refine WD.one 2 (by kernel_rfl) ?_
            refine WO.to rfl rfl .no (To.buildSlice (vs := [(Dv.mk 8 0).val]) un25 zs31 rfl rfl (by intro u hu; simp at hu; subst hu; rfl) (by decide) (by decide)) rfl (fun _ => ⟨_, (by repeat (first | exact TakeL.nil | (apply TakeL.cons; · repeat (first | exact Take1.head | apply Take1.tail))))⟩) ?_ -- t55
            intro b55
            refine WD.one 3 (by kernel_rfl) ?_
            refine WO.callC (xs := [.tmp 53, .tmp 55]) (cap := []) rfl .no rfl rfl en8 (by repeat (first | exact TakeL.nil | (apply TakeL.cons; · repeat (first | exact Take1.head | apply Take1.tail)))) (fun w hw => with_bad 2 ⟨8, 0⟩ (dok (by decide)) (by decide) (by decide) y22 _ w (hw.src (A := []) RdOf.rd' (by repeat (first | exact Take1.head | apply Take1.tail))) (hw.src (A := []) dev1 (by repeat (first | exact Take1.head | apply Take1.tail))) hw.left.here) rfl (fun _ => ⟨_, (by repeat (first | exact TakeL.nil | (apply TakeL.cons; · repeat (first | exact Take1.head | apply Take1.tail))))⟩) ?_ -- t56 hailer/roster.With
            rintro y56 -
            refine WD.take 4 rfl (by kernel_rfl) (by kernel_rfl) (by kernel_rfl) rfl rfl (Yl.move rfl) rfl ?_ -- t52
            refine WD.take 5 rfl (by kernel_rfl) (by kernel_rfl) (by kernel_rfl) rfl rfl (Yl.extract rfl rfl) rfl ?_ -- t57
            refine WD.take 6 rfl (by kernel_rfl) (by kernel_rfl) (by kernel_rfl) rfl rfl (Yl.extract rfl rfl) rfl ?_ -- t58
            refine WD.one 8 (by kernel_rfl) ?_
            refine WO.sto rfl rfl .no (Sto.agg sz27 rfl rfl (by repeat (first | exact Take1.head | apply Take1.tail)) (Rs.one rfl) rfl (by rfl) (Rs.put (r := Rs.zero) (q := Rs.zero) rfl)) ⟨_, (by repeat (first | exact TakeL.nil | (apply TakeL.cons; · repeat (first | exact Take1.head | apply Take1.tail))))⟩ ?_ -- st 6
            refine WD.take 9 rfl (by kernel_rfl) (by kernel_rfl) (by kernel_rfl) rfl rfl (Yl.assign rfl) rfl ?_ -- t12
            refine WD.done (by kernel_rfl) ?_
            exact ⟨rfl, (by repeat (first | exact Sub.nil | refine Sub.cons rfl ?_)), (by repeat (first | exact Sub.nil | refine Sub.cons rfl ?_)), _, (by repeat (first | exact TakeL.nil | (apply TakeL.cons; · repeat (first | exact Take1.head | apply Take1.tail))))⟩
        · refine WC.seq ?_
          refine WC.region ?_
          refine WL.y (Yl.build rfl (cs := ints .u8 (List.replicate 16 0)) (fun _ => by kernel_rfl)) rfl ?_ -- t60
          refine WL.callC (xs := [_, _]) (cap := []) rfl rfl en28 (by repeat (first | exact TakeL.nil | (apply TakeL.cons; · repeat (first | exact Take1.head | apply Take1.tail)))) (fun w hw => mkdev_any 0 4 w hw.left.here) rfl ?_ -- t61 hailer/hailerlaw23.dev
          rintro ⟨⟩ -
          refine WL.callC (xs := [.tmp 60, .tmp 61]) (cap := []) rfl rfl en13 (by repeat (first | exact TakeL.nil | (apply TakeL.cons; · repeat (first | exact Take1.head | apply Take1.tail)))) (fun w hw => new_bad w hw.left.here) rfl ?_ -- t62 hailer/roster.New
          intro y62 hy62
          refine WL.y (Yl.move rfl) rfl ?_ -- t59
          refine WL.y (Yl.extract rfl rfl) rfl ?_ -- t63
          refine WL.y (Yl.extract rfl rfl) rfl ?_ -- t64
          refine WL.to (To.alloc (cs := Rs.zero.cells) zr27 rfl) rfl ?_ -- t13
          intro b13
          refine WL.sto (Sto.agg sz27 rfl rfl (by repeat (first | exact Take1.head | apply Take1.tail)) (Rs.one rfl) rfl (by rfl) (Rs.put (r := Rs.zero) (q := Rs.zero) rfl)) (fun _ h => nomatch h) ?_ -- st 7
          refine WL.y (Yl.assign rfl) rfl ?_ -- t14
          refine WL.nil ?_
          refine WC.seq ?_
          refine WC.region ?_
          refine WL.y (Yl.build rfl (cs := Rs.zero.cells) (fun _ => by kernel_rfl)) rfl ?_ -- t66
          refine WL.callC (xs := [.tmp 66]) (cap := []) rfl rfl en17 (by repeat (first | exact TakeL.nil | (apply TakeL.cons; · repeat (first | exact Take1.head | apply Take1.tail)))) (fun w hw => head_any Rs.zero [] rfl (by decide) w (fun w' _ => Rd.nil w' 2) hw.left.here) rfl ?_ -- t67 hailer/roster.Head
          rintro ⟨⟩ -
          refine WL.y (Yl.move rfl) rfl ?_ -- t65
          refine WL.y (Yl.extract rfl rfl) rfl ?_ -- t68
          refine WL.y (Yl.extract rfl rfl) rfl ?_ -- t69
          refine WL.to (To.alloc (cs := d0.cells) zr31 rfl) rfl ?_ -- t15
          intro b15
          refine WL.sto (Sto.agg sz31 rfl rfl (by repeat (first | exact Take1.head | apply Take1.tail)) (Dv.ones d0) rfl (by rfl) (show _ = d0.cells from rfl)) (fun _ h => nomatch h) ?_ -- st 8
          refine WL.y (Yl.assign rfl) rfl ?_ -- t16
          refine WL.nil ?_
          refine WC.seq ?_
          refine WC.drawAny (Hs := [blkR b1 27 (Rs.mk gid 1 y22).cells, blkR b3 27 (Rs.mk gid 2 y30).cells, blkR b5 31 (hdF kS).cells]) mixed (by kernel_rfl) ⟨_, (by repeat (first | exact TakeL.nil | (apply TakeL.cons; · repeat (first | exact Take1.head | apply Take1.tail))))⟩ ?_
          refine WD.take 0 rfl (by kernel_rfl) (by kernel_rfl) (by kernel_rfl) rfl rfl (Yl.loadN ag31 rfl (by repeat (first | exact Take1.head | apply Take1.tail)) (by rfl) (by rfl)) rfl ?_ -- t70
          refine WD.one 1 (by kernel_rfl) ?_
          refine WO.callC (xs := [_, _]) (cap := []) rfl .no rfl rfl en28 (by repeat (first | exact TakeL.nil | (apply TakeL.cons; · repeat (first | exact Take1.head | apply Take1.tail)))) (fun w hw => mkdev_any 0 3 w hw.left.here) rfl (fun _ => ⟨_, (by repeat (first | exact TakeL.nil | (apply TakeL.cons; · repeat (first | exact Take1.head | apply Take1.tail))))⟩) ?_ -- t71 hailer/hailerlaw23.dev
          rintro ⟨⟩ -
          refine WD.take 2 rfl (by kernel_rfl) (by kernel_rfl) (by kernel_rfl) rfl rfl (Yl.eqA (xs := (hdF kS).cells) (ys := (Dv.mk 0 3).cells) flatD rfl rfl (Dv.fits (dok (by decide))) (Dv.fits (dok (by decide)))) rfl ?_
          refine WD.know (t := 72) (b' := true) rfl (by rw [Dv.eqV]; rfl) ?_
          refine WD.take 3 rfl (by kernel_rfl) (by kernel_rfl) (by kernel_rfl) rfl rfl (Yl.move rfl) rfl ?_ -- t73
          refine WD.takeOn 4 rfl (by kernel_rfl) (by kernel_rfl) (by kernel_rfl) rfl rfl rfl rfl (Yl.move rfl) rfl ?_ -- t74
          refine WD.take 5 rfl (by kernel_rfl) (by kernel_rfl) (by kernel_rfl) rfl rfl (Yl.pickT rfl rfl) rfl ?_ -- t75
          refine WD.know (t := 75) (b' := true) rfl (by first | rfl | (simp; done) | (simp; omega)) ?_
          refine WD.take 6 rfl (by kernel_rfl) (by kernel_rfl) (by kernel_rfl) rfl rfl (Yl.move rfl) rfl ?_ -- t76
          refine WD.takeOn 7 rfl (by kernel_rfl) (by kernel_rfl) (by kernel_rfl) rfl rfl rfl rfl (Yl.move rfl) rfl ?_ -- t77
          refine WD.takeOn 8 rfl (by kernel_rfl) (by kernel_rfl) (by kernel_rfl) rfl rfl rfl rfl (Yl.eql rfl rfl) rfl ?_ -- t78
          refine WD.know (t := 78) (b' := true) rfl (by first | rfl | (simp; done) | (simp; omega)) ?_
          refine WD.take 9 rfl (by kernel_rfl) (by kernel_rfl) (by kernel_rfl) rfl rfl (Yl.pickT rfl rfl) rfl ?_ -- t79
          refine WD.take 10 rfl (by kernel_rfl) (by kernel_rfl) (by kernel_rfl) rfl rfl (Yl.move rfl) rfl ?_ -- t80
          refine WD.takeOn 11 rfl (by kernel_rfl) (by kernel_rfl) (by kernel_rfl) rfl rfl rfl rfl (Yl.move rfl) rfl ?_ -- t81
          refine WD.takeOn 12 rfl (by kernel_rfl) (by kernel_rfl) (by kernel_rfl) rfl rfl rfl rfl (Yl.eql rfl rfl) rfl ?_ -- t82
          refine WD.know (t := 82) (b' := true) rfl (by first | rfl | (simp; done) | (simp; omega)) ?_
          refine WD.take 13 rfl (by kernel_rfl) (by kernel_rfl) (by kernel_rfl) rfl rfl (Yl.pickT rfl rfl) rfl ?_ -- t83
          refine WD.take 14 rfl (by kernel_rfl) (by kernel_rfl) (by kernel_rfl) rfl rfl (Yl.move rfl) rfl ?_ -- t84
          refine WD.takeOn 15 rfl (by kernel_rfl) (by kernel_rfl) (by kernel_rfl) rfl rfl rfl rfl (Yl.move rfl) rfl ?_ -- t85
          refine WD.takeOn 16 rfl (by kernel_rfl) (by kernel_rfl) (by kernel_rfl) rfl rfl rfl rfl (Yl.eql rfl rfl) rfl ?_ -- t86
          refine WD.know (t := 86) (b' := true) rfl (by first | rfl | (simp; done) | (simp; omega)) ?_
          refine WD.take 17 rfl (by kernel_rfl) (by kernel_rfl) (by kernel_rfl) rfl rfl (Yl.pickT rfl rfl) rfl ?_ -- t87
          refine WD.take 18 rfl (by kernel_rfl) (by kernel_rfl) (by kernel_rfl) rfl rfl (Yl.move rfl) rfl ?_ -- t88
          refine WD.takeOn 19 rfl (by kernel_rfl) (by kernel_rfl) (by kernel_rfl) rfl rfl rfl rfl (Yl.move rfl) rfl ?_ -- t89
          refine WD.takeOn 20 rfl (by kernel_rfl) (by kernel_rfl) (by kernel_rfl) rfl rfl rfl rfl (Yl.eql rfl rfl) rfl ?_ -- t90
          refine WD.know (t := 90) (b' := true) rfl (by first | rfl | (simp; done) | (simp; omega)) ?_
          refine WD.take 21 rfl (by kernel_rfl) (by kernel_rfl) (by kernel_rfl) rfl rfl (Yl.pickT rfl rfl) rfl ?_ -- t91
          refine WD.take 22 rfl (by kernel_rfl) (by kernel_rfl) (by kernel_rfl) rfl rfl (Yl.move rfl) rfl ?_ -- t92
          refine WD.takeOn 23 rfl (by kernel_rfl) (by kernel_rfl) (by kernel_rfl) rfl rfl rfl rfl (Yl.move rfl) rfl ?_ -- t93
          refine WD.takeOn 24 rfl (by kernel_rfl) (by kernel_rfl) (by kernel_rfl) rfl rfl rfl rfl (Yl.not rfl) rfl ?_ -- t94
          refine WD.know (t := 94) (b' := true) rfl (by first | rfl | (simp; done) | (simp; omega)) ?_
          refine WD.take 25 rfl (by kernel_rfl) (by kernel_rfl) (by kernel_rfl) rfl rfl (Yl.pickT rfl rfl) rfl ?_ -- t95
          refine WD.take 26 rfl (by kernel_rfl) (by kernel_rfl) (by kernel_rfl) rfl rfl (Yl.move rfl) rfl ?_ -- t96
          refine WD.takeOn 27 rfl (by kernel_rfl) (by kernel_rfl) (by kernel_rfl) rfl rfl rfl rfl (Yl.loadN ag27 rfl (by repeat (first | exact Take1.head | apply Take1.tail)) rfl (rs18 rfl)) rfl ?_ -- t97
          refine WD.takeOn 28 rfl (by kernel_rfl) (by kernel_rfl) (by kernel_rfl) rfl rfl rfl rfl (Yl.loadN ag27 rfl (by repeat (first | exact Take1.head | apply Take1.tail)) rfl (rs18 rfl)) rfl ?_ -- t98
          refine WD.one 29 (by kernel_rfl) ?_
          refine WO.callC (xs := [.tmp 97, .tmp 98]) (cap := []) rfl (.on rfl rfl) rfl rfl en14 (by repeat (first | exact TakeL.nil | (apply TakeL.cons; · repeat (first | exact Take1.head | apply Take1.tail)))) (fun w hw => follows_any (Rs.mk gid 1 y22) (Rs.mk gid 2 y30) [⟨1, 2⟩] kS (rg_ok 1 (by omega) _) (rg_ok 2 (by omega) _) k1_ok kS_ok (by decide) (by decide) w hw.left.here) rfl (fun _ => ⟨_, (by repeat (first | exact TakeL.nil | (apply TakeL.cons; · repeat (first | exact Take1.head | apply Take1.tail))))⟩) ?_ -- t99 hailer/roster.Follows
          rintro ⟨⟩ -
          refine WD.know (t := 99) (b' := true) rfl (fol_kn _ _) ?_
          refine WD.take 30 rfl (by kernel_rfl) (by kernel_rfl) (by kernel_rfl) rfl rfl (Yl.pickT rfl rfl) rfl ?_ -- t100
          refine WD.take 31 rfl (by kernel_rfl) (by kernel_rfl) (by kernel_rfl) rfl rfl (Yl.move rfl) rfl ?_ -- t101
          refine WD.takeOn 32 rfl (by kernel_rfl) (by kernel_rfl) (by kernel_rfl) rfl rfl rfl rfl (Yl.loadN ag27 rfl (by repeat (first | exact Take1.head | apply Take1.tail)) rfl (rs18 rfl)) rfl ?_ -- t102
          refine WD.takeOn 33 rfl (by kernel_rfl) (by kernel_rfl) (by kernel_rfl) rfl rfl rfl rfl (Yl.loadN ag27 rfl (by repeat (first | exact Take1.head | apply Take1.tail)) rfl (rs18 rfl)) rfl ?_ -- t103
          refine WD.one 34 (by kernel_rfl) ?_
          refine WO.callC (xs := [.tmp 102, .tmp 103]) (cap := []) rfl (.on rfl rfl) rfl rfl en14 (by repeat (first | exact TakeL.nil | (apply TakeL.cons; · repeat (first | exact Take1.head | apply Take1.tail)))) (fun w hw => follows_any (Rs.mk gid 2 y30) (Rs.mk gid 1 y22) kS [⟨1, 2⟩] (rg_ok 2 (by omega) _) (rg_ok 1 (by omega) _) kS_ok k1_ok (by decide) (by decide) w hw.left.here) rfl (fun _ => ⟨_, (by repeat (first | exact TakeL.nil | (apply TakeL.cons; · repeat (first | exact Take1.head | apply Take1.tail))))⟩) ?_ -- t104 hailer/roster.Follows
          rintro ⟨⟩ -
          refine WD.know (t := 104) (b' := false) rfl (fol_kn2 _ _) ?_
          refine WD.takeOn 35 rfl (by kernel_rfl) (by kernel_rfl) (by kernel_rfl) rfl rfl rfl rfl (Yl.not rfl) rfl ?_ -- t105
          refine WD.take 36 rfl (by kernel_rfl) (by kernel_rfl) (by kernel_rfl) rfl rfl (Yl.pickT rfl rfl) rfl ?_ -- t106
          refine WD.take 37 rfl (by kernel_rfl) (by kernel_rfl) (by kernel_rfl) rfl rfl (Yl.move rfl) rfl ?_ -- t107
          refine WD.one 38 (by kernel_rfl) ?_
          refine WO.callC (xs := [_, _]) (cap := []) rfl (.on rfl rfl) rfl rfl en28 (by repeat (first | exact TakeL.nil | (apply TakeL.cons; · repeat (first | exact Take1.head | apply Take1.tail)))) (fun w hw => mkdev_any 2 3 w hw.left.here) rfl (fun _ => ⟨_, (by repeat (first | exact TakeL.nil | (apply TakeL.cons; · repeat (first | exact Take1.head | apply Take1.tail))))⟩) ?_ -- t108 hailer/hailerlaw23.dev
          rintro ⟨⟩ -
          refine WD.one 39 (by kernel_rfl) ?_
          refine WO.callC (xs := [.tmp 108]) (cap := []) rfl (.on rfl rfl) rfl rfl en25 (by repeat (first | exact TakeL.nil | (apply TakeL.cons; · repeat (first | exact Take1.head | apply Take1.tail)))) (fun w hw => place_any ⟨2, 3⟩ (dok (by decide)) w hw.left.here) rfl (fun _ => ⟨_, (by repeat (first | exact TakeL.nil | (apply TakeL.cons; · repeat (first | exact Take1.head | apply Take1.tail))))⟩) ?_ -- t109 hailer/roster.Place
          rintro ⟨⟩ -
          refine WD.takeOn 40 rfl (by kernel_rfl) (by kernel_rfl) (by kernel_rfl) rfl rfl rfl rfl (Yl.eql rfl rfl) rfl ?_ -- t110
          refine WD.know (t := 110) (b' := true) rfl (by decide) ?_
          refine WD.take 41 rfl (by kernel_rfl) (by kernel_rfl) (by kernel_rfl) rfl rfl (Yl.pickT rfl rfl) rfl ?_ -- t111
          refine WD.take 42 rfl (by kernel_rfl) (by kernel_rfl) (by kernel_rfl) rfl rfl (Yl.assign rfl) rfl ?_ -- t0
          refine WD.done (by kernel_rfl) ?_
          refine WC.ret ?_
          repeat (first | (with_reducible refine peelT ?_) | (with_reducible refine peelB ?_) | (with_reducible refine peelTX ?_) | (with_reducible refine peelBX ?_) | (with_reducible refine peelBN ?_) | (with_reducible refine peelBO rfl ?_))
          exact ret1 (.inr rfl) Try.results6 rfl fun w' h => ⟨(), trivial, rfl, h.sub (by repeat (first | exact TakeL.nil | (apply TakeL.cons; · repeat (first | exact Take1.head | apply Take1.tail))))⟩
end Go.Proofs.Ytfdnnlcfolgegaa
