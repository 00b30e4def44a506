/- Policies: Tidy; what is idle, collected by the statements: the walks. -/
import Derived.Test.YtnlibngncicobaaPolH
namespace Go.Proofs.Ytnlibngncicobaa
open Go Go.RowKit
theorem take_next {xs ys : List Int} {j : Nat} {x y : Int} (h : xs.take j = ys.take j) (hx : xs[j]? = some x) (hy : ys[j]? = some y) : xs.take (j + 1) = ys.take (j + 1) ↔ x = y := by
  rw [← take_snoc _ _ _ hx, ← take_snoc _ _ _ hy, h]
  simp
theorem equalI_any (v1 v2 : Value) (xs ys : List Int) (hl : xs.length ≤ 1099511627776) (w : World) (hx : RdS w (fpL []) v1 1 xs.length (ints .i64 xs)) (hy : RdS w (fpL []) v2 1 ys.length (ints .i64 ys)) (hw : OK w (fpL []) [] w) :
    Fn Try.prog 20 [v1, v2] [] w (fun _ : Unit => True) (fun _ => .bool (decide (xs = ys))) (fun _ => []) := by
  obtain ⟨al, cl, rfl, hcl, hml⟩ := hx.rd.form
  obtain ⟨bl, dl, rfl, hdl, hml2⟩ := hy.rd.form
  refine enterF Try.func20 rfl Try.ntmps20 rfl hw ?_
  refine WC.seq ?_
  refine WC.region ?_
  refine WL.y (Yl.assign rfl) rfl ?_
  refine WL.nil ?_
  refine WC.seq ?_
  refine WC.seq ?_
  refine WC.region ?_
  refine WL.y (Yl.move rfl) rfl ?_
  refine WL.y (Yl.len un49 rfl) rfl ?_
  refine WL.y (Yl.move rfl) rfl ?_
  refine WL.y (Yl.len un49 rfl) rfl ?_
  refine WL.y (Yl.neq rfl rfl) rfl ?_
  refine WL.nil ?_
  refine WC.condD rfl (fun g10 => ?_) (fun g10 => ?_)
  · refine WC.seq ?_
    refine WC.region ?_
    refine WL.y (Yl.assign rfl) rfl ?_
    refine WL.nil ?_
    refine WC.ret ?_
    repeat (first | (with_reducible refine peelT ?_) | (with_reducible refine peelB ?_) | (with_reducible refine peelTX ?_) | (with_reducible refine peelBX ?_) | (with_reducible refine peelBN ?_) | (with_reducible refine peelBO rfl ?_))
    have hne : ¬ xs = ys := fun e => by
      have := g10
      rw [e] at this
      exact this rfl
    exact ret1 (.inr rfl) Try.results20 rfl fun w' h => ⟨(), trivial, by rw [decide_eq_false hne], h.sub (by repeat (first | exact TakeL.nil | (apply TakeL.cons; · repeat (first | exact Take1.head | apply Take1.tail))))⟩
  · refine WC.skip ?_
    refine WC.seq ?_
    refine WC.seq ?_
    have hlen : xs.length = ys.length := by have := g10; omega
    refine WC.region ?_
    refine WL.y (Yl.move rfl) rfl ?_
    refine WL.y (Yl.len un49 rfl) rfl ?_
    refine WL.y (Yl.move rfl) rfl ?_
    refine WL.nil ?_
    refine WC.block ?_
    refine WC.loop (α := Nat) (fun k => [(0, .slice al xs.length cl), (1, .slice bl ys.length dl), (12, .int .i64 (xs.length : Int)), (13, .int .i64 (k : Int))]) (fun _ => []) (fun k => k ≤ xs.length ∧ xs.take k = ys.take k) (fun k => xs.length - k) 0 ⟨Nat.zero_le _, by simp⟩ ⟨(by repeat (first | exact Sub.nil | refine Sub.cons rfl ?_)), _, (by repeat (first | exact TakeL.nil | (apply TakeL.cons; · repeat (first | exact Take1.head | apply Take1.tail))))⟩ ?_
    rintro k ⟨hk, hsame⟩
    refine WC.seq ?_
    refine WC.region ?_
    refine WL.y (Yl.lss rfl rfl) rfl ?_
    refine WL.nil ?_
    refine WC.seq ?_
    refine WC.condD rfl (fun g14 => ?_) (fun g14 => ?_)
    · refine WC.skip ?_
      refine WC.seq ?_
      refine WC.block ?_
      refine WC.seq ?_
      refine WC.region ?_
      refine WL.y (Yl.move rfl) rfl ?_
      refine WL.y (Yl.assign rfl) rfl ?_
      refine WL.nil ?_
      refine WC.seq ?_
      have hkl : k < xs.length := by have := g14; omega
      obtain ⟨x, hx0⟩ : ∃ x, xs[k]? = some x := ⟨_, List.getElem?_eq_getElem hkl⟩
      obtain ⟨y, hy0⟩ : ∃ x, ys[k]? = some x := ⟨_, List.getElem?_eq_getElem (by omega)⟩
      refine WC.drawRead mixed (by kernel_rfl) ?_
      refine WH.y (Yl.move rfl) rfl ?_
      refine WH.y (Yl.move rfl) rfl ?_
      refine WH.y (Yl.index un49 sz3 rfl rfl (Reads.s hx) rfl (by omega)) rfl ?_
      refine WH.y (Yl.loadE (j := k) on3 rfl (Reads.s hx) (u := .int .i64 x) (by simp [ints, hx0])) rfl ?_
      refine WH.y (Yl.move rfl) rfl ?_
      refine WH.y (Yl.move rfl) rfl ?_
      refine WH.y (Yl.index un49 sz3 rfl rfl (Reads.s hy) rfl (by omega)) rfl ?_
      refine WH.y (Yl.loadE (j := k) on3 rfl (Reads.s hy) (u := .int .i64 y) (by simp [ints, hy0])) rfl ?_
      refine WH.y (Yl.neq rfl rfl) rfl ?_
      refine WH.nil ?_
      refine WC.condD rfl (fun g24 => ?_) (fun g24 => ?_)
      · refine WC.seq ?_
        refine WC.region ?_
        refine WL.y (Yl.assign rfl) rfl ?_
        refine WL.nil ?_
        refine WC.ret ?_
        repeat (first | (with_reducible refine peelT ?_) | (with_reducible refine peelB ?_) | (with_reducible refine peelTX ?_) | (with_reducible refine peelBX ?_) | (with_reducible refine peelBN ?_) | (with_reducible refine peelBO rfl ?_))
        have hne : ¬ xs = ys := fun e => by
          subst e
          rw [hx0] at hy0
          exact g24 (Option.some.inj hy0)
        exact ret1 (.inr rfl) Try.results20 rfl fun w' h => ⟨(), trivial, by rw [decide_eq_false hne], h.sub (by repeat (first | exact TakeL.nil | (apply TakeL.cons; · repeat (first | exact Take1.head | apply Take1.tail))))⟩
      · refine WC.skip ?_
        refine WC.region ?_
        refine WL.y (Yl.add rfl rfl (IntWalk.i64_in _ (by omega))) rfl ?_
        refine WL.y (Yl.move rfl) rfl ?_
        refine WL.nil ?_
        have hxy : x = y := by have := g24; omega
        exact ⟨rfl, k + 1, ⟨by omega, (take_next hsame hx0 hy0).2 hxy⟩, by omega, (by repeat (first | exact Sub.nil | refine Sub.cons rfl ?_)), _, (by repeat (first | exact TakeL.nil | (apply TakeL.cons; · repeat (first | exact Take1.head | apply Take1.tail))))⟩
    · refine WC.exit ?_
      refine WC.seq ?_
      refine WC.region ?_
      refine WL.y (Yl.assign rfl) rfl ?_
      refine WL.nil ?_
      refine WC.ret ?_
      repeat (first | (with_reducible refine peelT ?_) | (with_reducible refine peelB ?_) | (with_reducible refine peelTX ?_) | (with_reducible refine peelBX ?_) | (with_reducible refine peelBN ?_) | (with_reducible refine peelBO rfl ?_))
      have hkn : k = xs.length := by have := g14; omega
      have he : xs = ys := by
        rw [hkn, List.take_length, hlen, List.take_length] at hsame
        exact hsame
      exact ret1 (.inr rfl) Try.results20 rfl fun w' h => ⟨(), trivial, by rw [decide_eq_true he], h.sub (by repeat (first | exact TakeL.nil | (apply TakeL.cons; · repeat (first | exact Take1.head | apply Take1.tail))))⟩
/-- Rules gone over while the policy is owned: the iterator leans on the rules alone. -/
theorem rulesO_any (b : Nat) (ao : Option Addr) (ca : Nat) (p : Po) (hG : UOk p.rl) (hl : p.rl.length ≤ 1000000) (w : World) (hw : OK w (fpL [blkR b 80 (p.cells (.slice ao p.rl.length ca)), rdR (.slice ao p.rl.length ca) 5 p.rl.length (vcs ruV p.rl)]) [blkR b 80 (p.cells (.slice ao p.rl.length ca)), rdR (.slice ao p.rl.length ca) 5 p.rl.length (vcs ruV p.rl)] w) :
    Fn Try.prog 32 [.pointer (some ⟨b, 0, none⟩)] [blkR b 80 (p.cells (.slice ao p.rl.length ca)), rdR (.slice ao p.rl.length ca) 5 p.rl.length (vcs ruV p.rl)] w (fun _ : Nat × (Nat → Prop) => True) (fun y => .func (.func 71) #[] #[.pointer (some ⟨y.1, 0, none⟩)]) (fun y => [itR Try.prog 71 [.pointer (some ⟨y.1, 0, none⟩)] y.2 (yrU p.rl), blkR b 80 (p.cells (.slice ao p.rl.length ca)), rdR (.slice ao p.rl.length ca) 5 p.rl.length (vcs ruV p.rl)]) := by
  refine enterF Try.func32 rfl Try.ntmps32 rfl hw ?_
  refine WC.seq ?_
  refine WC.region ?_
  refine WL.y (Yl.assign rfl) rfl ?_
  refine WL.nil ?_
  refine WC.seq ?_
  refine WC.seq ?_
  refine WC.region ?_
  refine WL.y (Yl.move rfl) rfl ?_
  refine WL.y (Yl.nilEq un33 rfl rfl) rfl ?_
  refine WL.know (t := 4) (b' := false) rfl (by first | rfl | (simp; done) | (simp; omega)) ?_
  refine WL.nil ?_
  refine WC.condF rfl (by first | rfl | (simp; done) | (simp; omega)) ?_
  refine WC.skip ?_
  refine WC.seq ?_
  refine WC.region ?_
  refine WL.y (Yl.move rfl) rfl ?_
  refine WL.y (Yl.nilCheck rfl) rfl ?_
  refine WL.y (Yl.field fo80_1 rfl) rfl ?_
  refine WL.y (Yl.load on64 rfl (by repeat (first | exact Take1.head | apply Take1.tail)) (by rfl)) rfl ?_
  refine WL.view (fun w h => h.dup (r := rdR (.slice ao p.rl.length ca) 5 p.rl.length (vcs ruV p.rl)) (by repeat (first | exact Take1.head | apply Take1.tail)) (fun _ h => h)) ?_
  refine WL.callC (xs := [.tmp 9]) (cap := []) rfl rfl en59 (by repeat (first | exact TakeL.nil | (apply TakeL.cons; · repeat (first | exact Take1.head | apply Take1.tail)))) (fun w hw => all_any (.slice ao p.rl.length ca) p.rl hG hl w hw.left.here) rfl ?_
  rintro ⟨y1, own⟩ -
  dsimp only [List.cons_append, List.nil_append]
  refine WL.y (Yl.assign rfl) rfl ?_
  refine WL.nil ?_
  refine WC.ret ?_
  repeat (first | (with_reducible refine peelT ?_) | (with_reducible refine peelB ?_) | (with_reducible refine peelTX ?_) | (with_reducible refine peelBX ?_) | (with_reducible refine peelBN ?_) | (with_reducible refine peelBO rfl ?_))
  exact ret1 (.inr rfl) Try.results32 rfl fun w' h => ⟨(y1, own), trivial, rfl, h.sub (by repeat (first | exact TakeL.nil | (apply TakeL.cons; · repeat (first | exact Take1.head | apply Take1.tail))))⟩
theorem idleL_any (b : Nat) (ao : Option Addr) (ca : Nat) (p : Po) (hp : p.ok) (w : World) (hw : OK w (fpL [blkR b 80 (p.cells (.slice ao p.rl.length ca)), rdR (.slice ao p.rl.length ca) 5 p.rl.length (vcs ruV p.rl)]) [blkR b 80 (p.cells (.slice ao p.rl.length ca)), rdR (.slice ao p.rl.length ca) 5 p.rl.length (vcs ruV p.rl)] w) :
    Fn Try.prog 39 [.pointer (some ⟨b, 0, none⟩)] [blkR b 80 (p.cells (.slice ao p.rl.length ca)), rdR (.slice ao p.rl.length ca) 5 p.rl.length (vcs ruV p.rl)] w (fun _ : Nat × (Nat → Prop) => True) (fun y => .func (.func 62) #[] #[.pointer (some ⟨y.1, 0, none⟩)]) (fun y => [lendR [blkR b 80 (p.cells (.slice ao p.rl.length ca)), rdR (.slice ao p.rl.length ca) 5 p.rl.length (vcs ruV p.rl)] (itR Try.prog 62 [.pointer (some ⟨y.1, 0, none⟩)] y.2 (yiU (idleU p.rl)))]) :=
  Fn.lend (A := [blkR b 80 (p.cells (.slice ao p.rl.length ca)), rdR (.slice ao p.rl.length ca) 5 p.rl.length (vcs ruV p.rl)]) (it := fun y : Nat × (Nat → Prop) => itR Try.prog 62 [.pointer (some ⟨y.1, 0, none⟩)] y.2 (yiU (idleU p.rl))) (fun _ _ h => h) (fun hw => idleP_any b ao ca p hp w hw) hw
theorem colL_any (A : List Res) (gf : Nat) (lb : List Value) (own : Nat → Prop) (ns : List Nat) (hl : ns.length ≤ 1000000) (eg : ∀ args w, (callFunc gf args).run Try.prog w = .ok (.enter gf args) w) (w : World) (hw : OK w (fpL [lendR A (itR Try.prog gf lb own (yiU ns))]) [lendR A (itR Try.prog gf lb own (yiU ns))] w) :
    Fn Try.prog 40 [.func (.func gf) #[] lb.toArray] [lendR A (itR Try.prog gf lb own (yiU ns))] w (fun _ : Option Addr × Nat => True) (fun y => .slice y.1 ns.length y.2) (fun y => ownR (.slice y.1 ns.length y.2) 3 1 ns.length (ints .i64 (natI ns)) :: A) :=
  Fn.unlend (B := fun y : Option Addr × Nat => [ownR (.slice y.1 ns.length y.2) 3 1 ns.length (ints .i64 (natI ns))]) (fun _ h => h) (fun y s hs k hk => by rw [List.mem_singleton.1 hs] at hk ⊢; exact hk) (fun hw => colI_any gf lb own ns hl eg w hw) hw
theorem idle_len (l : List Ru) : (idleU l).length ≤ l.length := by
  have := List.length_filter_le (fun i => !decU l i) (List.range l.length)
  rw [List.length_range] at this
  exact this
theorem idle_mem {l : List Ru} {i : Nat} (h : i < l.length) : (!decide ((i : Int) ∈ natI (idleU l))) = decU l i := by
  have e : ((i : Int) ∈ natI (idleU l)) ↔ decU l i = false := by
    unfold natI idleU
    constructor
    · intro hm
      obtain ⟨n, hn, he⟩ := List.mem_map.1 hm
      have : n = i := by omega
      subst this
      simpa using (List.mem_filter.1 hn).2
    · intro hd
      exact List.mem_map.2 ⟨i, List.mem_filter.2 ⟨List.mem_range.2 h, by simp [hd]⟩, rfl⟩
  cases hd : decU l i
  · rw [decide_eq_true (e.2 hd)]; rfl
  · rw [decide_eq_false (fun hm => by rw [e.1 hm] at hd; cases hd)]; rfl
def tidyU (p : Po) : Po := { p with rl := keptU p.rl }
theorem kept_len (l : List Ru) : (keptU l).length ≤ l.length := by
  unfold keptU
  rw [keep_len]
  unfold rankQ
  have := List.length_filter_le (fun j => decU l (0 + j)) (List.range l.length)
  rw [List.length_range] at this
  exact this
theorem Po.ok.tidy {p : Po} (h : p.ok) : (tidyU p).ok := by
  have hl := kept_len p.rl
  have hln := h.len
  exact ⟨h.df, fun r hr => h.rl r (keep_mem _ _ _ r hr), by show (keptU p.rl).length ≤ 64; omega, h.la, h.lar, h.no⟩
def kpN (l : List Ru) (i : Nat) : List Ru := keepQ (decU l) 0 (l.take i)
theorem kpN_next {l : List Ru} {i : Nat} {x : Ru} (h : l[i]? = some x) : kpN l (i + 1) = kpN l i ++ (if decU l i then [x] else []) := by
  have hl := (List.getElem?_eq_some_iff.1 h).1
  unfold kpN
  rw [← take_snoc _ _ _ h, keep_snoc, Nat.zero_add, List.length_take, Nat.min_eq_left (by omega)]
theorem kpN_all (l : List Ru) : kpN l l.length = keptU l := by unfold kpN; rw [List.take_length]; rfl
theorem kpN_len (l : List Ru) (i : Nat) : (kpN l i).length ≤ l.length := by
  unfold kpN
  rw [keep_len]
  unfold rankQ
  have := List.length_filter_le (fun j => decU l (0 + j)) (List.range (l.take i).length)
  rw [List.length_range, List.length_take] at this
  have h2 : min i l.length ≤ l.length := Nat.min_le_right _ _
  rw [List.length_take]
  exact Nat.le_trans this h2
theorem tidyNil_any (w : World) (hw : OK w (fpL []) [] w) :
    Fn Try.prog 22 [.pointer none] [] w (fun _ : Unit => True) (fun _ => .int .i64 0) (fun _ => []) := by
  refine enterM Try.func22 rfl Try.ntmps22 rfl hw ?_
  refine WC.seq ?_
  refine WC.region ?_
  refine WL.y (Yl.assign rfl) rfl ?_
  refine WL.nil ?_
  refine WC.seq ?_
  refine WC.seq ?_
  refine WC.region ?_
  refine WL.y (Yl.move rfl) rfl ?_
  refine WL.y (Yl.nilEq un33 rfl rfl) rfl ?_
  refine WL.know (t := 8) (b' := true) rfl (by first | rfl | (simp; done) | (simp; omega)) ?_
  refine WL.nil ?_
  refine WC.condT rfl (by first | rfl | (simp; done) | (simp; omega)) ?_
  refine WC.seq ?_
  refine WC.region ?_
  refine WL.y (Yl.assign rfl) rfl ?_
  refine WL.nil ?_
  refine WC.ret ?_
  repeat (first | (with_reducible refine peelT ?_) | (with_reducible refine peelB ?_) | (with_reducible refine peelTX ?_) | (with_reducible refine peelBX ?_) | (with_reducible refine peelBN ?_) | (with_reducible refine peelBO rfl ?_))
  refine retM.of .nil ?_
  exact ret1 (.inr rfl) Try.results22 rfl fun w' h => ⟨(), trivial, rfl, h.sub (by repeat (first | exact TakeL.nil | (apply TakeL.cons; · repeat (first | exact Take1.head | apply Take1.tail))))⟩
set_option maxRecDepth 100000 in
theorem tidyP_any (b : Nat) (ao : Option Addr) (ca : Nat) (p : Po) (hp : p.ok) (w : World) (hw : OK w (fpL (polR b ao ca p)) (polR b ao ca p) w) :
    Fn Try.prog 22 [.pointer (some ⟨b, 0, none⟩)] (polR b ao ca p) w (fun _ : Option Addr × Nat => True) (fun _ => .int .i64 ((idleU p.rl).length : Int)) (fun y => polR b y.1 y.2 (tidyU p)) := by
  have hro := UOk.of hp
  have hln := hp.len
  have hil := idle_len p.rl
  obtain ⟨G, hG⟩ : ∃ G, idleU p.rl = G := ⟨_, rfl⟩
  have hgl := natI_len G
  unfold polR at hw ⊢
  refine enterM Try.func22 rfl Try.ntmps22 rfl hw ?_
  refine WC.seq ?_
  refine WC.region ?_
  refine WL.y (Yl.assign rfl) rfl ?_
  refine WL.nil ?_
  refine WC.seq ?_
  refine WC.seq ?_
  refine WC.region ?_
  refine WL.y (Yl.move rfl) rfl ?_
  refine WL.y (Yl.nilEq un33 rfl rfl) rfl ?_
  refine WL.know (t := 8) (b' := false) rfl (by first | rfl | (simp; done) | (simp; omega)) ?_
  refine WL.nil ?_
  refine WC.condF rfl (by first | rfl | (simp; done) | (simp; omega)) ?_
  refine WC.skip ?_
  refine WC.seq ?_
  refine WC.region ?_
  refine WL.y (Yl.move rfl) rfl ?_
  refine WL.callC (xs := [.tmp 9]) (cap := []) rfl rfl en39 (by repeat (first | exact TakeL.nil | (apply TakeL.cons; · repeat (first | exact Take1.head | apply Take1.tail)))) (fun w hw => idleL_any b ao ca p hp w hw.left.here) rfl ?_
  rintro ⟨y10, own10⟩ -
  rw [hG] at hil ⊢
  dsimp only [List.cons_append, List.nil_append]
  refine WL.callC (xs := [.tmp 10]) (cap := []) rfl rfl en40 (by repeat (first | exact TakeL.nil | (apply TakeL.cons; · repeat (first | exact Take1.head | apply Take1.tail)))) (fun w hw => colL_any [blkR b 80 (p.cells (.slice ao p.rl.length ca)), rdR (.slice ao p.rl.length ca) 5 p.rl.length (vcs ruV p.rl)] 62 [.pointer (some ⟨y10, 0, none⟩)] own10 G (by omega) en62 w hw.left.here) rfl ?_
  rintro ⟨aoG, cG⟩ -
  dsimp only [List.cons_append, List.nil_append]
  refine WL.view (fun w h => h.readOnly (v := .slice aoG G.length cG) (by repeat (first | exact Take1.head | apply Take1.tail))) ?_
  refine WL.to (To.alloc (cs := [.slice none 0 0]) zr49 rfl) rfl ?_
  intro b3
  refine WL.sto (Sto.one sz49 rfl rfl (by repeat (first | exact Take1.head | apply Take1.tail)) rfl (by rfl) (by rfl)) (fun _ h => nomatch h) ?_
  refine WL.nil ?_
  refine WC.seq ?_
  refine WC.region ?_
  refine WL.to (To.alloc (cs := [.slice none 0 0]) zr64 rfl) rfl ?_
  intro b4
  refine WL.nil ?_
  refine WC.seq ?_
  refine WC.seq ?_
  refine WC.region ?_
  refine WL.y (Yl.move rfl) rfl ?_
  refine WL.callC (xs := [.tmp 12]) (cap := []) rfl rfl en32 (by repeat (first | exact TakeL.nil | (apply TakeL.cons; · repeat (first | exact Take1.head | apply Take1.tail)))) (fun w hw => rulesO_any b ao ca p hro (by omega) w hw.left.here) rfl ?_
  rintro ⟨y13, own13⟩ -
  dsimp only [List.cons_append, List.nil_append]
  refine WL.nil ?_
  refine WC.block ?_
  refine WC.view (fun w h => h.addNil 24 5) ?_
  refine WC.range (α := Option Addr × Nat) (xs := yrU p.rl) (fun i s => [blkR b3 49 [.slice aoG G.length cG], rdR (.slice aoG G.length cG) 1 G.length (ints .i64 (natI G)), blkR b4 64 [.slice s.1 (kpN p.rl i).length s.2], ownR (.slice s.1 (kpN p.rl i).length s.2) 24 5 (kpN p.rl i).length (vcs ruV (kpN p.rl i))]) (fun _ _ => True) (none, 0) rfl en71 yrU_size rfl (by repeat (first | exact Take1.head | apply Take1.tail)) trivial (by repeat (first | exact TakeL.nil | (apply TakeL.cons; · repeat (first | exact Take1.head | apply Take1.tail)))) ?_ ?_
  · rintro l2 i x ⟨ao4, c4⟩ hx - W
    obtain ⟨x, hx0, rfl⟩ := yrU_at hx
    have hil2 := (List.getElem?_eq_some_iff.1 hx0).1
    have hnx := kpN_next hx0
    have hkl := kpN_len p.rl i
    have hmem := idle_mem hil2
    rw [hG] at hmem
    dsimp only
    show WC _ _ _ ((15, .agg x.cells.toArray) :: (14, .int .i64 (i : Int)) :: _) _ _
    refine WC.seq ?_
    refine WC.region ?_
    refine WL.y (Yl.assign rfl) rfl ?_
    refine WL.nil ?_
    refine WC.region ?_
    refine WL.to (To.alloc (cs := Ru.zero.cells) zr24 rfl) rfl ?_
    intro b6
    refine WL.sto (Sto.agg sz24 rfl rfl (by repeat (first | exact Take1.head | apply Take1.tail)) (Ru.ones _) (Ru.len x) (by rfl) (Ru.all Ru.zero x.cells (Ru.len x))) (fun _ h => nomatch h) ?_
    refine WL.nil ?_
    repeat (first | (with_reducible refine peelT ?_) | (with_reducible refine peelB ?_) | (with_reducible refine peelTX ?_) | (with_reducible refine peelBX ?_) | (with_reducible refine peelBN ?_) | (with_reducible refine peelBO rfl ?_))
    refine fun W2 => ?_
    refine WC.block ?_
    refine WC.seq ?_
    refine WC.region ?_
    refine WL.y (Yl.load on49 rfl (by repeat (first | exact Take1.head | apply Take1.tail)) (by rfl)) rfl ?_
    refine WL.y (Yl.move rfl) rfl ?_
    refine WL.callC (xs := [.tmp 16, .tmp 17]) (cap := []) rfl rfl en41 (by repeat (first | exact TakeL.nil | (apply TakeL.cons; · repeat (first | exact Take1.head | apply Take1.tail)))) (fun w hw => contains_any (.slice aoG G.length cG) (natI G) (i : Int) (by omega) w (by rw [hgl]; exact hw.src (A := []) (r := rdR (.slice aoG G.length cG) 1 G.length (ints .i64 (natI G))) RdOf.rd' (by repeat (first | exact Take1.head | apply Take1.tail))) hw.left.here) rfl ?_
    rintro ⟨⟩ -
    refine WL.y (Yl.not rfl) rfl ?_
    refine WL.say (t := 19) (v' := .bool (decU p.rl i)) rfl (by rw [hmem]) ?_
    refine WL.nil ?_
    refine WC.cond rfl (fun g19 => ?_) (fun g19 => ?_)
    · have hd : decU p.rl i = true := by simpa using g19
      rw [hd, if_pos rfl] at hnx
      have hn1 : (kpN p.rl (i + 1)).length = (kpN p.rl i).length + 1 := by rw [hnx, List.length_append]; rfl
      refine WC.region ?_
      refine WL.y (Yl.load on64 rfl (by repeat (first | exact Take1.head | apply Take1.tail)) (by rfl)) rfl ?_
      refine WL.y (Yl.loadN ag24 rfl (by repeat (first | exact Take1.head | apply Take1.tail)) (by rfl) (Ru.call x)) rfl ?_
      refine WL.to (To.buildSlice (vs := [.agg x.cells.toArray]) un64 zs24 rfl rfl (by simp [Value.cells, Ru.cells]) (by decide) (by decide)) rfl ?_
      intro b22
      rw [flat1]
      refine WL.to (To.append sl64 rfl rfl (by repeat (first | exact Take1.head | apply Take1.tail)) (Reads.of (rdRu (hro.get hx0)) (by repeat (first | exact Take1.head | apply Take1.tail))) (Ru.ones x) (show (kpN p.rl i).length + 1 = (kpN p.rl (i + 1)).length by omega) (show vcs ruV (kpN p.rl i) ++ x.cells = vcs ruV (kpN p.rl (i + 1)) by rw [hnx, vcs_app, vcs_one]; rfl) (by unfold maxLen; omega) (by omega)) rfl ?_
      rintro ⟨⟨ao23, c23⟩, hc23⟩
      dsimp only at hc23 ⊢
      refine WL.sto (Sto.one sz64 rfl rfl (by repeat (first | exact Take1.head | apply Take1.tail)) rfl (by rfl) (by rfl)) (fun _ h => nomatch h) ?_
      refine WL.nil ?_
      repeat (first | (with_reducible refine peelT ?_) | (with_reducible refine peelB ?_) | (with_reducible refine peelTX ?_) | (with_reducible refine peelBX ?_) | (with_reducible refine peelBN ?_) | (with_reducible refine peelBO rfl ?_))
      exact ⟨[blkR b3 49 [.slice aoG G.length cG], rdR (.slice aoG G.length cG) 1 G.length (ints .i64 (natI G)), blkR b4 64 [.slice ao23 (kpN p.rl (i + 1)).length c23], ownR (.slice ao23 (kpN p.rl (i + 1)).length c23) 24 5 (kpN p.rl (i + 1)).length (vcs ruV (kpN p.rl (i + 1)))], _, (by repeat (first | exact TakeL.nil | (apply TakeL.cons; · repeat (first | exact Take1.head | apply Take1.tail)))), (ao23, c23), trivial, rfl⟩
    · refine WC.skip ?_
      repeat (first | (with_reducible refine peelT ?_) | (with_reducible refine peelB ?_) | (with_reducible refine peelTX ?_) | (with_reducible refine peelBX ?_) | (with_reducible refine peelBN ?_) | (with_reducible refine peelBO rfl ?_))
      have hd : decU p.rl i = false := by simpa using g19
      rw [hd, if_neg (by simp), List.append_nil] at hnx
      exact ⟨[blkR b3 49 [.slice aoG G.length cG], rdR (.slice aoG G.length cG) 1 G.length (ints .i64 (natI G)), blkR b4 64 [.slice ao4 (kpN p.rl i).length c4], ownR (.slice ao4 (kpN p.rl i).length c4) 24 5 (kpN p.rl i).length (vcs ruV (kpN p.rl i))], _, (by repeat (first | exact TakeL.nil | (apply TakeL.cons; · repeat (first | exact Take1.head | apply Take1.tail)))), (ao4, c4), trivial, by rw [hnx]⟩
  · rintro ⟨ao4, c4⟩ D -
    rw [yrU_len, kpN_all]
    dsimp only [List.cons_append, List.nil_append]
    refine WC.seq ?_
    refine WC.region ?_
    refine WL.y (Yl.move rfl) rfl ?_
    refine WL.y (Yl.load on64 rfl (by repeat (first | exact Take1.head | apply Take1.tail)) (by rfl)) rfl ?_
    refine WL.y (Yl.nilCheck rfl) rfl ?_
    refine WL.y (Yl.field fo80_1 rfl) rfl ?_
    refine WL.sto (Sto.one sz64 rfl rfl (by repeat (first | exact Take1.head | apply Take1.tail)) rfl (by rfl) (by rfl)) (fun _ h => nomatch h) ?_
    refine WL.nil ?_
    refine WC.seq ?_
    refine WC.region ?_
    refine WL.y (Yl.load on49 rfl (by repeat (first | exact Take1.head | apply Take1.tail)) (by rfl)) rfl ?_
    refine WL.y (Yl.len un49 rfl) rfl ?_
    refine WL.y (Yl.assign rfl) rfl ?_
    refine WL.nil ?_
    refine WC.ret ?_
    repeat (first | (with_reducible refine peelT ?_) | (with_reducible refine peelB ?_) | (with_reducible refine peelTX ?_) | (with_reducible refine peelBX ?_) | (with_reducible refine peelBN ?_) | (with_reducible refine peelBO rfl ?_))
    refine retM.of (.cons (by repeat (first | exact Take1.head | apply Take1.tail)) .nil) ?_
    exact ret1 (.inr rfl) Try.results22 rfl fun w' h => ⟨(ao4, c4), trivial, rfl, (h.readOnly (v := .slice ao4 (keptU p.rl).length c4) (by repeat (first | exact Take1.head | apply Take1.tail))).sub (by repeat (first | exact TakeL.nil | (apply TakeL.cons; · repeat (first | exact Take1.head | apply Take1.tail))))⟩
set_option maxRecDepth 100000 in
theorem lidleNil_any (w : World) (hw : OK w (fpL []) [] w) :
    Fn Try.prog 21 [.pointer none] [] w (fun _ : Option Addr × Nat => True) (fun y => .slice y.1 0 y.2) (fun y => []) := by
  refine enterM Try.func21 rfl Try.ntmps21 rfl hw ?_
  refine WC.seq ?_
  refine WC.region ?_
  refine WL.y (Yl.assign rfl) rfl ?_
  refine WL.nil ?_
  refine WC.seq ?_
  refine WC.region ?_
  refine WL.to (To.alloc (cs := [.slice none 0 0]) zr49 rfl) rfl ?_
  intro b3
  refine WL.nil ?_
  refine WC.seq ?_
  refine WC.seq ?_
  refine WC.region ?_
  refine WL.y (Yl.move rfl) rfl ?_
  refine WL.callC (xs := [.tmp 5]) (cap := []) rfl rfl en39 (by repeat (first | exact TakeL.nil | (apply TakeL.cons; · repeat (first | exact Take1.head | apply Take1.tail)))) (fun w hw => idleNil_any w hw.left.here) rfl ?_
  rintro ⟨y6, own6⟩ -
  dsimp only [List.cons_append, List.nil_append]
  refine WL.nil ?_
  refine WC.block ?_
  refine WC.range (α := Unit) (xs := yiU []) (fun i s => [blkR b3 49 [.slice none 0 0]]) (fun _ _ => True) () rfl en62 yiU_size rfl (by repeat (first | exact Take1.head | apply Take1.tail)) trivial (by repeat (first | exact TakeL.nil | (apply TakeL.cons; · repeat (first | exact Take1.head | apply Take1.tail)))) (fun l2 i x s hx => by simp [yiU] at hx) ?_
  rintro _ D -
  dsimp only [List.cons_append, List.nil_append]
  refine WC.seq ?_
  refine WC.region ?_
  refine WL.y (Yl.load on49 rfl (by repeat (first | exact Take1.head | apply Take1.tail)) (by rfl)) rfl ?_
  refine WL.y (Yl.assign rfl) rfl ?_
  refine WL.nil ?_
  refine WC.ret ?_
  repeat (first | (with_reducible refine peelT ?_) | (with_reducible refine peelB ?_) | (with_reducible refine peelTX ?_) | (with_reducible refine peelBX ?_) | (with_reducible refine peelBN ?_) | (with_reducible refine peelBO rfl ?_))
  refine retM.of (.cons (by repeat (first | exact Take1.head | apply Take1.tail)) .nil) ?_
  exact ret1 (.inr rfl) Try.results21 rfl fun w' h => ⟨(none, 0), trivial, rfl, h.sub (by repeat (first | exact TakeL.nil | (apply TakeL.cons; · repeat (first | exact Take1.head | apply Take1.tail))))⟩
set_option maxRecDepth 100000 in
theorem lidle_any (b : Nat) (ao : Option Addr) (ca : Nat) (p : Po) (hp : p.ok) (w : World) (hw : OK w (fpL [roR (blkR b 80 (p.cells (.slice ao p.rl.length ca))), rdR (.slice ao p.rl.length ca) 5 p.rl.length (vcs ruV p.rl)]) [roR (blkR b 80 (p.cells (.slice ao p.rl.length ca))), rdR (.slice ao p.rl.length ca) 5 p.rl.length (vcs ruV p.rl)] w) :
    Fn Try.prog 21 [.pointer (some ⟨b, 0, none⟩)] [roR (blkR b 80 (p.cells (.slice ao p.rl.length ca))), rdR (.slice ao p.rl.length ca) 5 p.rl.length (vcs ruV p.rl)] w (fun _ : Option Addr × Nat => True) (fun y => .slice y.1 (idleU p.rl).length y.2) (fun y => [ownR (.slice y.1 (idleU p.rl).length y.2) 3 1 (idleU p.rl).length (ints .i64 (natI (idleU p.rl)))]) := by
  have hln := hp.len
  have hil := idle_len p.rl
  obtain ⟨G, hG⟩ : ∃ G, idleU p.rl = G := ⟨_, rfl⟩
  refine enterM Try.func21 rfl Try.ntmps21 rfl hw ?_
  refine WC.seq ?_
  refine WC.region ?_
  refine WL.y (Yl.assign rfl) rfl ?_
  refine WL.nil ?_
  refine WC.seq ?_
  refine WC.region ?_
  refine WL.to (To.alloc (cs := [.slice none 0 0]) zr49 rfl) rfl ?_
  intro b3
  refine WL.nil ?_
  refine WC.seq ?_
  refine WC.seq ?_
  refine WC.region ?_
  refine WL.y (Yl.move rfl) rfl ?_
  refine WL.callC (xs := [.tmp 5]) (cap := []) rfl rfl en39 (by repeat (first | exact TakeL.nil | (apply TakeL.cons; · repeat (first | exact Take1.head | apply Take1.tail)))) (fun w hw => idleP_any b ao ca p hp w hw.left.here) rfl ?_
  rintro ⟨y6, own6⟩ -
  rw [hG] at hil ⊢
  dsimp only [List.cons_append, List.nil_append]
  refine WL.nil ?_
  refine WC.block ?_
  refine WC.view (fun w h => h.addNil 3 1) ?_
  refine WC.range (α := Option Addr × Nat) (xs := yiU G) (fun i s => [blkR b3 49 [.slice s.1 (G.take i).length s.2], ownR (.slice s.1 (G.take i).length s.2) 3 1 (G.take i).length (ints .i64 (natI (G.take i)))]) (fun _ _ => True) (none, 0) rfl en62 yiU_size rfl (by repeat (first | exact Take1.head | apply Take1.tail)) trivial (by repeat (first | exact TakeL.nil | (apply TakeL.cons; · repeat (first | exact Take1.head | apply Take1.tail)))) ?_ ?_
  · rintro l2 i x ⟨ao4, c4⟩ hx - W
    dsimp only
    obtain ⟨x, hx0, rfl⟩ := yiU_at hx
    have hil2 := (List.getElem?_eq_some_iff.1 hx0).1
    have hnx : G.take (i + 1) = G.take i ++ [x] := (take_snoc _ _ _ hx0).symm
    have htl : (G.take i).length = i := by rw [List.length_take]; omega
    have htl2 : (G.take (i + 1)).length = i + 1 := by rw [List.length_take]; omega
    show WC _ _ _ ((7, .int .i64 (x : Int)) :: _) _ _
    refine WC.region ?_
    refine WL.y (Yl.assign rfl) rfl ?_
    refine WL.nil ?_
    repeat (first | (with_reducible refine peelT ?_) | (with_reducible refine peelB ?_) | (with_reducible refine peelTX ?_) | (with_reducible refine peelBX ?_) | (with_reducible refine peelBN ?_) | (with_reducible refine peelBO rfl ?_))
    refine fun W2 => ?_
    refine WC.block ?_
    refine WC.seq ?_
    refine WC.region ?_
    refine WL.y (Yl.load on49 rfl (by repeat (first | exact Take1.head | apply Take1.tail)) (by rfl)) rfl ?_
    refine WL.y (Yl.move rfl) rfl ?_
    refine WL.to (To.buildSlice (vs := [.int .i64 (x : Int)]) un49 zs3 rfl rfl (by simp [Value.cells]) (by decide) (by decide)) rfl ?_
    intro b10
    refine WL.to (To.append sl49 rfl rfl (by repeat (first | exact Take1.head | apply Take1.tail)) (Reads.of (RdOf.blk (size := 1) (n := 1) (cs := [.int .i64 (x : Int)]) (cs' := ints .i64 (natI [x])) (Nat.le_refl _) (by unfold maxLen; omega) (by simp) rfl) (by repeat (first | exact Take1.head | apply Take1.tail))) (ints_one _ _) (show (G.take i).length + 1 = (G.take (i + 1)).length by omega) (show ints .i64 (natI (G.take i)) ++ ints .i64 (natI [x]) = ints .i64 (natI (G.take (i + 1))) by rw [hnx, natI_app, ints_append]) (by unfold maxLen; omega) (by omega)) rfl ?_
    rintro ⟨⟨ao11, c11⟩, hc11⟩
    dsimp only at hc11 ⊢
    refine WL.sto (Sto.one sz49 rfl rfl (by repeat (first | exact Take1.head | apply Take1.tail)) rfl (by rfl) (by rfl)) (fun _ h => nomatch h) ?_
    refine WL.nil ?_
    refine WC.seq ?_
    refine WC.region ?_
    refine WL.y (Yl.load on49 rfl (by repeat (first | exact Take1.head | apply Take1.tail)) (by rfl)) rfl ?_
    refine WL.y (Yl.len un49 rfl) rfl ?_
    refine WL.y (Yl.gtr rfl rfl) rfl ?_
    refine WL.know (t := 14) (b' := false) rfl (by apply decide_eq_false; omega) ?_
    refine WL.nil ?_
    refine WC.condF rfl (by first | rfl | (simp; done) | (simp; omega)) ?_
    refine WC.skip ?_
    repeat (first | (with_reducible refine peelT ?_) | (with_reducible refine peelB ?_) | (with_reducible refine peelTX ?_) | (with_reducible refine peelBX ?_) | (with_reducible refine peelBN ?_) | (with_reducible refine peelBO rfl ?_))
    exact ⟨[blkR b3 49 [.slice ao11 (G.take (i + 1)).length c11], ownR (.slice ao11 (G.take (i + 1)).length c11) 3 1 (G.take (i + 1)).length (ints .i64 (natI (G.take (i + 1))))], _, (by repeat (first | exact TakeL.nil | (apply TakeL.cons; · repeat (first | exact Take1.head | apply Take1.tail)))), (ao11, c11), trivial, rfl⟩
  · rintro ⟨ao4, c4⟩ D -
    rw [yiU_len, List.take_length]
    dsimp only [List.cons_append, List.nil_append]
    refine WC.seq ?_
    refine WC.region ?_
    refine WL.y (Yl.load on49 rfl (by repeat (first | exact Take1.head | apply Take1.tail)) (by rfl)) rfl ?_
    refine WL.y (Yl.assign rfl) rfl ?_
    refine WL.nil ?_
    refine WC.ret ?_
    repeat (first | (with_reducible refine peelT ?_) | (with_reducible refine peelB ?_) | (with_reducible refine peelTX ?_) | (with_reducible refine peelBX ?_) | (with_reducible refine peelBN ?_) | (with_reducible refine peelBO rfl ?_))
    refine retM.of (.cons (by repeat (first | exact Take1.head | apply Take1.tail)) .nil) ?_
    exact ret1 (.inr rfl) Try.results21 rfl fun w' h => ⟨(ao4, c4), trivial, rfl, h.sub (by repeat (first | exact TakeL.nil | (apply TakeL.cons; · repeat (first | exact Take1.head | apply Take1.tail))))⟩
end Go.Proofs.Ytnlibngncicobaa
