/- The document's public, ready, Can: the walks. -/
import Derived.Test.YtifhkjcimhhaiaaTerY
namespace Go.Proofs.Ytifhkjcimhhaiaa
open Go Go.RowKit
end Go.Proofs.Ytifhkjcimhhaiaa

namespace Go.Proofs.Ytifhkjcimhhaiaa
open Go Go.RowKit
section
variable {p : List Nd} {g d can e : List Bool} {i : Nat} {mo : Bool} {nd : Nd}
theorem CanOf.sub {x : Nat} (hc : CanOf p d can) (he : ClI p g d i e mo) (hx : x < p.length) (h : cP can x) : ((trs p).getD x zT).canP (tsP p (cP e)) :=
  can_mono (fun t ⟨j, hj, q, r⟩ => ⟨j, hj, he.grow j q, r⟩) _ ((hc.is x hx).1 h)
/-- A place that isn't known, or tells nothing. -/
theorem ClI.skip (he : ClI p g d i e mo) (hi : p[i]? = some nd) (h : e[i]? = some false ∨ (nd.k ≠ 2 ∧ nd.k ≠ 4) ∨ (nd.k = 4 ∧ ∃ x, nd.pt[0]? = some x ∧ x < p.length ∧ can[x]? = some false)) (hc : CanOf p d can) : ClI p g d (i + 1) e mo := by
  refine he.next hi fun hm hd => ?_
  obtain ⟨rfl, _⟩ := he.no hm
  rcases h with h | h | ⟨h4, x, h0, hx, hf⟩
  · unfold cP at hd
    rw [h] at hd
    cases hd
  · exact ⟨fun h2 => absurd h2 h.1, fun h4 => absurd h4 h.2⟩
  · refine ⟨fun h2 => by omega, fun _ hcan => ?_⟩
    have e1 : nd.pt.getD 0 0 = x := by simp [List.getD, h0]
    rw [e1] at hcan
    have := (hc.is x hx).2 hcan
    unfold cP at this
    rw [hf] at this
    cases this
theorem ClI.over (he : ClI p g d i e mo) (hi : p[i]? = some nd) {x y : Nat} (hp : nd.pt = [x, y]) (h2 : nd.k = 2 → cP e x) (hy : cP e y) : ClI p g d (i + 1) e mo := by
  refine he.next hi fun hm hd => ?_
  obtain ⟨rfl, _⟩ := he.no hm
  rw [hp]
  refine ⟨fun hk z hz => ?_, fun _ _ => hy⟩
  simp only [List.mem_cons, List.not_mem_nil, or_false] at hz
  rcases hz with rfl | rfl
  · exact h2 hk
  · exact hy
end
end Go.Proofs.Ytifhkjcimhhaiaa

namespace Go.Proofs.Ytifhkjcimhhaiaa
open Go Go.RowKit
theorem sum_take_succ {l : List Nat} {i x : Nat} (h : l[i]? = some x) : (l.take (i + 1)).sum = (l.take i).sum + x := by rw [← take_snoc _ _ _ h, List.sum_append]; simp
theorem ints_repl (n : Nat) : List.replicate n (Value.int .i64 0) = ints .i64 (List.replicate n 0) := by unfold ints; rw [List.map_replicate]
theorem intsG_at {k : IntKind} {S : List Int} {i : Nat} {x : Int} (h : S[i]? = some x) : (ints k S)[i]? = some (.int k x) := by unfold ints; rw [List.getElem?_map, h]; rfl
structure HvS where
  i : Nat
  S : List Int
/-- Sizes so far. -/
structure HvI (p : List Nd) (s : HvS) : Prop where
  le : s.i ≤ p.length
  len : s.S.length = p.length
  done : ∀ j, j < s.i → s.S[j]? = some (((szs p).getD j 0 : Nat) : Int)
  sum : ((szs p).take s.i).sum ≤ 4000
  pts : ∀ j nd, j < s.i → p[j]? = some nd → nd.pt.length ≤ 40
theorem HvI.small {p : List Nd} {s : HvS} (h : HvI p s) {j : Nat} (hj : j < s.i) : (szs p).getD j 0 ≤ 4000 := by
  have hjl : j < (szs p).length := by rw [szs_len]; have := h.le; omega
  have : (szs p).getD j 0 ∈ (szs p).take s.i := by
    rw [List.mem_take_iff_getElem]
    exact ⟨j, by omega, by simp [List.getD, List.getElem?_eq_getElem hjl]⟩
  have := sum_mem this
  have := h.sum
  omega
theorem psum_le {s : List Nat} {l : List Nat} {m : Nat} (h : ∀ j ∈ l, s.getD j 0 ≤ m) : (l.map fun j => s.getD j 0).sum ≤ m * l.length := by
  induction l with
  | nil => simp
  | cons x l ih =>
    rw [List.map_cons, List.sum_cons, List.length_cons, Nat.mul_succ]
    have h1 := h x (by simp)
    have h2 := ih fun j hj => h j (by simp [hj])
    omega
theorem psum_next {s : List Nat} {l : List Nat} {k j : Nat} (h : l[k]? = some j) : ((l.take (k + 1)).map fun j => s.getD j 0).sum = ((l.take k).map fun j => s.getD j 0).sum + s.getD j 0 := by
  rw [← take_snoc _ _ _ h, List.map_append, List.sum_append]; simp
set_option maxRecDepth 100000 in
theorem heavy_any (l : List Dn) (v : Value) (hl : l.length ≤ 10000000) (hd : ∀ x ∈ l, x.d.ok) (w : World) (hx : DnS w (fpL []) v l) (hw : OK w (fpL []) [] w) :
    Fn Try.prog 7 [v] [] w (fun b : Bool => b = false → l.length ≤ 100 ∧ Light (playR (dts l)).1) (fun b => .bool b) (fun _ => []) := by
  obtain ⟨al, cl, rfl, hcl, hml⟩ := hx.rows.rd.form
  have hdt : ∀ d ∈ dts l, d.ok := fun d hq => by obtain ⟨x, hx, rfl⟩ := List.mem_map.1 hq; exact hd x hx
  have hrel := play_rel (dts l) hdt
  have hplen := playR_len (dts l)
  rw [dts_len] at hplen
  refine enterF Try.func7 rfl Try.ntmps7 rfl hw ?_
  refine WC.seq ?_
  refine WC.region ?_
  refine WL.y (Yl.assign rfl) rfl ?_
  refine WL.nil ?_
  refine WC.seq ?_
  refine WC.seq ?_
  refine WC.region ?_
  refine WL.y (Yl.move rfl) rfl ?_
  refine WL.y (Yl.len un22 rfl) rfl ?_
  refine WL.y (Yl.gtr rfl rfl) rfl ?_
  refine WL.nil ?_
  refine WC.condD rfl (fun g13 => ?_) (fun g13 => ?_)
  · refine WC.seq ?_
    refine WC.region ?_
    refine WL.y (Yl.assign rfl) rfl ?_
    refine WL.nil ?_
    refine WC.ret ?_
    repeat (first | (with_reducible refine peelT ?_) | (with_reducible refine peelB ?_) | (with_reducible refine peelTX ?_) | (with_reducible refine peelBX ?_) | (with_reducible refine peelBN ?_) | (with_reducible refine peelBO rfl ?_))
    exact ret1 (.inr rfl) Try.results7 rfl fun w' h => ⟨true, (fun h => nomatch h), rfl, h.sub (by repeat (first | exact TakeL.nil | (apply TakeL.cons; · repeat (first | exact Take1.head | apply Take1.tail))))⟩
  · refine WC.skip ?_
    refine WC.seq ?_
    refine WC.region ?_
    refine WL.y (Yl.move rfl) rfl ?_
    refine WL.callC (xs := [.tmp 15]) (cap := []) rfl rfl en9 (by repeat (first | exact TakeL.nil | (apply TakeL.cons; · repeat (first | exact Take1.head | apply Take1.tail)))) (fun w hw => rplay_any l _ hl hd w (hw.srcTS (A := []) hx) hw.left.here) rfl ?_
    rintro ⟨ps, y, m, q⟩ ⟨hps, hm⟩
    dsimp only [pyR, List.cons_append, List.nil_append] at hps hm ⊢
    refine WL.y (Yl.move rfl) rfl ?_
    refine WL.y (Yl.extract rfl rfl) rfl ?_
    refine WL.say (t := 17) (v' := .slice y.1 ps.length y.2) rfl (by rfl) ?_
    refine WL.y (Yl.extract rfl rfl) rfl ?_
    refine WL.say (t := 18) (v' := .slice q.1 m.length q.2) rfl (by rfl) ?_
    refine WL.y (Yl.assign rfl) rfl ?_
    refine WL.y (Yl.assign rfl) rfl ?_
    refine WL.nil ?_
    refine WC.seq ?_
    have hl100 : l.length ≤ 100 := by have := g13; omega
    obtain ⟨P, hPe⟩ : ∃ P, (playR (dts l)).1 = P := ⟨_, rfl⟩
    rw [hPe] at hps hplen
    have hP := hrel.p
    rw [hPe] at hP
    have hnl : P.length = ps.length := by rw [← hps, nds_len]
    rw [hPe]
    refine WC.region ?_
    refine WL.y (Yl.move rfl) rfl ?_
    refine WL.y (Yl.len un28 rfl) rfl ?_
    refine WL.to (To.makeSlice un29 zb29_3 rfl rfl rfl (by omega) (by unfold maxLen; omega)) rfl ?_
    intro b21
    rw [ints_repl]
    refine WL.view (fun w h => h.blkOwn (b := b21) (size := 1) (n := ps.length) (by repeat (first | exact Take1.head | apply Take1.tail)) (by unfold maxLen; omega) (by simp [ints])) ?_
    refine WL.y (Yl.assign rfl) rfl ?_
    refine WL.nil ?_
    refine WC.seq ?_
    refine WC.region ?_
    refine WL.y (Yl.assign rfl) rfl ?_
    refine WL.nil ?_
    refine WC.seq ?_
    refine WC.seq ?_
    refine WC.region ?_
    refine WL.y (Yl.move rfl) rfl ?_
    refine WL.y (Yl.len un28 rfl) rfl ?_
    refine WL.y (Yl.move rfl) rfl ?_
    refine WL.nil ?_
    refine WC.block ?_
    refine WC.loop (α := HvS) (fun s => [(4, .slice q.1 m.length q.2), (5, .slice (some ⟨b21, 0, none⟩) ps.length ps.length), (6, .int .i64 ((((szs P).take s.i).sum : Nat) : Int)), (22, .slice y.1 ps.length y.2), (23, .int .i64 (ps.length : Int)), (24, .int .i64 (s.i : Int))]) (fun s => [ownR (.slice y.1 ps.length y.2) 38 3 ps.length (vcs pnV ps), bunR (pnL ps), ownR (.slice (some ⟨b21, 0, none⟩) ps.length ps.length) 3 1 ps.length (ints .i64 s.S)]) (HvI P) (fun s => ps.length - s.i) ⟨0, List.replicate ps.length 0⟩ ⟨Nat.zero_le _, by simp [hnl], (fun j h => absurd h (Nat.not_lt_zero j)), by simp, (fun j _ h => absurd h (Nat.not_lt_zero j))⟩ ⟨(by repeat (first | exact Sub.nil | refine Sub.cons rfl ?_)), _, (by repeat (first | exact TakeL.nil | (apply TakeL.cons; · repeat (first | exact Take1.head | apply Take1.tail))))⟩ ?_
    rintro ⟨i, S⟩ hI
    obtain ⟨hi, hS, hdn, hsm, hpt⟩ := id hI
    dsimp only at hi hS hdn hsm hpt ⊢
    refine WC.seq ?_
    refine WC.region ?_
    refine WL.y (Yl.lss rfl rfl) rfl ?_
    refine WL.nil ?_
    refine WC.seq ?_
    refine WC.condD rfl (fun g25 => ?_) (fun g25 => ?_)
    · refine WC.skip ?_
      refine WC.seq ?_
      refine WC.block ?_
      refine WC.seq ?_
      have hil : i < ps.length := by have := g25; omega
      obtain ⟨z, hz⟩ : ∃ z, ps[i]? = some z := ⟨_, List.getElem?_eq_getElem hil⟩
      have hzm := List.mem_of_getElem? hz
      have hzg : P[i]? = some z.nd := by rw [← hps]; exact nds_get hz
      have hzn := hP.nd i _ hzg
      have hptl := shp_ptl hzn.s
      have hsz := szs_get hP hzg
      refine WC.region ?_
      refine WL.y (Yl.move rfl) rfl ?_
      refine WL.y (Yl.index un28 sz38 rfl rfl (Reads.of (r := ownR (.slice y.1 ps.length y.2) 38 3 ps.length (vcs pnV ps)) RdOf.own (by repeat (first | exact Take1.head | apply Take1.tail))) rfl (by omega)) rfl ?_
      refine WL.y (Yl.loadV vtPn pnAll rfl (Reads.of (r := ownR (.slice y.1 ps.length y.2) 38 3 ps.length (vcs pnV ps)) RdOf.own (by repeat (first | exact Take1.head | apply Take1.tail))) rfl hz) rfl ?_
      refine WL.to (To.alloc (cs := [.int .u8 0, .int .u64 0, .slice none 0 0]) zr38 rfl) rfl ?_
      intro b8
      refine WL.y (Yl.assign rfl) rfl ?_
      refine WL.sto (Sto.agg sz38 rfl rfl (by repeat (first | exact Take1.head | apply Take1.tail)) z.ones rfl (by rfl) (show _ = z.cells from rfl)) (fun _ h => nomatch h) ?_
      refine WL.nil ?_
      refine WC.seq ?_
      refine WC.region ?_
      refine WL.y (Yl.move rfl) rfl ?_
      refine WL.y (Yl.move rfl) rfl ?_
      refine WL.y (Yl.index un29 sz3 rfl rfl (Reads.of (r := ownR (.slice (some ⟨b21, 0, none⟩) ps.length ps.length) 3 1 ps.length (ints .i64 S)) RdOf.own (by repeat (first | exact Take1.head | apply Take1.tail))) rfl (by omega)) rfl ?_
      refine WL.sto (Sto.elem (j := i) (cs' := ints .i64 (S.set i 1)) sz3 rfl rfl (by repeat (first | exact Take1.head | apply Take1.tail)) rfl (by omega) (by simp [ints, List.map_set])) (fun _ h => nomatch h) ?_
      refine WL.nil ?_
      refine WC.seq ?_
      refine WC.seq ?_
      refine WC.region ?_
      refine WL.y (Yl.field fo38_2 rfl) rfl ?_
      refine WL.y (Yl.load on29 rfl (by repeat (first | exact Take1.head | apply Take1.tail)) (by rfl)) rfl ?_
      refine WL.y (Yl.len un29 rfl) rfl ?_
      refine WL.y (Yl.move rfl) rfl ?_
      refine WL.nil ?_
      refine WC.block ?_
      refine WC.loop (α := Nat) (fun k => [(4, .slice q.1 m.length q.2), (5, .slice (some ⟨b21, 0, none⟩) ps.length ps.length), (6, .int .i64 ((((szs P).take i).sum : Nat) : Int)), (7, .int .i64 (i : Int)), (8, .pointer (some ⟨b8, 0, none⟩)), (22, .slice y.1 ps.length y.2), (23, .int .i64 (ps.length : Int)), (24, .int .i64 (i : Int)), (33, pnS z), (34, .int .i64 (z.nd.pt.length : Int)), (35, .int .i64 (k : Int))]) (fun k => [ownR (.slice y.1 ps.length y.2) 38 3 ps.length (vcs pnV ps), bunR (pnL ps), blkR b8 38 z.cells, ownR (.slice (some ⟨b21, 0, none⟩) ps.length ps.length) 3 1 ps.length (ints .i64 (S.set i ((1 + ((z.nd.pt.take k).map fun j => (szs P).getD j 0).sum : Nat) : Int)))]) (fun k => k ≤ z.nd.pt.length) (fun k => z.nd.pt.length - k) 0 (Nat.zero_le _) ⟨(by repeat (first | exact Sub.nil | refine Sub.cons rfl ?_)), _, (by repeat (first | exact TakeL.nil | (apply TakeL.cons; · repeat (first | exact Take1.head | apply Take1.tail))))⟩ ?_
      intro k hk
      refine WC.seq ?_
      refine WC.region ?_
      refine WL.y (Yl.lss rfl rfl) rfl ?_
      refine WL.nil ?_
      refine WC.seq ?_
      refine WC.condD rfl (fun g36 => ?_) (fun g36 => ?_)
      · refine WC.skip ?_
        refine WC.seq ?_
        refine WC.block ?_
        refine WC.seq ?_
        have hkl : k < z.nd.pt.length := by have := g36; omega
        obtain ⟨j, hj⟩ : ∃ j, z.nd.pt[k]? = some j := ⟨_, List.getElem?_eq_getElem hkl⟩
        have hjl := hzn.p j (List.mem_of_getElem? hj)
        have hj1 := hI.small (j := j) hjl
        have hpsum : ((z.nd.pt.take k).map fun j => (szs P).getD j 0).sum ≤ 4000 * (z.nd.pt.take k).length := psum_le fun j hj => hI.small (hzn.p j (List.mem_of_mem_take hj))
        rw [List.length_take] at hpsum
        have hnx := psum_next (s := szs P) hj
        refine WC.region ?_
        refine WL.y (Yl.index un29 sz3 rfl rfl (Reads.of (RdOf.bun (A := pnL ps) (List.mem_map.2 ⟨z, hzm, rfl⟩)) (by repeat (first | exact Take1.head | apply Take1.tail))) rfl (by omega)) rfl ?_
        refine WL.y (Yl.loadE (j := k) on3 rfl (Reads.of (RdOf.bun (A := pnL ps) (List.mem_map.2 ⟨z, hzm, rfl⟩)) (by repeat (first | exact Take1.head | apply Take1.tail))) (iN_cell hj)) rfl ?_
        refine WL.y (Yl.assign rfl) rfl ?_
        refine WL.nil ?_
        refine WC.drawTail 10 mixed (by kernel_rfl) ?_
        refine WH.y (Yl.move rfl) rfl ?_
        refine WH.y (Yl.move rfl) rfl ?_
        refine WH.y (Yl.index un29 sz3 rfl rfl (Reads.of (r := ownR (.slice (some ⟨b21, 0, none⟩) ps.length ps.length) 3 1 ps.length (ints .i64 (S.set i ((1 + ((z.nd.pt.take k).map fun j => (szs P).getD j 0).sum : Nat) : Int)))) RdOf.own (by repeat (first | exact Take1.head | apply Take1.tail))) rfl (by omega)) rfl ?_
        refine WH.y (Yl.loadE (j := i) on3 rfl (Reads.of (r := ownR (.slice (some ⟨b21, 0, none⟩) ps.length ps.length) 3 1 ps.length (ints .i64 (S.set i ((1 + ((z.nd.pt.take k).map fun j => (szs P).getD j 0).sum : Nat) : Int)))) RdOf.own (by repeat (first | exact Take1.head | apply Take1.tail))) (intsG_at (show _ = some (((1 + ((z.nd.pt.take k).map fun j => (szs P).getD j 0).sum : Nat) : Nat) : Int) by rw [List.getElem?_set, if_pos rfl, if_pos (by omega)]))) rfl ?_
        refine WH.y (Yl.move rfl) rfl ?_
        refine WH.y (Yl.move rfl) rfl ?_
        refine WH.y (Yl.index un29 sz3 rfl rfl (Reads.of (r := ownR (.slice (some ⟨b21, 0, none⟩) ps.length ps.length) 3 1 ps.length (ints .i64 (S.set i ((1 + ((z.nd.pt.take k).map fun j => (szs P).getD j 0).sum : Nat) : Int)))) RdOf.own (by repeat (first | exact Take1.head | apply Take1.tail))) rfl (by omega)) rfl ?_
        refine WH.y (Yl.loadE (j := j) on3 rfl (Reads.of (r := ownR (.slice (some ⟨b21, 0, none⟩) ps.length ps.length) 3 1 ps.length (ints .i64 (S.set i ((1 + ((z.nd.pt.take k).map fun j => (szs P).getD j 0).sum : Nat) : Int)))) RdOf.own (by repeat (first | exact Take1.head | apply Take1.tail))) (intsG_at (show _ = some (((szs P).getD j 0 : Nat) : Int) by rw [List.getElem?_set, if_neg (by omega)]; exact hdn j hjl))) rfl ?_
        refine WH.y (Yl.add rfl rfl (IntWalk.i64_in _ (by omega))) rfl ?_
        refine WH.y (Yl.index un29 sz3 rfl rfl (Reads.of (r := ownR (.slice (some ⟨b21, 0, none⟩) ps.length ps.length) 3 1 ps.length (ints .i64 (S.set i ((1 + ((z.nd.pt.take k).map fun j => (szs P).getD j 0).sum : Nat) : Int)))) RdOf.own (by repeat (first | exact Take1.head | apply Take1.tail))) rfl (by omega)) rfl ?_
        refine WH.nil ?_
        refine WP.sto (Sto.elem (j := i) (cs' := ints .i64 (S.set i ((1 + ((z.nd.pt.take (k + 1)).map fun j => (szs P).getD j 0).sum : Nat) : Int))) sz3 rfl rfl (by repeat (first | exact Take1.head | apply Take1.tail)) rfl (by omega) (by
          rw [hnx]
          simp only [ints, List.map_set, List.set_set]
          refine congrArg (fun x => (List.map (Value.int .i64) S).set i (Value.int .i64 x)) ?_
          omega)) (fun _ h => nomatch h) ?_
        refine WP.nil ?_
        refine WC.region ?_
        refine WL.y (Yl.add rfl rfl (IntWalk.i64_in _ (by omega))) rfl ?_
        refine WL.y (Yl.move rfl) rfl ?_
        refine WL.nil ?_
        exact ⟨rfl, k + 1, by omega, by omega, (by repeat (first | exact Sub.nil | refine Sub.cons rfl ?_)), _, (by repeat (first | exact TakeL.nil | (apply TakeL.cons; · repeat (first | exact Take1.head | apply Take1.tail))))⟩
      · refine WC.exit ?_
        refine WC.seq ?_
        have hkk : k = z.nd.pt.length := by have := g36; omega
        subst hkk
        rw [List.take_length] at *
        have hg : (szs P).getD i 0 = 1 + (z.nd.pt.map fun j => (szs P).getD j 0).sum := by simp [List.getD, hsz]
        have hsn := sum_take_succ hsz
        have hpsum : (z.nd.pt.map fun j => (szs P).getD j 0).sum ≤ 4000 * z.nd.pt.length := psum_le fun j hj => hI.small (hzn.p j hj)
        refine WC.region ?_
        refine WL.y (Yl.move rfl) rfl ?_
        refine WL.y (Yl.move rfl) rfl ?_
        refine WL.y (Yl.move rfl) rfl ?_
        refine WL.y (Yl.index un29 sz3 rfl rfl (Reads.of (r := ownR (.slice (some ⟨b21, 0, none⟩) ps.length ps.length) 3 1 ps.length (ints .i64 (S.set i ((1 + (z.nd.pt.map fun j => (szs P).getD j 0).sum : Nat) : Int)))) RdOf.own (by repeat (first | exact Take1.head | apply Take1.tail))) rfl (by omega)) rfl ?_
        refine WL.y (Yl.loadE (j := i) on3 rfl (Reads.of (r := ownR (.slice (some ⟨b21, 0, none⟩) ps.length ps.length) 3 1 ps.length (ints .i64 (S.set i ((1 + (z.nd.pt.map fun j => (szs P).getD j 0).sum : Nat) : Int)))) RdOf.own (by repeat (first | exact Take1.head | apply Take1.tail))) (intsG_at (show _ = some ((1 + (z.nd.pt.map fun j => (szs P).getD j 0).sum : Nat) : Int) by rw [List.getElem?_set, if_pos rfl, if_pos (by omega)]))) rfl ?_
        refine WL.y (Yl.add rfl rfl (IntWalk.i64_in _ (by omega))) rfl ?_
        refine WL.say (t := 55) (v' := .int .i64 ((((szs P).take (i + 1)).sum : Nat) : Int)) rfl (by (refine congrArg (Value.int .i64) ?_; rw [hsn]; push_cast; omega)) ?_
        refine WL.y (Yl.assign rfl) rfl ?_
        refine WL.nil ?_
        refine WC.seq ?_
        refine WC.region ?_
        refine WL.y (Yl.move rfl) rfl ?_
        refine WL.y (Yl.gtr rfl rfl) rfl ?_
        refine WL.y (Yl.move rfl) rfl ?_
        refine WL.both (t := 58) rfl (fun g58 => ?_) (fun g58 => ?_)
        · refine WL.off rfl rfl rfl rfl ?_
          refine WL.off rfl rfl rfl rfl ?_
          refine WL.off rfl rfl rfl rfl ?_
          refine WL.off rfl rfl rfl rfl ?_
          refine WL.y (Yl.pickT rfl rfl) rfl ?_
          refine WL.nil ?_
          refine WC.condT rfl (by first | rfl | (simp; done) | (simp; omega)) ?_
          refine WC.seq ?_
          refine WC.region ?_
          refine WL.y (Yl.assign rfl) rfl ?_
          refine WL.nil ?_
          refine WC.ret ?_
          repeat (first | (with_reducible refine peelT ?_) | (with_reducible refine peelB ?_) | (with_reducible refine peelTX ?_) | (with_reducible refine peelBX ?_) | (with_reducible refine peelBN ?_) | (with_reducible refine peelBO rfl ?_))
          exact ret1 (.inr rfl) Try.results7 rfl fun w' h => ⟨true, (fun h => nomatch h), rfl, h.sub (by repeat (first | exact TakeL.nil | (apply TakeL.cons; · repeat (first | exact Take1.head | apply Take1.tail))))⟩
        · refine WL.on rfl rfl ?_
          refine WL.y (Yl.field fo38_2 rfl) rfl ?_
          refine WL.on rfl rfl ?_
          refine WL.y (Yl.load on29 rfl (by repeat (first | exact Take1.head | apply Take1.tail)) (by rfl)) rfl ?_
          refine WL.on rfl rfl ?_
          refine WL.y (Yl.len un29 rfl) rfl ?_
          refine WL.on rfl rfl ?_
          refine WL.y (Yl.gtr rfl rfl) rfl ?_
          refine WL.y (Yl.pickF rfl rfl) rfl ?_
          refine WL.nil ?_
          refine WC.condD rfl (fun g63 => ?_) (fun g63 => ?_)
          · refine WC.seq ?_
            refine WC.region ?_
            refine WL.y (Yl.assign rfl) rfl ?_
            refine WL.nil ?_
            refine WC.ret ?_
            repeat (first | (with_reducible refine peelT ?_) | (with_reducible refine peelB ?_) | (with_reducible refine peelTX ?_) | (with_reducible refine peelBX ?_) | (with_reducible refine peelBN ?_) | (with_reducible refine peelBO rfl ?_))
            exact ret1 (.inr rfl) Try.results7 rfl fun w' h => ⟨true, (fun h => nomatch h), rfl, h.sub (by repeat (first | exact TakeL.nil | (apply TakeL.cons; · repeat (first | exact Take1.head | apply Take1.tail))))⟩
          · refine WC.skip ?_
            refine WC.region ?_
            refine WL.y (Yl.add rfl rfl (IntWalk.i64_in _ (by omega))) rfl ?_
            refine WL.y (Yl.move rfl) rfl ?_
            refine WL.nil ?_
            refine ⟨rfl, ⟨i + 1, S.set i ((1 + (z.nd.pt.map fun j => (szs P).getD j 0).sum : Nat) : Int)⟩, ⟨by dsimp only; omega, by simp [hS], fun j hj => ?_, ?_, fun j nd hj hn => ?_⟩, by dsimp only; omega, (by repeat (first | exact Sub.nil | refine Sub.cons rfl ?_)), _, (by repeat (first | exact TakeL.nil | (apply TakeL.cons; · repeat (first | exact Take1.head | apply Take1.tail))))⟩
            · dsimp only at hj ⊢
              by_cases e : i = j
              · subst e
                rw [List.getElem?_set, if_pos rfl, if_pos (by omega), hg]
              · rw [List.getElem?_set, if_neg e]
                exact hdn j (by omega)
            · dsimp only
              have := of_decide_eq_false g58
              omega
            · dsimp only at hj
              by_cases e : i = j
              · subst e
                rw [hzg] at hn
                cases hn
                have := g63
                omega
              · exact hpt j nd (by omega) hn
    · refine WC.exit ?_
      refine WC.seq ?_
      refine WC.region ?_
      refine WL.y (Yl.move rfl) rfl ?_
      refine WL.y (Yl.len un29 rfl) rfl ?_
      refine WL.y (Yl.gtr rfl rfl) rfl ?_
      refine WL.y (Yl.assign rfl) rfl ?_
      refine WL.nil ?_
      refine WC.ret ?_
      repeat (first | (with_reducible refine peelT ?_) | (with_reducible refine peelB ?_) | (with_reducible refine peelTX ?_) | (with_reducible refine peelBX ?_) | (with_reducible refine peelBN ?_) | (with_reducible refine peelBO rfl ?_))
      have hil : i = P.length := by have := g25; omega
      have hlight : Light P := ⟨by rw [hil, ← szs_len, List.take_length] at hsm; exact hsm, fun nd hn => by
        obtain ⟨j, hj⟩ := List.mem_iff_getElem?.1 hn
        exact hpt j nd (by rw [hil]; exact (List.getElem?_eq_some_iff.1 hj).1) hj⟩
      exact ret1 (.inr rfl) Try.results7 rfl fun w' h => ⟨_, fun _ => ⟨hl100, hlight⟩, rfl, h.sub (by repeat (first | exact TakeL.nil | (apply TakeL.cons; · repeat (first | exact Take1.head | apply Take1.tail))))⟩
end Go.Proofs.Ytifhkjcimhhaiaa
