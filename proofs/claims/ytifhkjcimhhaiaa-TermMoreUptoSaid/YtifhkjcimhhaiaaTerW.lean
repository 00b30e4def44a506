/- The document's pool: find, Put, round: the walks. -/
import Derived.Test.YtifhkjcimhhaiaaTerU
import Derived.Test.YtifhkjcimhhaiaaLibEl
namespace Go.Proofs.Ytifhkjcimhhaiaa
open Go Go.RowKit
theorem pn_eq {y x : Pn} : y.nd = x.nd ↔ y.nd.k = x.nd.k ∧ y.nd.n = x.nd.n ∧ y.nd.pt = x.nd.pt := by
  cases y with | mk a _ _ => cases x with | mk b _ _ => cases a; cases b; simp
set_option maxRecDepth 100000 in
theorem find_any (ps : List Pn) (x : Pn) (v : Value) (hl : ps.length ≤ 1000000000) (w : World) (hp : PlS w (fpL []) v ps) (hx : RdS w (fpL []) (pnS x) 1 x.nd.pt.length (ints .i64 (iN x.nd.pt))) (hxl : x.nd.pt.length ≤ 1000000000) (hw : OK w (fpL []) [] w) :
    Fn Try.prog 44 [v, pnV x] [] w (fun _ : Unit => True) (fun _ => .int .i64 (plI (findP (nds ps) x.nd))) (fun _ => []) := by
  obtain ⟨al, cl, rfl, hcl, hml⟩ := hp.rows.rd.form
  refine enterF Try.func44 rfl Try.ntmps44 rfl hw ?_
  refine WC.seq ?_
  refine WC.region ?_
  refine WL.to (To.box (cs := x.cells) rfl rfl) rfl ?_
  intro b3
  refine WL.y (Yl.assign rfl) rfl ?_
  refine WL.nil ?_
  refine WC.seq ?_
  refine WC.seq ?_
  refine WC.region ?_
  refine WL.y (Yl.assign rfl) rfl ?_
  refine WL.nil ?_
  refine WC.block ?_
  refine WC.loop (α := Nat) (fun i => [(0, .slice al ps.length cl), (3, .pointer (some ⟨b3, 0, none⟩)), (5, .int .i64 (i : Int))]) (fun _ => [blkR b3 38 x.cells]) (fun i => i ≤ ps.length ∧ ∀ y ∈ (nds ps).take i, y ≠ x.nd) (fun i => ps.length - i) 0 ⟨Nat.zero_le _, by simp⟩ ⟨(by repeat (first | exact Sub.nil | refine Sub.cons rfl ?_)), _, (by repeat (first | exact TakeL.nil | (apply TakeL.cons; · repeat (first | exact Take1.head | apply Take1.tail))))⟩ ?_
  rintro i ⟨hi, hno⟩
  refine WC.seq ?_
  refine WC.seq ?_
  refine WC.region ?_
  refine WL.y (Yl.move rfl) rfl ?_
  refine WL.y (Yl.move rfl) rfl ?_
  refine WL.y (Yl.len un28 rfl) rfl ?_
  refine WL.y (Yl.lss rfl rfl) rfl ?_
  refine WL.nil ?_
  refine WC.condD rfl (fun g11 => ?_) (fun g11 => ?_)
  · refine WC.skip ?_
    refine WC.seq ?_
    refine WC.block ?_
    have hil : i < ps.length := by have := g11; omega
    obtain ⟨y, hy⟩ : ∃ y, ps[i]? = some y := ⟨_, List.getElem?_eq_getElem hil⟩
    have hym := List.mem_of_getElem? hy
    have hny := nds_get hy
    refine WC.midE (α := Bool) (fun b => [(6, .bool b)]) (fun _ => [blkR b3 38 x.cells]) (fun b => b = true ↔ y.nd.k = x.nd.k ∧ y.nd.n = x.nd.n ∧ y.nd.pt.length = x.nd.pt.length) ?_ ?_
    · refine WC.drawRead mixed (by kernel_rfl) ?_
      refine WH.y (Yl.move rfl) rfl ?_
      refine WH.y (Yl.move rfl) rfl ?_
      refine WH.y (Yl.index un28 sz38 rfl rfl (Reads.s hp.rows) rfl (by omega)) rfl ?_
      refine WH.y (Yl.fieldE fo38_0 rfl vtPn pnAll (Reads.s hp.rows) hy) rfl ?_
      refine WH.y (Yl.loadF on5 rfl vtPn pnAll (Reads.s hp.rows) hy (by rfl)) rfl ?_
      refine WH.y (Yl.field fo38_0 rfl) rfl ?_
      refine WH.y (Yl.load on5 rfl (by repeat (first | exact Take1.head | apply Take1.tail)) (by rfl)) rfl ?_
      refine WH.y (Yl.eql rfl rfl) rfl ?_
      refine WH.y (Yl.move rfl) rfl ?_
      refine WH.both (t := 22) rfl (fun g22 => ?_) (fun g22 => ?_)
      · refine WH.on rfl rfl ?_
        refine WH.y (Yl.move rfl) rfl ?_
        refine WH.on rfl rfl ?_
        refine WH.y (Yl.move rfl) rfl ?_
        refine WH.on rfl rfl ?_
        refine WH.y (Yl.index un28 sz38 rfl rfl (Reads.s hp.rows) rfl (by omega)) rfl ?_
        refine WH.on rfl rfl ?_
        refine WH.y (Yl.fieldE fo38_1 rfl vtPn pnAll (Reads.s hp.rows) hy) rfl ?_
        refine WH.on rfl rfl ?_
        refine WH.y (Yl.loadF on36 rfl vtPn pnAll (Reads.s hp.rows) hy (by rfl)) rfl ?_
        refine WH.on rfl rfl ?_
        refine WH.y (Yl.field fo38_1 rfl) rfl ?_
        refine WH.on rfl rfl ?_
        refine WH.y (Yl.load on36 rfl (by repeat (first | exact Take1.head | apply Take1.tail)) (by rfl)) rfl ?_
        refine WH.on rfl rfl ?_
        refine WH.y (Yl.eql rfl rfl) rfl ?_
        refine WH.y (Yl.pickT rfl rfl) rfl ?_
        refine WH.y (Yl.move rfl) rfl ?_
        refine WH.both (t := 32) rfl (fun g32 => ?_) (fun g32 => ?_)
        · refine WH.on rfl rfl ?_
          refine WH.y (Yl.move rfl) rfl ?_
          refine WH.on rfl rfl ?_
          refine WH.y (Yl.move rfl) rfl ?_
          refine WH.on rfl rfl ?_
          refine WH.y (Yl.index un28 sz38 rfl rfl (Reads.s hp.rows) rfl (by omega)) rfl ?_
          refine WH.on rfl rfl ?_
          refine WH.y (Yl.fieldE fo38_2 rfl vtPn pnAll (Reads.s hp.rows) hy) rfl ?_
          refine WH.on rfl rfl ?_
          refine WH.y (Yl.loadF on29 rfl vtPn pnAll (Reads.s hp.rows) hy (by rfl)) rfl ?_
          refine WH.on rfl rfl ?_
          refine WH.y (Yl.len un29 rfl) rfl ?_
          refine WH.on rfl rfl ?_
          refine WH.y (Yl.field fo38_2 rfl) rfl ?_
          refine WH.on rfl rfl ?_
          refine WH.y (Yl.load on29 rfl (by repeat (first | exact Take1.head | apply Take1.tail)) (by rfl)) rfl ?_
          refine WH.on rfl rfl ?_
          refine WH.y (Yl.len un29 rfl) rfl ?_
          refine WH.on rfl rfl ?_
          refine WH.y (Yl.eql rfl rfl) rfl ?_
          refine WH.y (Yl.pickT rfl rfl) rfl ?_
          refine WH.y (Yl.assign rfl) rfl ?_
          refine WH.nil ?_
          exact ⟨rfl, decide ((y.nd.pt.length : Int) = (x.nd.pt.length : Int)), (by simp at g22 g32; simp [g22, g32]; omega), (by repeat (first | exact Sub.nil | refine Sub.cons rfl ?_)), (by repeat (first | exact Sub.nil | refine Sub.cons rfl ?_)), _, (by repeat (first | exact TakeL.nil | (apply TakeL.cons; · repeat (first | exact Take1.head | apply Take1.tail))))⟩
        · refine WH.off rfl rfl rfl rfl ?_
          refine WH.off rfl rfl rfl rfl ?_
          refine WH.off rfl rfl rfl rfl ?_
          refine WH.off rfl rfl rfl rfl ?_
          refine WH.off rfl rfl rfl rfl ?_
          refine WH.off rfl rfl rfl rfl ?_
          refine WH.off rfl rfl rfl rfl ?_
          refine WH.off rfl rfl rfl rfl ?_
          refine WH.off rfl rfl rfl rfl ?_
          refine WH.off rfl rfl rfl rfl ?_
          refine WH.y (Yl.pickF rfl rfl) rfl ?_
          refine WH.y (Yl.assign rfl) rfl ?_
          refine WH.nil ?_
          exact ⟨rfl, false, (by simp at g32; simp [g32]), (by repeat (first | exact Sub.nil | refine Sub.cons rfl ?_)), (by repeat (first | exact Sub.nil | refine Sub.cons rfl ?_)), _, (by repeat (first | exact TakeL.nil | (apply TakeL.cons; · repeat (first | exact Take1.head | apply Take1.tail))))⟩
      · refine WH.off rfl rfl rfl rfl ?_
        refine WH.off rfl rfl rfl rfl ?_
        refine WH.off rfl rfl rfl rfl ?_
        refine WH.off rfl rfl rfl rfl ?_
        refine WH.off rfl rfl rfl rfl ?_
        refine WH.off rfl rfl rfl rfl ?_
        refine WH.off rfl rfl rfl rfl ?_
        refine WH.off rfl rfl rfl rfl ?_
        refine WH.y (Yl.pickF rfl rfl) rfl ?_
        refine WH.y (Yl.move rfl) rfl ?_
        refine WH.off rfl rfl rfl rfl ?_
        refine WH.off rfl rfl rfl rfl ?_
        refine WH.off rfl rfl rfl rfl ?_
        refine WH.off rfl rfl rfl rfl ?_
        refine WH.off rfl rfl rfl rfl ?_
        refine WH.off rfl rfl rfl rfl ?_
        refine WH.off rfl rfl rfl rfl ?_
        refine WH.off rfl rfl rfl rfl ?_
        refine WH.off rfl rfl rfl rfl ?_
        refine WH.off rfl rfl rfl rfl ?_
        refine WH.y (Yl.pickF rfl rfl) rfl ?_
        refine WH.y (Yl.assign rfl) rfl ?_
        refine WH.nil ?_
        exact ⟨rfl, false, (by simp at g22; simp [g22]), (by repeat (first | exact Sub.nil | refine Sub.cons rfl ?_)), (by repeat (first | exact Sub.nil | refine Sub.cons rfl ?_)), _, (by repeat (first | exact TakeL.nil | (apply TakeL.cons; · repeat (first | exact Take1.head | apply Take1.tail))))⟩
    · rintro b0 hb0
      refine WC.seq ?_
      refine WC.seq ?_
      refine WC.region ?_
      refine WL.y (Yl.assign rfl) rfl ?_
      refine WL.nil ?_
      refine WC.block ?_
      refine WC.loop (α := Nat × Bool) (fun s => [(0, .slice al ps.length cl), (3, .pointer (some ⟨b3, 0, none⟩)), (5, .int .i64 (i : Int)), (6, .bool s.2), (7, .int .i64 (s.1 : Int))]) (fun _ => [blkR b3 38 x.cells]) (fun s => s.1 ≤ x.nd.pt.length ∧ (s.2 = true → y.nd.k = x.nd.k ∧ y.nd.n = x.nd.n ∧ y.nd.pt.length = x.nd.pt.length ∧ y.nd.pt.take s.1 = x.nd.pt.take s.1) ∧ (s.2 = false → y.nd ≠ x.nd)) (fun s => x.nd.pt.length - s.1) (0, b0) ⟨Nat.zero_le _, (fun h => by have := hb0.1 h; simp [this]), (fun h e => by rw [Bool.eq_false_iff] at h; exact h (hb0.2 (by rw [e]; exact ⟨rfl, rfl, rfl⟩)))⟩ ⟨(by repeat (first | exact Sub.nil | refine Sub.cons rfl ?_)), _, (by repeat (first | exact TakeL.nil | (apply TakeL.cons; · repeat (first | exact Take1.head | apply Take1.tail))))⟩ ?_
      rintro ⟨k, b⟩ ⟨hk, hbt, hbf⟩
      dsimp only at hk hbt hbf ⊢
      refine WC.seq ?_
      refine WC.seq ?_
      refine WC.region ?_
      refine WL.y (Yl.move rfl) rfl ?_
      refine WL.y (Yl.field fo38_2 rfl) rfl ?_
      refine WL.y (Yl.load on29 rfl (by repeat (first | exact Take1.head | apply Take1.tail)) (by rfl)) rfl ?_
      refine WL.y (Yl.len un29 rfl) rfl ?_
      refine WL.y (Yl.lss rfl rfl) rfl ?_
      refine WL.y (Yl.move rfl) rfl ?_
      refine WL.both (t := 49) rfl (fun g49 => ?_) (fun g49 => ?_)
      · refine WL.on rfl rfl ?_
        refine WL.y (Yl.move rfl) rfl ?_
        refine WL.y (Yl.pickT rfl rfl) rfl ?_
        refine WL.nil ?_
        refine WC.cond rfl (fun g51 => ?_) (fun g51 => ?_)
        · refine WC.skip ?_
          refine WC.seq ?_
          refine WC.block ?_
          have hkl : k < x.nd.pt.length := by have := g49; simp at this; omega
          obtain ⟨q1, q2, q3, q4⟩ := hbt g51
          obtain ⟨a, ha⟩ : ∃ y, x.nd.pt[k]? = some y := ⟨_, List.getElem?_eq_getElem hkl⟩
          obtain ⟨d, hd⟩ : ∃ z, y.nd.pt[k]? = some z := ⟨_, List.getElem?_eq_getElem (by omega)⟩
          refine WC.drawRead mixed (by kernel_rfl) ?_
          refine WH.y (Yl.move rfl) rfl ?_
          refine WH.y (Yl.move rfl) rfl ?_
          refine WH.y (Yl.index un28 sz38 rfl rfl (Reads.s hp.rows) rfl (by omega)) rfl ?_
          refine WH.y (Yl.fieldE fo38_2 rfl vtPn pnAll (Reads.s hp.rows) hy) rfl ?_
          refine WH.y (Yl.loadF on29 rfl vtPn pnAll (Reads.s hp.rows) hy (by rfl)) rfl ?_
          refine WH.y (Yl.move rfl) rfl ?_
          refine WH.y (Yl.index un29 sz3 rfl rfl (Reads.s (hp.pts y hym)) rfl (by omega)) rfl ?_
          refine WH.y (Yl.loadE (j := k) on3 rfl (Reads.s (hp.pts y hym)) (iN_cell hd)) rfl ?_
          refine WH.y (Yl.field fo38_2 rfl) rfl ?_
          refine WH.y (Yl.load on29 rfl (by repeat (first | exact Take1.head | apply Take1.tail)) (by rfl)) rfl ?_
          refine WH.y (Yl.move rfl) rfl ?_
          refine WH.y (Yl.index un29 sz3 rfl rfl (Reads.s hx) rfl (by omega)) rfl ?_
          refine WH.y (Yl.loadE (j := k) on3 rfl (Reads.s hx) (iN_cell ha)) rfl ?_
          refine WH.y (Yl.eql rfl rfl) rfl ?_
          refine WH.y (Yl.assign rfl) rfl ?_
          refine WH.nil ?_
          refine WC.region ?_
          refine WL.y (Yl.move rfl) rfl ?_
          refine WL.y (Yl.add rfl rfl (IntWalk.i64_in _ (by omega))) rfl ?_
          refine WL.y (Yl.assign rfl) rfl ?_
          refine WL.nil ?_
          refine ⟨rfl, (k + 1, decide ((d : Int) = (a : Int))), ⟨by dsimp only; omega, fun h => ⟨q1, q2, q3, ?_⟩, fun h e => ?_⟩, by dsimp only; omega, (by repeat (first | exact Sub.nil | refine Sub.cons rfl ?_)), _, (by repeat (first | exact TakeL.nil | (apply TakeL.cons; · repeat (first | exact Take1.head | apply Take1.tail))))⟩
          · dsimp only at h ⊢
            rw [← take_snoc _ _ _ ha, ← take_snoc _ _ _ hd, q4]
            have := of_decide_eq_true h
            rw [show d = a by omega]
          · have h2 := of_decide_eq_false h
            rw [(pn_eq.1 e).2.2, ha] at hd
            cases hd
            exact h2 rfl
        · refine WC.exit ?_
          refine WC.seq ?_
          refine WC.region ?_
          refine WL.y (Yl.move rfl) rfl ?_
          refine WL.nil ?_
          refine WC.condF rfl g51 ?_
          refine WC.skip ?_
          refine WC.region ?_
          refine WL.y (Yl.move rfl) rfl ?_
          refine WL.y (Yl.add rfl rfl (IntWalk.i64_in _ (by omega))) rfl ?_
          refine WL.y (Yl.assign rfl) rfl ?_
          refine WL.nil ?_
          exact ⟨rfl, i + 1, ⟨by omega, nno_next hny hno (hbf g51)⟩, by omega, (by repeat (first | exact Sub.nil | refine Sub.cons rfl ?_)), _, (by repeat (first | exact TakeL.nil | (apply TakeL.cons; · repeat (first | exact Take1.head | apply Take1.tail))))⟩
      · refine WL.off rfl rfl rfl rfl ?_
        refine WL.y (Yl.pickF rfl rfl) rfl ?_
        refine WL.nil ?_
        refine WC.condF rfl (by first | rfl | (simp; done) | (simp; omega)) ?_
        refine WC.exit ?_
        refine WC.seq ?_
        refine WC.region ?_
        refine WL.y (Yl.move rfl) rfl ?_
        refine WL.nil ?_
        refine WC.cond rfl (fun g68 => ?_) (fun g68 => ?_)
        · refine WC.seq ?_
          refine WC.region ?_
          refine WL.y (Yl.move rfl) rfl ?_
          refine WL.y (Yl.assign rfl) rfl ?_
          refine WL.nil ?_
          refine WC.ret ?_
          repeat (first | (with_reducible refine peelT ?_) | (with_reducible refine peelB ?_) | (with_reducible refine peelTX ?_) | (with_reducible refine peelBX ?_) | (with_reducible refine peelBN ?_) | (with_reducible refine peelBO rfl ?_))
          obtain ⟨q1, q2, q3, q4⟩ := hbt g68
          have hkl : k = x.nd.pt.length := by have := g49; simp at this; omega
          rw [hkl, List.take_length, ← q3, List.take_length] at q4
          have hf := find_hit hny hno (pn_eq.2 ⟨q1, q2, q4⟩)
          rw [hf]
          exact ret1 (.inr rfl) Try.results44 rfl fun w' h => ⟨(), trivial, rfl, h.sub (by repeat (first | exact TakeL.nil | (apply TakeL.cons; · repeat (first | exact Take1.head | apply Take1.tail))))⟩
        · refine WC.skip ?_
          refine WC.region ?_
          refine WL.y (Yl.move rfl) rfl ?_
          refine WL.y (Yl.add rfl rfl (IntWalk.i64_in _ (by omega))) rfl ?_
          refine WL.y (Yl.assign rfl) rfl ?_
          refine WL.nil ?_
          exact ⟨rfl, i + 1, ⟨by omega, nno_next hny hno (hbf g68)⟩, by omega, (by repeat (first | exact Sub.nil | refine Sub.cons rfl ?_)), _, (by repeat (first | exact TakeL.nil | (apply TakeL.cons; · repeat (first | exact Take1.head | apply Take1.tail))))⟩
  · refine WC.exit ?_
    refine WC.seq ?_
    refine WC.region ?_
    refine WL.y (Yl.assign rfl) rfl ?_
    refine WL.nil ?_
    refine WC.ret ?_
    repeat (first | (with_reducible refine peelT ?_) | (with_reducible refine peelB ?_) | (with_reducible refine peelTX ?_) | (with_reducible refine peelBX ?_) | (with_reducible refine peelBN ?_) | (with_reducible refine peelBO rfl ?_))
    have hil : i = ps.length := by have := g11; omega
    rw [hil, ← nds_len, List.take_length] at hno
    rw [find_end hno]
    exact ret1 (.inr rfl) Try.results44 rfl fun w' h => ⟨(), trivial, rfl, h.sub (by repeat (first | exact TakeL.nil | (apply TakeL.cons; · repeat (first | exact Take1.head | apply Take1.tail))))⟩
theorem plI_some {o : Option Nat} (h : 0 ≤ plI o) : ∃ i, o = some i := by
  cases o with
  | none => exact absurd h (show ¬ (0 : Int) ≤ -1 by omega)
  | some i => exact ⟨i, rfl⟩
theorem plI_none {o : Option Nat} (h : ¬ 0 ≤ plI o) : o = none := by
  cases o with
  | none => rfl
  | some i => exact absurd (show (0 : Int) ≤ (i : Int) by omega) h
/-- A node, put. -/
def putPs (ps : List Pn) (x : Pn) : List Pn := match findP (nds ps) x.nd with
  | some _ => ps
  | none => ps ++ [x]
def putAt (ps : List Pn) (x : Pn) : Nat := match findP (nds ps) x.nd with
  | some i => i
  | none => ps.length
theorem nds_app (ps qs : List Pn) : nds (ps ++ qs) = nds ps ++ nds qs := List.map_append ..
theorem put_is (ps : List Pn) (x : Pn) : putP (nds ps) x.nd = (nds (putPs ps x), putAt ps x) := by
  unfold putP putPs putAt
  rw [show (nds ps).findIdx? (fun y => decide (y = x.nd)) = findP (nds ps) x.nd from rfl]
  cases findP (nds ps) x.nd with
  | some i => rfl
  | none => rw [nds_app, nds_len]; rfl
theorem pnL_app (ps qs : List Pn) : pnL (ps ++ qs) = pnL ps ++ pnL qs := List.map_append ..
theorem put_any (ps : List Pn) (x : Pn) (al : Option Addr) (cl : Nat) (hl : ps.length ≤ 100000000) (hxl : x.nd.pt.length ≤ 1000000000) (w : World) (hw : OK w (fpL [ownR (.slice al ps.length cl) 38 3 ps.length (vcs pnV ps), bunR (pnL ps), pnR x]) [ownR (.slice al ps.length cl) 38 3 ps.length (vcs pnV ps), bunR (pnL ps), pnR x] w) :
    Fn Try.prog 29 [.slice al ps.length cl, pnV x] [ownR (.slice al ps.length cl) 38 3 ps.length (vcs pnV ps), bunR (pnL ps), pnR x] w (fun _ : Option Addr × Nat => True) (fun y => .tuple #[.slice y.1 (putPs ps x).length y.2, .int .i64 (putAt ps x : Int)]) (fun y => [ownR (.slice y.1 (putPs ps x).length y.2) 38 3 (putPs ps x).length (vcs pnV (putPs ps x)), bunR (pnL (putPs ps x))]) := by
  refine enterF Try.func29 rfl Try.ntmps29 rfl hw ?_
  refine WC.seq ?_
  refine WC.region ?_
  refine WL.to (To.box (cs := x.cells) rfl rfl) rfl ?_
  intro b3
  refine WL.y (Yl.assign rfl) rfl ?_
  refine WL.y (Yl.assign rfl) rfl ?_
  refine WL.nil ?_
  refine WC.seq ?_
  refine WC.region ?_
  refine WL.y (Yl.move rfl) rfl ?_
  refine WL.y (Yl.loadN ag38 rfl (by repeat (first | exact Take1.head | apply Take1.tail)) (by rfl) (by rfl)) rfl ?_
  refine WL.callC (xs := [.tmp 7, .tmp 8]) (cap := []) rfl rfl en44 (by repeat (first | exact TakeL.nil | (apply TakeL.cons; · repeat (first | exact Take1.head | apply Take1.tail)))) (fun w hw => find_any ps x _ (by omega) w (hw.srcL (A := []) (r := ownR (.slice al ps.length cl) 38 3 ps.length (vcs pnV ps)) RdOf.own (by repeat (first | exact Take1.head | apply Take1.tail)) (by repeat (first | exact Take1.head | apply Take1.tail))) (hw.src (A := []) (r := pnR x) RdOf.rd' (by repeat (first | exact Take1.head | apply Take1.tail))) hxl hw.left.here) rfl ?_
  rintro ⟨⟩ -
  refine WL.y (Yl.assign rfl) rfl ?_
  refine WL.nil ?_
  refine WC.seq ?_
  refine WC.seq ?_
  refine WC.region ?_
  refine WL.y (Yl.move rfl) rfl ?_
  refine WL.y (Yl.geq rfl rfl) rfl ?_
  refine WL.nil ?_
  refine WC.condD rfl (fun g11 => ?_) (fun g11 => ?_)
  · refine WC.seq ?_
    refine WC.region ?_
    refine WL.y (Yl.move rfl) rfl ?_
    refine WL.y (Yl.move rfl) rfl ?_
    refine WL.y (Yl.assign rfl) rfl ?_
    refine WL.y (Yl.assign rfl) rfl ?_
    refine WL.nil ?_
    refine WC.ret ?_
    repeat (first | (with_reducible refine peelT ?_) | (with_reducible refine peelB ?_) | (with_reducible refine peelTX ?_) | (with_reducible refine peelBX ?_) | (with_reducible refine peelBN ?_) | (with_reducible refine peelBO rfl ?_))
    obtain ⟨i, hi⟩ := plI_some g11
    have e1 : putPs ps x = ps := by unfold putPs; rw [hi]
    have e2 : putAt ps x = i := by unfold putAt; rw [hi]
    rw [e1, e2, hi]
    exact ret2 (.inr rfl) Try.results29 rfl rfl fun w' h => ⟨(al, cl), trivial, rfl, h.sub (by repeat (first | exact TakeL.nil | (apply TakeL.cons; · repeat (first | exact Take1.head | apply Take1.tail))))⟩
  · refine WC.skip ?_
    refine WC.seq ?_
    refine WC.region ?_
    have hi := plI_none g11
    have e1 : putPs ps x = ps ++ [x] := by unfold putPs; rw [hi]
    have e2 : putAt ps x = ps.length := by unfold putAt; rw [hi]
    rw [e1, e2]
    refine WL.y (Yl.move rfl) rfl ?_
    refine WL.y (Yl.loadN ag38 rfl (by repeat (first | exact Take1.head | apply Take1.tail)) (by rfl) (by rfl)) rfl ?_
    refine WL.to (To.buildSlice (vs := [pnV x]) un28 zs38 rfl rfl (by simp [Value.cells, pnV, Pn.cells]) (by decide) (by decide)) rfl ?_
    intro b16
    rw [show flat [pnV x] = vcs pnV [x] from rfl]
    refine WL.to (To.append sl28 rfl rfl (by repeat (first | exact Take1.head | apply Take1.tail)) (Reads.of (RdOf.blk (size := 3) (n := 1) (cs := vcs pnV [x]) (cs' := vcs pnV [x]) (Nat.le_refl _) (by unfold maxLen; omega) (by simp [vcs, pnV, Pn.cells, flat, Value.cells]) rfl) (by repeat (first | exact Take1.head | apply Take1.tail))) (vtPn.ones _) (show ps.length + 1 = (ps ++ [x]).length by simp) (show vcs pnV ps ++ vcs pnV [x] = vcs pnV (ps ++ [x]) by rw [vcs_app]) (by simp; unfold maxLen; omega) (by simp; omega)) rfl ?_
    rintro ⟨⟨ao17, c17⟩, hc17⟩
    dsimp only at hc17 ⊢
    refine WL.y (Yl.move rfl) rfl ?_
    refine WL.y (Yl.len un28 rfl) rfl ?_
    refine WL.y (Yl.assign rfl) rfl ?_
    refine WL.y (Yl.assign rfl) rfl ?_
    refine WL.nil ?_
    refine WC.ret ?_
    repeat (first | (with_reducible refine peelT ?_) | (with_reducible refine peelB ?_) | (with_reducible refine peelTX ?_) | (with_reducible refine peelBX ?_) | (with_reducible refine peelBN ?_) | (with_reducible refine peelBO rfl ?_))
    refine ret2 (.inr rfl) Try.results29 rfl rfl fun w' h => ⟨(ao17, c17), trivial, rfl, ?_⟩
    rw [pnL_app, show pnL [x] = [pnR x] from rfl]
    exact ((h.bunO1 (r := pnR x) (by repeat (first | exact Take1.head | apply Take1.tail))).bun2 (A := pnL ps) (B := [pnR x]) (by repeat (first | exact TakeL.nil | (apply TakeL.cons; · repeat (first | exact Take1.head | apply Take1.tail))))).sub (by repeat (first | exact TakeL.nil | (apply TakeL.cons; · repeat (first | exact Take1.head | apply Take1.tail))))
theorem tmod_rnd {i : Int} {n : Nat} (hn : 0 < n) : (i.tmod n < 0 → i.tmod n + n = (rnd i n : Int)) ∧ (¬ i.tmod n < 0 → i.tmod n = (rnd i n : Int)) ∧ - (n : Int) < i.tmod n ∧ i.tmod n < n := by
  have h1 := Int.emod_nonneg i (show (n : Int) ≠ 0 by omega)
  have h2 := Int.emod_lt_of_pos i (show (0 : Int) < n by omega)
  have h3 : (rnd i n : Int) = i % n := by unfold rnd; omega
  have h4 := Int.tmod_eq_emod (a := i) (b := (n : Int))
  have h5 : ((n : Int).natAbs : Int) = n := by omega
  have h6 : (n : Int) ∣ i → i % n = 0 := Int.emod_eq_zero_of_dvd
  rw [h3]
  split at h4
  · rw [h4]
    refine ⟨?_, ?_, ?_, ?_⟩ <;> omega
  · rename_i h7
    rw [h5] at h4
    have h8 : i % n ≠ 0 := fun e => h7 (.inr (Int.dvd_of_emod_eq_zero e))
    rw [h4]
    refine ⟨?_, ?_, ?_, ?_⟩ <;> omega
theorem round_any (i : Int) (n : Nat) (hn : 0 < n ∧ n ≤ 1000000000) (w : World) (hw : OK w (fpL []) [] w) :
    Fn Try.prog 43 [.int .i64 i, .int .i64 (n : Int)] [] w (fun _ : Unit => True) (fun _ => .int .i64 (rnd i n : Int)) (fun _ => []) := by
  obtain ⟨h1, h2, h3, h4⟩ := tmod_rnd (i := i) hn.1
  refine enterF Try.func43 rfl Try.ntmps43 rfl hw ?_
  refine WC.seq ?_
  refine WC.region ?_
  refine WL.y (Yl.assign rfl) rfl ?_
  refine WL.nil ?_
  refine WC.seq ?_
  refine WC.seq ?_
  refine WC.region ?_
  refine WL.y (Yl.move rfl) rfl ?_
  refine WL.y (Yl.eql rfl rfl) rfl ?_
  refine WL.nil ?_
  refine WC.condF rfl (decide_eq_false (by omega)) ?_
  refine WC.skip ?_
  refine WC.seq ?_
  refine WC.region ?_
  refine WL.y (Yl.move rfl) rfl ?_
  refine WL.y (Yl.move rfl) rfl ?_
  refine WL.y (Yl.rem rfl rfl (by omega) rfl) rfl ?_
  refine WL.y (Yl.assign rfl) rfl ?_
  refine WL.nil ?_
  refine WC.seq ?_
  refine WC.seq ?_
  refine WC.region ?_
  refine WL.y (Yl.move rfl) rfl ?_
  refine WL.y (Yl.lss rfl rfl) rfl ?_
  refine WL.nil ?_
  refine WC.condD rfl (fun g11 => ?_) (fun g11 => ?_)
  · refine WC.region ?_
    refine WL.y (Yl.move rfl) rfl ?_
    refine WL.y (Yl.move rfl) rfl ?_
    refine WL.y (Yl.add rfl rfl (IntWalk.i64_in _ (by omega))) rfl ?_
    refine WL.y (Yl.assign rfl) rfl ?_
    refine WL.nil ?_
    refine WC.seq ?_
    refine WC.region ?_
    refine WL.y (Yl.move rfl) rfl ?_
    refine WL.y (Yl.assign rfl) rfl ?_
    refine WL.nil ?_
    refine WC.ret ?_
    repeat (first | (with_reducible refine peelT ?_) | (with_reducible refine peelB ?_) | (with_reducible refine peelTX ?_) | (with_reducible refine peelBX ?_) | (with_reducible refine peelBN ?_) | (with_reducible refine peelBO rfl ?_))
    exact ret1 (.inr rfl) Try.results43 rfl fun w' h => ⟨(), trivial, by rw [h1 g11], h.sub (by repeat (first | exact TakeL.nil | (apply TakeL.cons; · repeat (first | exact Take1.head | apply Take1.tail))))⟩
  · refine WC.skip ?_
    refine WC.seq ?_
    refine WC.region ?_
    refine WL.y (Yl.move rfl) rfl ?_
    refine WL.y (Yl.assign rfl) rfl ?_
    refine WL.nil ?_
    refine WC.ret ?_
    repeat (first | (with_reducible refine peelT ?_) | (with_reducible refine peelB ?_) | (with_reducible refine peelTX ?_) | (with_reducible refine peelBX ?_) | (with_reducible refine peelBN ?_) | (with_reducible refine peelBO rfl ?_))
    exact ret1 (.inr rfl) Try.results43 rfl fun w' h => ⟨(), trivial, by rw [h2 g11], h.sub (by repeat (first | exact TakeL.nil | (apply TakeL.cons; · repeat (first | exact Take1.head | apply Take1.tail))))⟩
end Go.Proofs.Ytifhkjcimhhaiaa

namespace Go.Proofs.Ytifhkjcimhhaiaa
open Go Go.RowKit
def mdI (m : List (Option Nat)) : List Int := m.map plI
theorem mdI_cell {m : List (Option Nat)} {i : Nat} {x : Option Nat} (h : m[i]? = some x) : (ints .i64 (mdI m))[i]? = some (.int .i64 (plI x)) := by unfold ints mdI; rw [List.getElem?_map, List.getElem?_map, h]; rfl
/-- A step, and where its places lie. -/
structure Dn where
  d : Dt
  ao : Option Addr
  cap : Nat
def dnS (x : Dn) : Value := .slice x.ao x.d.l.length x.cap
def Dn.cells (x : Dn) : List Value := [.int .u8 x.d.k, .int .u64 x.d.n, .int .i64 x.d.a, .int .i64 x.d.b, dnS x]
def dnV (x : Dn) : Value := .agg x.cells.toArray
theorem Dn.ones (p : Dn) : ∀ v ∈ p.cells, v.oneCell' = true := by
  intro v hv
  simp [Dn.cells, dnS] at hv
  rcases hv with rfl | rfl | rfl | rfl | rfl <;> rfl
theorem dnAll {l : List Dn} : ∀ x ∈ l, (fun _ : Dn => True) x := fun _ _ => trivial
theorem vtDn : VT Try.prog 49 5 (fun _ : Dn => True) dnV := .agg (cel := Dn.cells) (by kernel_rfl) (by kernel_rfl) (by decide) (fun _ => rfl) (fun _ _ => rfl) (fun r => r.ones)
def dts (l : List Dn) : List Dt := l.map (·.d)
structure DnS (w : World) (T : Pm) (v : Value) (l : List Dn) : Prop where
  rows : RdS w T v 5 l.length (vcs dnV l)
  ls : ∀ x ∈ l, RdS w T (dnS x) 1 x.d.l.length (ints .i64 x.d.l)
structure DnOf (r : Res) (v : Value) (l : List Dn) : Prop where
  rows : RdOf r v 5 l.length (vcs dnV l)
  ls : ∀ x ∈ l, RdOf r (dnS x) 1 x.d.l.length (ints .i64 x.d.l)
section
variable {c : Cx} {A F : List Res}
theorem OK.srcTS {w : World} {v : Value} {l : List Dn} (hw : OK c.w0 c.S (A ++ F) w) (h : DnS c.w0 c.S v l) : DnS w (fpL A) v l := ⟨hw.srcS h.rows, fun x hx => hw.srcS (h.ls x hx)⟩
end
def dnRs (v : Value) (l : List Dn) : List Res := rdR v 5 l.length (vcs dnV l) :: l.map (fun x => rdR (dnS x) 1 x.d.l.length (ints .i64 x.d.l))
def dnR (v : Value) (l : List Dn) : Res := bunR (dnRs v l)
theorem dnR_of (v : Value) (l : List Dn) : DnOf (dnR v l) v l :=
  ⟨RdOf.bun (List.mem_cons.2 (.inl rfl)), fun x hx => RdOf.bun (List.mem_cons.2 (.inr (List.mem_map.2 ⟨x, hx, rfl⟩)))⟩
/-- What Build hands back. -/
def blC (x : Option Pn × List Value) : List Value := match x.1 with
  | some p => p.cells
  | none => x.2
def blV (x : Option Pn × List Value) : Value := .tuple #[.agg (blC x).toArray, .bool x.1.isSome]
def blR (x : Option Pn × List Value) : List Res := match x.1 with
  | some p => [pnR p]
  | none => []
structure BlOk (o : Option Nd) (x : Option Pn × List Value) : Prop where
  is : x.1.map (·.nd) = o
  cs : ∃ k n a l c, x.2 = [.int .u8 k, .int .u64 n, .slice a l c]
theorem blC_len {o : Option Nd} {x : Option Pn × List Value} (h : BlOk o x) : (blC x).length = 3 := by
  obtain ⟨y, cs⟩ := x
  cases y with
  | some p => rfl
  | none => obtain ⟨k, n, a, l, c, e⟩ := h.cs; show cs.length = 3; rw [show cs = _ from e]; rfl
theorem blC_ones {o : Option Nd} {x : Option Pn × List Value} (h : BlOk o x) : ∀ u ∈ blC x, u.oneCell' = true := by
  obtain ⟨y, cs⟩ := x
  cases y with
  | some p => exact p.ones
  | none =>
    obtain ⟨k, n, a, l, c, e⟩ := h.cs
    intro u hu
    have hu : u ∈ cs := hu
    rw [show cs = _ from e] at hu
    simp at hu
    rcases hu with rfl | rfl | rfl <;> rfl
theorem shp_ptl {nd : Nd} (h : nd.shp) : nd.pt.length ≤ 255 := by
  unfold Nd.shp at h
  rcases h with ⟨_, _, h⟩ | ⟨_, _, h⟩ | ⟨_, _, h⟩ | ⟨_, _, h⟩ | ⟨_, _, x, y, h, _⟩
  · rw [h]; simp
  · omega
  · omega
  · omega
  · rw [h]; simp
theorem playR_take {l : List Dt} {i : Nat} {d : Dt} (h : l[i]? = some d) : playR (l.take (i + 1)) = stepR (playR (l.take i)) d := by rw [← take_snoc _ _ _ h, playR_snoc]
theorem playR_len (l : List Dt) : (playR l).2.length = l.length ∧ (playR l).1.length ≤ l.length := by
  refine snoc_ind (p := fun l => (playR l).2.length = l.length ∧ (playR l).1.length ≤ l.length) ⟨rfl, Nat.le_refl _⟩ (fun l d ih => ?_) l
  rw [playR_snoc, List.length_append, List.length_singleton]
  unfold stepR
  split
  · refine ⟨by simp [ih.1], ?_⟩
    unfold putP
    split
    · exact Nat.le_succ_of_le ih.2
    · simp; exact ih.2
  · exact ⟨by simp [ih.1], Nat.le_succ_of_le ih.2⟩
theorem dts_get {l : List Dn} {i : Nat} {x : Dn} (h : l[i]? = some x) : (dts l)[i]? = some x.d := by unfold dts; rw [List.getElem?_map, h]; rfl
theorem dts_len (l : List Dn) : (dts l).length = l.length := List.length_map _
theorem stepR_some {p : List Nd} {m : List (Option Nat)} {d : Dt} {nd : Nd} (h : bN p m d = some nd) : stepR (p, m) d = ((putP p nd).1, m ++ [some (putP p nd).2]) := by unfold stepR; rw [h]
theorem stepR_none {p : List Nd} {m : List (Option Nat)} {d : Dt} (h : bN p m d = none) : stepR (p, m) d = (p, m ++ [none]) := by unfold stepR; rw [h]
theorem mdI_app (m : List (Option Nat)) (o : Option Nat) : mdI (m ++ [o]) = mdI m ++ [plI o] := by unfold mdI; simp
theorem atO_none {m : List (Option Nat)} {i : Int} (h : m = []) : atO m i = none := by subst h; unfold atO; rfl
theorem atO_get {m : List (Option Nat)} {i : Int} (h : 0 < m.length) : m[rnd i m.length]? = some (atO m i) := by
  have h1 : m[rnd i m.length]? = some (m[rnd i m.length]'(rnd_lt h)) := List.getElem?_eq_getElem (rnd_lt h)
  unfold atO
  rw [h1]
  rfl
end Go.Proofs.Ytifhkjcimhhaiaa
