/- The document's Build: the walk. -/
import Derived.Test.YtifhkjcimhhaiaaTerW
namespace Go.Proofs.Ytifhkjcimhhaiaa
open Go Go.RowKit
theorem allO_cs {α β : Type} (f : α → Option β) (x : α) (l : List α) : allO f (x :: l) = match f x, allO f l with
    | some y, some ys => some (y :: ys)
    | _, _ => none := by
  rw [allO]
  cases f x <;> cases allO f l <;> rfl
theorem allO_nl {α β : Type} (f : α → Option β) : allO f [] = some [] := by rw [allO]
theorem allO_app {α β : Type} (f : α → Option β) : ∀ (a b : List α), allO f (a ++ b) = match allO f a, allO f b with
    | some x, some y => some (x ++ y)
    | _, _ => none
  | [], b => by
    rw [List.nil_append, allO_nl]
    cases allO f b <;> rfl
  | x :: a, b => by
    rw [List.cons_append, allO_cs, allO_cs, allO_app f a b]
    cases f x <;> cases allO f a <;> cases allO f b <;> rfl
theorem allO_next {α β : Type} {f : α → Option β} {l : List α} {j : Nat} {e : α} {L : List β} {v : β} (h : l[j]? = some e) (h1 : allO f (l.take j) = some L) (h2 : f e = some v) : allO f (l.take (j + 1)) = some (L ++ [v]) := by
  rw [← take_snoc _ _ _ h, allO_app, h1]
  unfold allO
  rw [h2]
  rfl
theorem allO_no {α β : Type} {f : α → Option β} {l : List α} {j : Nat} {e : α} (h : l[j]? = some e) (h2 : f e = none) : allO f l = none := by
  cases hh : allO f l with
  | none => rfl
  | some L =>
    exfalso
    have : l = l.take (j + 1) ++ l.drop (j + 1) := (List.take_append_drop _ _).symm
    rw [this, ← take_snoc _ _ _ h, allO_app, allO_app] at hh
    have e1 : allO f [e] = none := by unfold allO; rw [h2]
    rw [e1] at hh
    cases h3 : allO f (l.take j) <;> rw [h3] at hh <;> cases hh
def sixN (p : List Nd) (oa ob : Option Nat) : Option Nd := match oa, ob with
  | some x, some y => (match p[y]? with | some nd => if nd.k = 5 then some ⟨6, 0, srt2 x (nd.pt.getD 0 0)⟩ else none | none => none)
  | _, _ => none
theorem bN_six {p : List Nd} {m : List (Option Nat)} {d : Dt} (h : d.k = 6) : bN p m d = sixN p (atO m d.a) (atO m d.b) := by
  unfold bN
  rw [if_neg (by omega), if_neg (by omega), if_neg (by omega), if_neg (by omega), if_pos h]
  rfl
theorem sixN_some {p : List Nd} {a b : Nat} {nd : Nd} (h : p[b]? = some nd) : sixN p (some a) (some b) = if nd.k = 5 then some ⟨6, 0, srt2 a (nd.pt.getD 0 0)⟩ else none := by
  unfold sixN
  dsimp only
  rw [h]
theorem sixN_b (p : List Nd) (o : Option Nat) : sixN p o none = none := by cases o <;> rfl
structure BlS where
  j : Nat
  Z : List Int
  b : Bool
  y : Option Addr × Nat
theorem u64_tm {n : Int} (h : 0 ≤ n) : n.tmod 256 = n % 256 := Int.tmod_eq_emod_of_nonneg h
set_option maxRecDepth 100000 in
set_option maxHeartbeats 1600000 in
theorem bld_any (ps : List Pn) (m : List (Option Nat)) (x : Dn) (pv mv : Value) (hlp : ps.length ≤ 100000000) (hm : MadeOk (nds ps) m) (hmn : m.length ≤ 100000000) (hP : PoolOk (nds ps)) (hd : x.d.ok) (w : World) (hp : PlS w (fpL []) pv ps) (hmr : RdS w (fpL []) mv 1 m.length (ints .i64 (mdI m))) (hx : RdS w (fpL []) (dnS x) 1 x.d.l.length (ints .i64 x.d.l)) (hw : OK w (fpL []) [] w) :
    Fn Try.prog 28 [pv, dnV x, mv] [] w (fun y => BlOk (bN (nds ps) m x.d) y) blV blR := by
  obtain ⟨al, cl, rfl, hcl, hml⟩ := hp.rows.rd.form
  obtain ⟨am, cm, rfl, hcm, hmm⟩ := hmr.rd.form
  obtain ⟨oa, hoa⟩ : ∃ o, atO m x.d.a = o := ⟨_, rfl⟩
  obtain ⟨ob, hob⟩ : ∃ o, atO m x.d.b = o := ⟨_, rfl⟩
  have hnk := hd.n
  refine enterF Try.func28 rfl Try.ntmps28 rfl hw ?_
  refine WC.seq ?_
  refine WC.region ?_
  refine WL.to (To.box (cs := x.cells) rfl rfl) rfl ?_
  intro b4
  refine WL.to (To.alloc (cs := [.int .u8 0, .int .u64 0, .slice none 0 0]) zr38 rfl) rfl ?_
  intro b6
  refine WL.y (Yl.assign rfl) rfl ?_
  refine WL.nil ?_
  refine WC.seq ?_
  refine WC.region ?_
  refine WL.y (Yl.assign rfl) rfl ?_
  refine WL.y (Yl.assign rfl) rfl ?_
  refine WL.nil ?_
  refine WC.midX (α := Unit) (fun _ => [(0, .slice al ps.length cl), (2, .slice am m.length cm), (4, .pointer (some ⟨b4, 0, none⟩)), (6, .pointer (some ⟨b6, 0, none⟩)), (8, .int .i64 (plI oa)), (9, .int .i64 (plI ob))]) (fun _ => [blkR b4 49 x.cells, blkR b6 38 [.int .u8 0, .int .u64 0, .slice none 0 0]]) (fun _ => True) ?_ ?_
  · refine WC.seq ?_
    refine WC.region ?_
    refine WL.y (Yl.move rfl) rfl ?_
    refine WL.y (Yl.len un29 rfl) rfl ?_
    refine WL.y (Yl.gtr rfl rfl) rfl ?_
    refine WL.nil ?_
    refine WC.condD rfl (fun g18 => ?_) (fun g18 => ?_)
    · refine WC.seq ?_
      refine WC.region ?_
      refine WL.y (Yl.move rfl) rfl ?_
      refine WL.y (Yl.field fo49_2 rfl) rfl ?_
      refine WL.y (Yl.load on3 rfl (by repeat (first | exact Take1.head | apply Take1.tail)) (by rfl)) rfl ?_
      refine WL.y (Yl.move rfl) rfl ?_
      refine WL.y (Yl.len un29 rfl) rfl ?_
      refine WL.callC (xs := [.tmp 21, .tmp 23]) (cap := []) rfl rfl en43 (by repeat (first | exact TakeL.nil | (apply TakeL.cons; · repeat (first | exact Take1.head | apply Take1.tail)))) (fun w hw => round_any x.d.a m.length (by omega) w hw.left.here) rfl ?_
      rintro ⟨⟩ -
      have hr1 := rnd_lt (i := x.d.a) (n := m.length) (by omega)
      refine WL.y (Yl.index un29 sz3 rfl rfl (Reads.s hmr) rfl (by omega)) rfl ?_
      refine WL.y (Yl.loadE (j := rnd x.d.a m.length) (u := .int .i64 (plI oa)) on3 rfl (Reads.s hmr) (by rw [← hoa]; exact mdI_cell (atO_get (by omega)))) rfl ?_
      refine WL.y (Yl.assign rfl) rfl ?_
      refine WL.nil ?_
      refine WC.region ?_
      refine WL.y (Yl.move rfl) rfl ?_
      refine WL.y (Yl.field fo49_3 rfl) rfl ?_
      refine WL.y (Yl.load on3 rfl (by repeat (first | exact Take1.head | apply Take1.tail)) (by rfl)) rfl ?_
      refine WL.y (Yl.move rfl) rfl ?_
      refine WL.y (Yl.len un29 rfl) rfl ?_
      refine WL.callC (xs := [.tmp 29, .tmp 31]) (cap := []) rfl rfl en43 (by repeat (first | exact TakeL.nil | (apply TakeL.cons; · repeat (first | exact Take1.head | apply Take1.tail)))) (fun w hw => round_any x.d.b m.length (by omega) w hw.left.here) rfl ?_
      rintro ⟨⟩ -
      have hr2 := rnd_lt (i := x.d.b) (n := m.length) (by omega)
      refine WL.y (Yl.index un29 sz3 rfl rfl (Reads.s hmr) rfl (by omega)) rfl ?_
      refine WL.y (Yl.loadE (j := rnd x.d.b m.length) (u := .int .i64 (plI ob)) on3 rfl (Reads.s hmr) (by rw [← hob]; exact mdI_cell (atO_get (by omega)))) rfl ?_
      refine WL.y (Yl.assign rfl) rfl ?_
      refine WL.nil ?_
      exact ⟨rfl, (), trivial, (by repeat (first | exact Sub.nil | refine Sub.cons rfl ?_)), _, (by repeat (first | exact TakeL.nil | (apply TakeL.cons; · repeat (first | exact Take1.head | apply Take1.tail))))⟩
    · refine WC.skip ?_
      have hm0 : m = [] := List.eq_nil_of_length_eq_zero (by omega)
      rw [atO_none hm0] at hoa hob
      subst hoa
      subst hob
      exact ⟨rfl, (), trivial, (by repeat (first | exact Sub.nil | refine Sub.cons rfl ?_)), _, (by repeat (first | exact TakeL.nil | (apply TakeL.cons; · repeat (first | exact Take1.head | apply Take1.tail))))⟩
  · rintro ⟨⟩ -
    refine WC.seq ?_
    refine WC.seq ?_
    refine WC.region ?_
    refine WL.y (Yl.field fo49_0 rfl) rfl ?_
    refine WL.y (Yl.load on5 rfl (by repeat (first | exact Take1.head | apply Take1.tail)) (by rfl)) rfl ?_
    refine WL.nil ?_
    refine WC.block ?_
    refine WC.seq ?_
    refine WC.region ?_
    refine WL.y (Yl.eql rfl rfl) rfl ?_
    refine WL.y (Yl.assign rfl) rfl ?_
    refine WL.nil ?_
    refine WC.condD rfl (fun g37 => ?_) (fun g37 => ?_)
    · refine WC.seq ?_
      refine WC.region ?_
      refine WL.y (Yl.field fo49_1 rfl) rfl ?_
      refine WL.y (Yl.load on36 rfl (by repeat (first | exact Take1.head | apply Take1.tail)) (by rfl)) rfl ?_
      refine WL.y (Yl.build rfl (cs := [.int .u8 1, .int .u64 x.d.n, .slice none 0 0]) (fun _ => by kernel_rfl)) rfl ?_
      refine WL.sto (Sto.agg sz38 rfl rfl (by repeat (first | exact Take1.head | apply Take1.tail)) (Pn.ones ⟨⟨1, x.d.n, []⟩, none, 0⟩) rfl (by rfl) (show _ = [.int .u8 1, .int .u64 x.d.n, .slice none 0 0] from rfl)) (fun _ h => nomatch h) ?_
      refine WL.y (Yl.assign rfl) rfl ?_
      refine WL.nil ?_
      refine WC.ret ?_
      repeat (first | (with_reducible refine peelT ?_) | (with_reducible refine peelB ?_) | (with_reducible refine peelTX ?_) | (with_reducible refine peelBX ?_) | (with_reducible refine peelBN ?_) | (with_reducible refine peelBO rfl ?_))
      have e : bN (nds ps) m x.d = some ⟨1, x.d.n, []⟩ := by unfold bN; rw [if_pos g37]
      refine retC2 (.inr rfl) Try.results28 ag38 rfl rfl (by repeat (first | exact Take1.head | apply Take1.tail)) rfl fun w' h => ⟨(some ⟨⟨1, x.d.n, []⟩, none, 0⟩, [.int .u8 0, .int .u64 0, .slice none 0 0]), ⟨by rw [e]; rfl, ⟨_, _, _, _, _, rfl⟩⟩, rfl, ?_⟩
      have h0 : OK w _ [] w' := h.sub (by repeat (first | exact TakeL.nil | (apply TakeL.cons; · repeat (first | exact Take1.head | apply Take1.tail))))
      exact (show OK w _ (rdR (.slice none 0 0) 1 0 [] :: []) w' from ((h0.addNil 3 1).readOnly .head))
    · refine WC.seq ?_
      refine WC.seq ?_
      refine WC.region ?_
      refine WL.y (Yl.eql rfl rfl) rfl ?_
      refine WL.y (Yl.assign rfl) rfl ?_
      refine WL.nil ?_
      refine WC.condD rfl (fun g42 => ?_) (fun g42 => ?_)
      · refine WC.skip ?_
        refine WC.condT rfl (decide_eq_true g42) ?_
        refine WC.seq ?_
        refine WC.region ?_
        refine WL.y (Yl.field fo49_0 rfl) rfl ?_
        refine WL.y (Yl.load on5 rfl (by repeat (first | exact Take1.head | apply Take1.tail)) (by rfl)) rfl ?_
        refine WL.y (Yl.move rfl) rfl ?_
        refine WL.y (Yl.move rfl) rfl ?_
        refine WL.to (To.buildSlice (vs := [.int .i64 (plI oa), .int .i64 (plI ob)]) un29 zs3 rfl rfl (by simp [Value.cells]) (by decide) (by decide)) rfl ?_
        intro b49
        refine WL.y (Yl.build rfl (cs := [.int .u8 x.d.k, .int .u64 0, .slice (some ⟨b49, 0, none⟩) 2 2]) (fun _ => by kernel_rfl)) rfl ?_
        refine WL.y (Yl.move rfl) rfl ?_
        refine WL.y (Yl.geq rfl rfl) rfl ?_
        refine WL.y (Yl.move rfl) rfl ?_
        refine WL.both (t := 53) rfl (fun g53 => ?_) (fun g53 => ?_)
        · refine WL.on rfl rfl ?_
          refine WL.y (Yl.move rfl) rfl ?_
          refine WL.on rfl rfl ?_
          refine WL.y (Yl.geq rfl rfl) rfl ?_
          refine WL.y (Yl.pickT rfl rfl) rfl ?_
          refine WL.sto (Sto.agg sz38 rfl rfl (by repeat (first | exact Take1.head | apply Take1.tail)) (by intro v hv; simp at hv; rcases hv with rfl | rfl | rfl <;> rfl) rfl (by rfl) (show _ = [.int .u8 x.d.k, .int .u64 0, .slice (some ⟨b49, 0, none⟩) 2 2] from rfl)) (fun _ h => nomatch h) ?_
          refine WL.y (Yl.assign rfl) rfl ?_
          refine WL.nil ?_
          refine WC.ret ?_
          repeat (first | (with_reducible refine peelT ?_) | (with_reducible refine peelB ?_) | (with_reducible refine peelTX ?_) | (with_reducible refine peelBX ?_) | (with_reducible refine peelBN ?_) | (with_reducible refine peelBO rfl ?_))
          have hk24 : x.d.k = 2 ∨ x.d.k = 4 := by first | exact .inl g42 | exact .inr g42
          have h1 : x.d.k ≠ 1 := g37
          obtain ⟨a, rfl⟩ := plI_some (of_decide_eq_true g53)
          cases ob with
          | none =>
            have e : bN (nds ps) m x.d = none := by unfold bN; rw [if_neg h1, if_pos hk24, hoa, hob]
            exact retC2 (.inr rfl) Try.results28 ag38 rfl rfl (by repeat (first | exact Take1.head | apply Take1.tail)) rfl fun w' h => ⟨(none, _), ⟨by rw [e]; rfl, ⟨_, _, _, _, _, rfl⟩⟩, rfl, h.sub (by repeat (first | exact TakeL.nil | (apply TakeL.cons; · repeat (first | exact Take1.head | apply Take1.tail))))⟩
          | some b =>
            have e : bN (nds ps) m x.d = some ⟨x.d.k, 0, [a, b]⟩ := by unfold bN; rw [if_neg h1, if_pos hk24, hoa, hob]
            refine retC2 (.inr rfl) Try.results28 ag38 rfl rfl (by repeat (first | exact Take1.head | apply Take1.tail)) rfl fun w' h => ⟨(some ⟨⟨x.d.k, 0, [a, b]⟩, some ⟨b49, 0, none⟩, 2⟩, [.int .u8 0, .int .u64 0, .slice none 0 0]), ⟨by rw [e]; rfl, ⟨_, _, _, _, _, rfl⟩⟩, by rw [show decide (0 ≤ plI (some b)) = true from decide_eq_true (by show (0 : Int) ≤ (b : Int); omega)]; rfl, ?_⟩
            exact (((h.blkOwn (b := b49) (size := 1) (n := 2) (by repeat (first | exact Take1.head | apply Take1.tail)) (by unfold maxLen; omega) rfl).readOnly .head).sub (B := [pnR ⟨⟨x.d.k, 0, [a, b]⟩, some ⟨b49, 0, none⟩, 2⟩]) (.cons .head .nil))
        · refine WL.off rfl rfl rfl rfl ?_
          refine WL.off rfl rfl rfl rfl ?_
          refine WL.y (Yl.pickF rfl rfl) rfl ?_
          refine WL.sto (Sto.agg sz38 rfl rfl (by repeat (first | exact Take1.head | apply Take1.tail)) (by intro v hv; simp at hv; rcases hv with rfl | rfl | rfl <;> rfl) rfl (by rfl) (show _ = [.int .u8 x.d.k, .int .u64 0, .slice (some ⟨b49, 0, none⟩) 2 2] from rfl)) (fun _ h => nomatch h) ?_
          refine WL.y (Yl.assign rfl) rfl ?_
          refine WL.nil ?_
          refine WC.ret ?_
          repeat (first | (with_reducible refine peelT ?_) | (with_reducible refine peelB ?_) | (with_reducible refine peelTX ?_) | (with_reducible refine peelBX ?_) | (with_reducible refine peelBN ?_) | (with_reducible refine peelBO rfl ?_))
          have hk24 : x.d.k = 2 ∨ x.d.k = 4 := by first | exact .inl g42 | exact .inr g42
          have h1 : x.d.k ≠ 1 := g37
          have h3 := plI_none (of_decide_eq_false g53)
          subst h3
          have e : bN (nds ps) m x.d = none := by unfold bN; rw [if_neg h1, if_pos hk24, hoa]
          exact retC2 (.inr rfl) Try.results28 ag38 rfl rfl (by repeat (first | exact Take1.head | apply Take1.tail)) rfl fun w' h => ⟨(none, _), ⟨by rw [e]; rfl, ⟨_, _, _, _, _, rfl⟩⟩, rfl, h.sub (by repeat (first | exact TakeL.nil | (apply TakeL.cons; · repeat (first | exact Take1.head | apply Take1.tail))))⟩
      · refine WC.region ?_
        refine WL.y (Yl.eql rfl rfl) rfl ?_
        refine WL.y (Yl.assign rfl) rfl ?_
        refine WL.nil ?_
        refine WC.condD rfl (fun g42 => ?_) (fun g42 => ?_)
        · refine WC.seq ?_
          refine WC.region ?_
          refine WL.y (Yl.field fo49_0 rfl) rfl ?_
          refine WL.y (Yl.load on5 rfl (by repeat (first | exact Take1.head | apply Take1.tail)) (by rfl)) rfl ?_
          refine WL.y (Yl.move rfl) rfl ?_
          refine WL.y (Yl.move rfl) rfl ?_
          refine WL.to (To.buildSlice (vs := [.int .i64 (plI oa), .int .i64 (plI ob)]) un29 zs3 rfl rfl (by simp [Value.cells]) (by decide) (by decide)) rfl ?_
          intro b49
          refine WL.y (Yl.build rfl (cs := [.int .u8 x.d.k, .int .u64 0, .slice (some ⟨b49, 0, none⟩) 2 2]) (fun _ => by kernel_rfl)) rfl ?_
          refine WL.y (Yl.move rfl) rfl ?_
          refine WL.y (Yl.geq rfl rfl) rfl ?_
          refine WL.y (Yl.move rfl) rfl ?_
          refine WL.both (t := 53) rfl (fun g53 => ?_) (fun g53 => ?_)
          · refine WL.on rfl rfl ?_
            refine WL.y (Yl.move rfl) rfl ?_
            refine WL.on rfl rfl ?_
            refine WL.y (Yl.geq rfl rfl) rfl ?_
            refine WL.y (Yl.pickT rfl rfl) rfl ?_
            refine WL.sto (Sto.agg sz38 rfl rfl (by repeat (first | exact Take1.head | apply Take1.tail)) (by intro v hv; simp at hv; rcases hv with rfl | rfl | rfl <;> rfl) rfl (by rfl) (show _ = [.int .u8 x.d.k, .int .u64 0, .slice (some ⟨b49, 0, none⟩) 2 2] from rfl)) (fun _ h => nomatch h) ?_
            refine WL.y (Yl.assign rfl) rfl ?_
            refine WL.nil ?_
            refine WC.ret ?_
            repeat (first | (with_reducible refine peelT ?_) | (with_reducible refine peelB ?_) | (with_reducible refine peelTX ?_) | (with_reducible refine peelBX ?_) | (with_reducible refine peelBN ?_) | (with_reducible refine peelBO rfl ?_))
            have hk24 : x.d.k = 2 ∨ x.d.k = 4 := by first | exact .inl g42 | exact .inr g42
            have h1 : x.d.k ≠ 1 := g37
            obtain ⟨a, rfl⟩ := plI_some (of_decide_eq_true g53)
            cases ob with
            | none =>
              have e : bN (nds ps) m x.d = none := by unfold bN; rw [if_neg h1, if_pos hk24, hoa, hob]
              exact retC2 (.inr rfl) Try.results28 ag38 rfl rfl (by repeat (first | exact Take1.head | apply Take1.tail)) rfl fun w' h => ⟨(none, _), ⟨by rw [e]; rfl, ⟨_, _, _, _, _, rfl⟩⟩, rfl, h.sub (by repeat (first | exact TakeL.nil | (apply TakeL.cons; · repeat (first | exact Take1.head | apply Take1.tail))))⟩
            | some b =>
              have e : bN (nds ps) m x.d = some ⟨x.d.k, 0, [a, b]⟩ := by unfold bN; rw [if_neg h1, if_pos hk24, hoa, hob]
              refine retC2 (.inr rfl) Try.results28 ag38 rfl rfl (by repeat (first | exact Take1.head | apply Take1.tail)) rfl fun w' h => ⟨(some ⟨⟨x.d.k, 0, [a, b]⟩, some ⟨b49, 0, none⟩, 2⟩, [.int .u8 0, .int .u64 0, .slice none 0 0]), ⟨by rw [e]; rfl, ⟨_, _, _, _, _, rfl⟩⟩, by rw [show decide (0 ≤ plI (some b)) = true from decide_eq_true (by show (0 : Int) ≤ (b : Int); omega)]; rfl, ?_⟩
              exact (((h.blkOwn (b := b49) (size := 1) (n := 2) (by repeat (first | exact Take1.head | apply Take1.tail)) (by unfold maxLen; omega) rfl).readOnly .head).sub (B := [pnR ⟨⟨x.d.k, 0, [a, b]⟩, some ⟨b49, 0, none⟩, 2⟩]) (.cons .head .nil))
          · refine WL.off rfl rfl rfl rfl ?_
            refine WL.off rfl rfl rfl rfl ?_
            refine WL.y (Yl.pickF rfl rfl) rfl ?_
            refine WL.sto (Sto.agg sz38 rfl rfl (by repeat (first | exact Take1.head | apply Take1.tail)) (by intro v hv; simp at hv; rcases hv with rfl | rfl | rfl <;> rfl) rfl (by rfl) (show _ = [.int .u8 x.d.k, .int .u64 0, .slice (some ⟨b49, 0, none⟩) 2 2] from rfl)) (fun _ h => nomatch h) ?_
            refine WL.y (Yl.assign rfl) rfl ?_
            refine WL.nil ?_
            refine WC.ret ?_
            repeat (first | (with_reducible refine peelT ?_) | (with_reducible refine peelB ?_) | (with_reducible refine peelTX ?_) | (with_reducible refine peelBX ?_) | (with_reducible refine peelBN ?_) | (with_reducible refine peelBO rfl ?_))
            have hk24 : x.d.k = 2 ∨ x.d.k = 4 := by first | exact .inl g42 | exact .inr g42
            have h1 : x.d.k ≠ 1 := g37
            have h3 := plI_none (of_decide_eq_false g53)
            subst h3
            have e : bN (nds ps) m x.d = none := by unfold bN; rw [if_neg h1, if_pos hk24, hoa]
            exact retC2 (.inr rfl) Try.results28 ag38 rfl rfl (by repeat (first | exact Take1.head | apply Take1.tail)) rfl fun w' h => ⟨(none, _), ⟨by rw [e]; rfl, ⟨_, _, _, _, _, rfl⟩⟩, rfl, h.sub (by repeat (first | exact TakeL.nil | (apply TakeL.cons; · repeat (first | exact Take1.head | apply Take1.tail))))⟩
        · refine WC.seq ?_
          refine WC.region ?_
          refine WL.y (Yl.eql rfl rfl) rfl ?_
          refine WL.y (Yl.assign rfl) rfl ?_
          refine WL.nil ?_
          refine WC.condD rfl (fun g57 => ?_) (fun g57 => ?_)
          · refine WC.seq ?_
            refine WC.region ?_
            refine WL.y (Yl.field fo49_1 rfl) rfl ?_
            refine WL.y (Yl.load on36 rfl (by repeat (first | exact Take1.head | apply Take1.tail)) (by rfl)) rfl ?_
            refine WL.y (Yl.rem rfl rfl (by omega) (u64_tm hnk.1)) rfl ?_
            refine WL.y (Yl.build rfl (cs := [.int .u8 3, .int .u64 (x.d.n % 256), .slice none 0 0]) (fun _ => by kernel_rfl)) rfl ?_
            refine WL.to (To.alloc (cs := [.int .u8 0, .int .u64 0, .slice none 0 0]) zr38 rfl) rfl ?_
            intro b10
            refine WL.sto (Sto.agg sz38 rfl rfl (by repeat (first | exact Take1.head | apply Take1.tail)) (by intro v hv; simp at hv; rcases hv with rfl | rfl | rfl <;> rfl) rfl (by rfl) (show _ = [.int .u8 3, .int .u64 (x.d.n % 256), .slice none 0 0] from rfl)) (fun _ h => nomatch h) ?_
            refine WL.nil ?_
            refine WC.seq ?_
            refine WC.region ?_
            refine WL.y (Yl.field fo49_4 rfl) rfl ?_
            refine WL.y (Yl.load on29 rfl (by repeat (first | exact Take1.head | apply Take1.tail)) (by rfl)) rfl ?_
            refine WL.y (Yl.len un29 rfl) rfl ?_
            refine WL.y (Yl.leq rfl rfl) rfl ?_
            refine WL.y (Yl.assign rfl) rfl ?_
            refine WL.nil ?_
            refine WC.seq ?_
            refine WC.seq ?_
            refine WC.region ?_
            refine WL.y (Yl.assign rfl) rfl ?_
            refine WL.nil ?_
            refine WC.block ?_
            have h1 : x.d.k ≠ 1 := g37
            have h24 : ¬ (x.d.k = 2 ∨ x.d.k = 4) := by omega
            have h3 : x.d.k = 3 := g57
            have hbn : bN (nds ps) m x.d = if x.d.l.length ≤ 255 then (allO (atO m) x.d.l).map fun l => ⟨3, x.d.n % 256, l⟩ else none := by unfold bN; rw [if_neg h1, if_neg h24, if_pos h3]
            refine WC.view (fun w h => h.addNil 3 1) ?_
            refine WC.loop (α := BlS) (fun s => [(0, .slice al ps.length cl), (2, .slice am m.length cm), (4, .pointer (some ⟨b4, 0, none⟩)), (6, .pointer (some ⟨b6, 0, none⟩)), (10, .pointer (some ⟨b10, 0, none⟩)), (11, .bool s.b), (12, .int .i64 (s.j : Int))]) (fun s => [blkR b4 49 x.cells, blkR b6 38 [.int .u8 0, .int .u64 0, .slice none 0 0], blkR b10 38 [.int .u8 3, .int .u64 (x.d.n % 256), .slice s.y.1 s.Z.length s.y.2], ownR (.slice s.y.1 s.Z.length s.y.2) 3 1 s.Z.length (ints .i64 s.Z)]) (fun s => s.j ≤ x.d.l.length ∧ s.Z.length = s.j ∧ (x.d.l.length ≤ 255 ∨ s.j = 0) ∧ (s.b = true → x.d.l.length ≤ 255 ∧ ∃ L, allO (atO m) (x.d.l.take s.j) = some L ∧ s.Z = iN L) ∧ (s.b = false → bN (nds ps) m x.d = none)) (fun s => x.d.l.length - s.j) ⟨0, [], decide ((x.d.l.length : Int) ≤ 255), (none, 0)⟩ ⟨Nat.zero_le _, rfl, .inr rfl, (fun h => ⟨by have := of_decide_eq_true h; omega, [], rfl, rfl⟩), (fun h => by have := of_decide_eq_false h; rw [hbn, if_neg (by omega)])⟩ ⟨(by repeat (first | exact Sub.nil | refine Sub.cons rfl ?_)), _, (by repeat (first | exact TakeL.nil | (apply TakeL.cons; · repeat (first | exact Take1.head | apply Take1.tail))))⟩ ?_
            rintro ⟨j, Z, b, y⟩ ⟨hj, hZ, hj2, hbt, hbf⟩
            dsimp only at hj hZ hj2 hbt hbf ⊢
            refine WC.seq ?_
            refine WC.seq ?_
            refine WC.region ?_
            refine WL.y (Yl.move rfl) rfl ?_
            refine WL.y (Yl.field fo49_4 rfl) rfl ?_
            refine WL.y (Yl.load on29 rfl (by repeat (first | exact Take1.head | apply Take1.tail)) (by rfl)) rfl ?_
            refine WL.y (Yl.len un29 rfl) rfl ?_
            refine WL.y (Yl.lss rfl rfl) rfl ?_
            refine WL.y (Yl.move rfl) rfl ?_
            refine WL.both (t := 72) rfl (fun g72 => ?_) (fun g72 => ?_)
            · refine WL.on rfl rfl ?_
              refine WL.y (Yl.move rfl) rfl ?_
              refine WL.y (Yl.pickT rfl rfl) rfl ?_
              refine WL.nil ?_
              refine WC.cond rfl (fun g74 => ?_) (fun g74 => ?_)
              · refine WC.skip ?_
                refine WC.seq ?_
                refine WC.block ?_
                refine WC.seq ?_
                have hjl : j < x.d.l.length := by have := g72; simp at this; omega
                obtain ⟨q1, L, q2, q3⟩ := hbt g74
                obtain ⟨e, he⟩ : ∃ y, x.d.l[j]? = some y := ⟨_, List.getElem?_eq_getElem hjl⟩
                obtain ⟨o, ho⟩ : ∃ o, atO m e = o := ⟨_, rfl⟩
                refine WC.region ?_
                refine WL.y (Yl.assign rfl) rfl ?_
                refine WL.nil ?_
                refine WC.midX (α := Unit) (fun _ => [(0, .slice al ps.length cl), (2, .slice am m.length cm), (4, .pointer (some ⟨b4, 0, none⟩)), (6, .pointer (some ⟨b6, 0, none⟩)), (10, .pointer (some ⟨b10, 0, none⟩)), (12, .int .i64 (j : Int)), (13, .int .i64 (plI o))]) (fun _ => [blkR b4 49 x.cells, blkR b6 38 [.int .u8 0, .int .u64 0, .slice none 0 0], blkR b10 38 [.int .u8 3, .int .u64 (x.d.n % 256), .slice y.1 Z.length y.2], ownR (.slice y.1 Z.length y.2) 3 1 Z.length (ints .i64 Z)]) (fun _ => True) ?_ ?_
                · refine WC.seq ?_
                  refine WC.region ?_
                  refine WL.y (Yl.move rfl) rfl ?_
                  refine WL.y (Yl.len un29 rfl) rfl ?_
                  refine WL.y (Yl.gtr rfl rfl) rfl ?_
                  refine WL.nil ?_
                  refine WC.condD rfl (fun g79 => ?_) (fun g79 => ?_)
                  · refine WC.region ?_
                    refine WL.y (Yl.move rfl) rfl ?_
                    refine WL.y (Yl.field fo49_4 rfl) rfl ?_
                    refine WL.y (Yl.load on29 rfl (by repeat (first | exact Take1.head | apply Take1.tail)) (by rfl)) rfl ?_
                    refine WL.y (Yl.move rfl) rfl ?_
                    refine WL.y (Yl.index un29 sz3 rfl rfl (Reads.s hx) rfl (by omega)) rfl ?_
                    refine WL.y (Yl.loadE (j := j) (u := .int .i64 e) on3 rfl (Reads.s hx) (by simp [ints, he])) rfl ?_
                    refine WL.y (Yl.move rfl) rfl ?_
                    refine WL.y (Yl.len un29 rfl) rfl ?_
                    refine WL.callC (xs := [.tmp 85, .tmp 87]) (cap := []) rfl rfl en43 (by repeat (first | exact TakeL.nil | (apply TakeL.cons; · repeat (first | exact Take1.head | apply Take1.tail)))) (fun w hw => round_any e m.length (by omega) w hw.left.here) rfl ?_
                    rintro ⟨⟩ -
                    have hr3 := rnd_lt (i := e) (n := m.length) (by omega)
                    refine WL.y (Yl.index un29 sz3 rfl rfl (Reads.s hmr) rfl (by omega)) rfl ?_
                    refine WL.y (Yl.loadE (j := rnd e m.length) (u := .int .i64 (plI o)) on3 rfl (Reads.s hmr) (by rw [← ho]; exact mdI_cell (atO_get (by omega)))) rfl ?_
                    refine WL.y (Yl.assign rfl) rfl ?_
                    refine WL.nil ?_
                    exact ⟨rfl, (), trivial, (by repeat (first | exact Sub.nil | refine Sub.cons rfl ?_)), _, (by repeat (first | exact TakeL.nil | (apply TakeL.cons; · repeat (first | exact Take1.head | apply Take1.tail))))⟩
                  · refine WC.skip ?_
                    have hm0 : m = [] := List.eq_nil_of_length_eq_zero (by omega)
                    rw [atO_none hm0] at ho
                    subst ho
                    exact ⟨rfl, (), trivial, (by repeat (first | exact Sub.nil | refine Sub.cons rfl ?_)), _, (by repeat (first | exact TakeL.nil | (apply TakeL.cons; · repeat (first | exact Take1.head | apply Take1.tail))))⟩
                · rintro ⟨⟩ -
                  refine WC.seq ?_
                  refine WC.region ?_
                  refine WL.y (Yl.move rfl) rfl ?_
                  refine WL.y (Yl.geq rfl rfl) rfl ?_
                  refine WL.y (Yl.assign rfl) rfl ?_
                  refine WL.nil ?_
                  refine WC.region ?_
                  refine WL.y (Yl.field fo38_2 rfl) rfl ?_
                  refine WL.y (Yl.load on29 rfl (by repeat (first | exact Take1.head | apply Take1.tail)) (by rfl)) rfl ?_
                  refine WL.y (Yl.move rfl) rfl ?_
                  refine WL.to (To.buildSlice (vs := [.int .i64 (plI o)]) un29 zs3 rfl rfl (by simp [Value.cells]) (by decide) (by decide)) rfl ?_
                  intro b96
                  refine WL.to (To.append sl29 rfl rfl (by repeat (first | exact Take1.head | apply Take1.tail)) (Reads.of (RdOf.blk (size := 1) (n := 1) (cs := ints .i64 [plI o]) (cs' := ints .i64 [plI o]) (Nat.le_refl _) (by unfold maxLen; omega) (by simp [ints]) rfl) (by repeat (first | exact Take1.head | apply Take1.tail))) (ints_one _ _) (show Z.length + 1 = (Z ++ [plI o]).length by simp) (show ints .i64 Z ++ ints .i64 [plI o] = ints .i64 (Z ++ [plI o]) by rw [ints_append]) (by simp; unfold maxLen; omega) (by simp; omega)) rfl ?_
                  rintro ⟨⟨ao97, c97⟩, hc97⟩
                  dsimp only at hc97 ⊢
                  refine WL.y (Yl.field fo38_2 rfl) rfl ?_
                  refine WL.sto (Sto.one sz29 rfl rfl (by repeat (first | exact Take1.head | apply Take1.tail)) rfl (by rfl) (by rfl)) (fun _ h => nomatch h) ?_
                  refine WL.nil ?_
                  refine WC.region ?_
                  refine WL.y (Yl.move rfl) rfl ?_
                  refine WL.y (Yl.add rfl rfl (IntWalk.i64_in _ (by omega))) rfl ?_
                  refine WL.y (Yl.assign rfl) rfl ?_
                  refine WL.nil ?_
                  cases o with
                  | none => exact ⟨rfl, ⟨j + 1, Z ++ [plI none], false, (ao97, c97)⟩, ⟨by dsimp only; omega, by simp [hZ], .inl q1, (fun h => by cases h), (fun _ => by rw [hbn, if_pos q1, allO_no he ho]; rfl)⟩, by dsimp only; omega, (by repeat (first | exact Sub.nil | refine Sub.cons rfl ?_)), _, (by repeat (first | exact TakeL.nil | (apply TakeL.cons; · repeat (first | exact Take1.head | apply Take1.tail))))⟩
                  | some v => exact ⟨rfl, ⟨j + 1, Z ++ [(v : Int)], decide ((0 : Int) ≤ (v : Int)), (ao97, c97)⟩, ⟨by dsimp only; omega, by simp [hZ], .inl q1, (fun _ => ⟨q1, L ++ [v], allO_next he q2 ho, by dsimp only; rw [q3, iN_app]; rfl⟩), (fun h => by have := of_decide_eq_false (show decide ((0 : Int) ≤ (v : Int)) = false from h); omega)⟩, by dsimp only; omega, (by repeat (first | exact Sub.nil | refine Sub.cons rfl ?_)), _, (by repeat (first | exact TakeL.nil | (apply TakeL.cons; · repeat (first | exact Take1.head | apply Take1.tail))))⟩
              · refine WC.exit ?_
                refine WC.seq ?_
                refine WC.region ?_
                refine WL.y (Yl.loadN ag38 rfl (by repeat (first | exact Take1.head | apply Take1.tail)) (by rfl) (show _ = [.int .u8 3, .int .u64 (x.d.n % 256), .slice y.1 Z.length y.2] from rfl)) rfl ?_
                refine WL.y (Yl.move rfl) rfl ?_
                refine WL.sto (Sto.agg sz38 rfl rfl (by repeat (first | exact Take1.head | apply Take1.tail)) (by intro v hv; simp at hv; rcases hv with rfl | rfl | rfl <;> rfl) rfl (by rfl) (show _ = [.int .u8 3, .int .u64 (x.d.n % 256), .slice y.1 Z.length y.2] from rfl)) (fun _ h => nomatch h) ?_
                refine WL.y (Yl.assign rfl) rfl ?_
                refine WL.nil ?_
                refine WC.ret ?_
                repeat (first | (with_reducible refine peelT ?_) | (with_reducible refine peelB ?_) | (with_reducible refine peelTX ?_) | (with_reducible refine peelBX ?_) | (with_reducible refine peelBN ?_) | (with_reducible refine peelBO rfl ?_))
                have e := hbf g74
                subst g74
                exact retC2 (.inr rfl) Try.results28 ag38 rfl rfl (by repeat (first | exact Take1.head | apply Take1.tail)) rfl fun w' h => ⟨(none, _), ⟨by rw [e]; rfl, ⟨_, _, _, _, _, rfl⟩⟩, rfl, h.sub (by repeat (first | exact TakeL.nil | (apply TakeL.cons; · repeat (first | exact Take1.head | apply Take1.tail))))⟩
            · refine WL.off rfl rfl rfl rfl ?_
              refine WL.y (Yl.pickF rfl rfl) rfl ?_
              refine WL.nil ?_
              refine WC.condF rfl (by first | rfl | (simp; done) | (simp; omega)) ?_
              refine WC.exit ?_
              refine WC.seq ?_
              refine WC.region ?_
              refine WL.y (Yl.loadN ag38 rfl (by repeat (first | exact Take1.head | apply Take1.tail)) (by rfl) (show _ = [.int .u8 3, .int .u64 (x.d.n % 256), .slice y.1 Z.length y.2] from rfl)) rfl ?_
              refine WL.y (Yl.move rfl) rfl ?_
              refine WL.sto (Sto.agg sz38 rfl rfl (by repeat (first | exact Take1.head | apply Take1.tail)) (by intro v hv; simp at hv; rcases hv with rfl | rfl | rfl <;> rfl) rfl (by rfl) (show _ = [.int .u8 3, .int .u64 (x.d.n % 256), .slice y.1 Z.length y.2] from rfl)) (fun _ h => nomatch h) ?_
              refine WL.y (Yl.assign rfl) rfl ?_
              refine WL.nil ?_
              refine WC.ret ?_
              repeat (first | (with_reducible refine peelT ?_) | (with_reducible refine peelB ?_) | (with_reducible refine peelTX ?_) | (with_reducible refine peelBX ?_) | (with_reducible refine peelBN ?_) | (with_reducible refine peelBO rfl ?_))
              cases b with
              | false =>
                have e := hbf rfl
                exact retC2 (.inr rfl) Try.results28 ag38 rfl rfl (by repeat (first | exact Take1.head | apply Take1.tail)) rfl fun w' h => ⟨(none, _), ⟨by rw [e]; rfl, ⟨_, _, _, _, _, rfl⟩⟩, rfl, h.sub (by repeat (first | exact TakeL.nil | (apply TakeL.cons; · repeat (first | exact Take1.head | apply Take1.tail))))⟩
              | true =>
                obtain ⟨q1, L, q2, q3⟩ := hbt rfl
                have hjl : j = x.d.l.length := by have := g72; simp at this; omega
                rw [hjl, List.take_length] at q2
                have e : bN (nds ps) m x.d = some ⟨3, x.d.n % 256, L⟩ := by rw [hbn, if_pos q1, q2]; rfl
                have hZL : Z.length = L.length := by rw [q3, iN_len]
                rw [hZL, q3]
                refine retC2 (.inr rfl) Try.results28 ag38 rfl rfl (by repeat (first | exact Take1.head | apply Take1.tail)) rfl fun w' h => ⟨(some ⟨⟨3, x.d.n % 256, L⟩, y.1, y.2⟩, [.int .u8 0, .int .u64 0, .slice none 0 0]), ⟨by rw [e]; rfl, ⟨_, _, _, _, _, rfl⟩⟩, rfl, ?_⟩
                have h2 : OK w _ (ownR (.slice y.1 L.length y.2) 3 1 L.length (ints .i64 (iN L)) :: []) w' := h.sub (by repeat (first | exact TakeL.nil | (apply TakeL.cons; · repeat (first | exact Take1.head | apply Take1.tail))))
                exact h2.readOnly .head
          · refine WC.seq ?_
            refine WC.region ?_
            refine WL.y (Yl.eql rfl rfl) rfl ?_
            refine WL.y (Yl.assign rfl) rfl ?_
            refine WL.nil ?_
            refine WC.condD rfl (fun g101 => ?_) (fun g101 => ?_)
            · refine WC.seq ?_
              refine WC.region ?_
              refine WL.y (Yl.move rfl) rfl ?_
              refine WL.to (To.buildSlice (vs := [.int .i64 (plI oa)]) un29 zs3 rfl rfl (by simp [Value.cells]) (by decide) (by decide)) rfl ?_
              intro b104
              refine WL.y (Yl.build rfl (cs := [.int .u8 5, .int .u64 0, .slice (some ⟨b104, 0, none⟩) 1 1]) (fun _ => by kernel_rfl)) rfl ?_
              refine WL.y (Yl.move rfl) rfl ?_
              refine WL.y (Yl.geq rfl rfl) rfl ?_
              refine WL.sto (Sto.agg sz38 rfl rfl (by repeat (first | exact Take1.head | apply Take1.tail)) (by intro v hv; simp at hv; rcases hv with rfl | rfl | rfl <;> rfl) rfl (by rfl) (show _ = [.int .u8 5, .int .u64 0, .slice (some ⟨b104, 0, none⟩) 1 1] from rfl)) (fun _ h => nomatch h) ?_
              refine WL.y (Yl.assign rfl) rfl ?_
              refine WL.nil ?_
              refine WC.ret ?_
              repeat (first | (with_reducible refine peelT ?_) | (with_reducible refine peelB ?_) | (with_reducible refine peelTX ?_) | (with_reducible refine peelBX ?_) | (with_reducible refine peelBN ?_) | (with_reducible refine peelBO rfl ?_))
              have h1 : x.d.k ≠ 1 := g37
              have h5 : x.d.k = 5 := g101
              have hbn : bN (nds ps) m x.d = oa.map fun x => ⟨5, 0, [x]⟩ := by unfold bN; rw [if_neg h1, if_neg (by omega), if_neg (by omega), if_pos h5, hoa]
              cases oa with
              | none =>
                have e : bN (nds ps) m x.d = none := hbn
                exact retC2 (.inr rfl) Try.results28 ag38 rfl rfl (by repeat (first | exact Take1.head | apply Take1.tail)) rfl fun w' h => ⟨(none, _), ⟨by rw [e]; rfl, ⟨_, _, _, _, _, rfl⟩⟩, rfl, h.sub (by repeat (first | exact TakeL.nil | (apply TakeL.cons; · repeat (first | exact Take1.head | apply Take1.tail))))⟩
              | some a =>
                have e : bN (nds ps) m x.d = some ⟨5, 0, [a]⟩ := hbn
                refine retC2 (.inr rfl) Try.results28 ag38 rfl rfl (by repeat (first | exact Take1.head | apply Take1.tail)) rfl fun w' h => ⟨(some ⟨⟨5, 0, [a]⟩, some ⟨b104, 0, none⟩, 1⟩, [.int .u8 0, .int .u64 0, .slice none 0 0]), ⟨by rw [e]; rfl, ⟨_, _, _, _, _, rfl⟩⟩, by rw [show decide (0 ≤ plI (some a)) = true from decide_eq_true (by show (0 : Int) ≤ (a : Int); omega)]; rfl, ?_⟩
                exact (((h.blkOwn (b := b104) (size := 1) (n := 1) (by repeat (first | exact Take1.head | apply Take1.tail)) (by unfold maxLen; omega) rfl).readOnly .head).sub (B := [pnR ⟨⟨5, 0, [a]⟩, some ⟨b104, 0, none⟩, 1⟩]) (.cons .head .nil))
            · refine WC.seq ?_
              refine WC.region ?_
              refine WL.y (Yl.eql rfl rfl) rfl ?_
              refine WL.y (Yl.assign rfl) rfl ?_
              refine WL.nil ?_
              refine WC.condD rfl (fun g108 => ?_) (fun g108 => ?_)
              · refine WC.seq ?_
                refine WC.seq ?_
                have h1 : x.d.k ≠ 1 := g37
                have h6 : x.d.k = 6 := g108
                have hbn : bN (nds ps) m x.d = sixN (nds ps) oa ob := by rw [bN_six h6, hoa, hob]
                refine WC.region ?_
                refine WL.y (Yl.move rfl) rfl ?_
                refine WL.y (Yl.lss rfl rfl) rfl ?_
                refine WL.y (Yl.move rfl) rfl ?_
                refine WL.both (t := 112) rfl (fun g112 => ?_) (fun g112 => ?_)
                · refine WL.off rfl rfl rfl rfl ?_
                  refine WL.off rfl rfl rfl rfl ?_
                  refine WL.y (Yl.pickT rfl rfl) rfl ?_
                  refine WL.y (Yl.move rfl) rfl ?_
                  refine WL.off rfl rfl rfl rfl ?_
                  refine WL.off rfl rfl rfl rfl ?_
                  refine WL.off rfl rfl rfl rfl ?_
                  refine WL.off rfl rfl rfl rfl ?_
                  refine WL.off rfl rfl rfl rfl ?_
                  refine WL.off rfl rfl rfl rfl ?_
                  refine WL.y (Yl.pickT rfl rfl) rfl ?_
                  refine WL.nil ?_
                  refine WC.condT rfl (by first | rfl | (simp; done) | (simp; omega)) ?_
                  refine WC.seq ?_
                  refine WC.region ?_
                  refine WL.y (Yl.build rfl (cs := [.int .u8 0, .int .u64 0, .slice none 0 0]) (fun _ => by kernel_rfl)) rfl ?_
                  refine WL.sto (Sto.agg sz38 rfl rfl (by repeat (first | exact Take1.head | apply Take1.tail)) (by intro v hv; simp at hv; rcases hv with rfl | rfl | rfl <;> rfl) rfl (by rfl) (show _ = [.int .u8 0, .int .u64 0, .slice none 0 0] from rfl)) (fun _ h => nomatch h) ?_
                  refine WL.y (Yl.assign rfl) rfl ?_
                  refine WL.nil ?_
                  refine WC.ret ?_
                  repeat (first | (with_reducible refine peelT ?_) | (with_reducible refine peelB ?_) | (with_reducible refine peelTX ?_) | (with_reducible refine peelBX ?_) | (with_reducible refine peelBN ?_) | (with_reducible refine peelBO rfl ?_))
                  have e : bN (nds ps) m x.d = none := by
                    rw [hbn, plI_none (o := oa) (by have := of_decide_eq_true g112; omega)]
                    rfl
                  exact retC2 (.inr rfl) Try.results28 ag38 rfl rfl (by repeat (first | exact Take1.head | apply Take1.tail)) rfl fun w' h => ⟨(none, _), ⟨by rw [e]; rfl, ⟨_, _, _, _, _, rfl⟩⟩, rfl, h.sub (by repeat (first | exact TakeL.nil | (apply TakeL.cons; · repeat (first | exact Take1.head | apply Take1.tail))))⟩
                · refine WL.on rfl rfl ?_
                  refine WL.y (Yl.move rfl) rfl ?_
                  refine WL.on rfl rfl ?_
                  refine WL.y (Yl.lss rfl rfl) rfl ?_
                  refine WL.y (Yl.pickF rfl rfl) rfl ?_
                  refine WL.y (Yl.move rfl) rfl ?_
                  refine WL.both (t := 116) rfl (fun g116 => ?_) (fun g116 => ?_)
                  · refine WL.off rfl rfl rfl rfl ?_
                    refine WL.off rfl rfl rfl rfl ?_
                    refine WL.off rfl rfl rfl rfl ?_
                    refine WL.off rfl rfl rfl rfl ?_
                    refine WL.off rfl rfl rfl rfl ?_
                    refine WL.off rfl rfl rfl rfl ?_
                    refine WL.y (Yl.pickT rfl rfl) rfl ?_
                    refine WL.nil ?_
                    refine WC.condT rfl (by first | rfl | (simp; done) | (simp; omega)) ?_
                    refine WC.seq ?_
                    refine WC.region ?_
                    refine WL.y (Yl.build rfl (cs := [.int .u8 0, .int .u64 0, .slice none 0 0]) (fun _ => by kernel_rfl)) rfl ?_
                    refine WL.sto (Sto.agg sz38 rfl rfl (by repeat (first | exact Take1.head | apply Take1.tail)) (by intro v hv; simp at hv; rcases hv with rfl | rfl | rfl <;> rfl) rfl (by rfl) (show _ = [.int .u8 0, .int .u64 0, .slice none 0 0] from rfl)) (fun _ h => nomatch h) ?_
                    refine WL.y (Yl.assign rfl) rfl ?_
                    refine WL.nil ?_
                    refine WC.ret ?_
                    repeat (first | (with_reducible refine peelT ?_) | (with_reducible refine peelB ?_) | (with_reducible refine peelTX ?_) | (with_reducible refine peelBX ?_) | (with_reducible refine peelBN ?_) | (with_reducible refine peelBO rfl ?_))
                    have e : bN (nds ps) m x.d = none := by
                      rw [hbn, plI_none (o := ob) (by have := of_decide_eq_true g116; omega), sixN_b]
                    exact retC2 (.inr rfl) Try.results28 ag38 rfl rfl (by repeat (first | exact Take1.head | apply Take1.tail)) rfl fun w' h => ⟨(none, _), ⟨by rw [e]; rfl, ⟨_, _, _, _, _, rfl⟩⟩, rfl, h.sub (by repeat (first | exact TakeL.nil | (apply TakeL.cons; · repeat (first | exact Take1.head | apply Take1.tail))))⟩
                  · refine WL.on rfl rfl ?_
                    refine WL.y (Yl.move rfl) rfl ?_
                    refine WL.on rfl rfl ?_
                    refine WL.y (Yl.move rfl) rfl ?_
                    refine WL.on rfl rfl ?_
                    obtain ⟨a, rfl⟩ := plI_some (o := oa) (by have := of_decide_eq_false g112; omega)
                    obtain ⟨b, rfl⟩ := plI_some (o := ob) (by have := of_decide_eq_false g116; omega)
                    have hbl : b < ps.length := by have := hm b (atO_mem hob); rwa [nds_len] at this
                    obtain ⟨z, hz⟩ : ∃ z, ps[b]? = some z := ⟨_, List.getElem?_eq_getElem hbl⟩
                    have hzm := List.mem_of_getElem? hz
                    have hnz := nds_get hz
                    have hzn := hP.nd b _ hnz
                    rw [sixN_some hnz] at hbn
                    refine WL.y (Yl.index un28 sz38 rfl rfl (Reads.s hp.rows) (j := b) rfl (by omega)) rfl ?_
                    refine WL.on rfl rfl ?_
                    refine WL.y (Yl.fieldE fo38_0 rfl vtPn pnAll (Reads.s hp.rows) hz) rfl ?_
                    refine WL.on rfl rfl ?_
                    refine WL.y (Yl.loadF on5 rfl vtPn pnAll (Reads.s hp.rows) hz (by rfl)) rfl ?_
                    refine WL.on rfl rfl ?_
                    refine WL.y (Yl.neq rfl rfl) rfl ?_
                    refine WL.y (Yl.pickF rfl rfl) rfl ?_
                    refine WL.nil ?_
                    refine WC.condD rfl (fun g123 => ?_) (fun g123 => ?_)
                    · refine WC.seq ?_
                      refine WC.region ?_
                      refine WL.y (Yl.build rfl (cs := [.int .u8 0, .int .u64 0, .slice none 0 0]) (fun _ => by kernel_rfl)) rfl ?_
                      refine WL.sto (Sto.agg sz38 rfl rfl (by repeat (first | exact Take1.head | apply Take1.tail)) (by intro v hv; simp at hv; rcases hv with rfl | rfl | rfl <;> rfl) rfl (by rfl) (show _ = [.int .u8 0, .int .u64 0, .slice none 0 0] from rfl)) (fun _ h => nomatch h) ?_
                      refine WL.y (Yl.assign rfl) rfl ?_
                      refine WL.nil ?_
                      refine WC.ret ?_
                      repeat (first | (with_reducible refine peelT ?_) | (with_reducible refine peelB ?_) | (with_reducible refine peelTX ?_) | (with_reducible refine peelBX ?_) | (with_reducible refine peelBN ?_) | (with_reducible refine peelBO rfl ?_))
                      have e : bN (nds ps) m x.d = none := by rw [hbn, if_neg g123]
                      exact retC2 (.inr rfl) Try.results28 ag38 rfl rfl (by repeat (first | exact Take1.head | apply Take1.tail)) rfl fun w' h => ⟨(none, _), ⟨by rw [e]; rfl, ⟨_, _, _, _, _, rfl⟩⟩, rfl, h.sub (by repeat (first | exact TakeL.nil | (apply TakeL.cons; · repeat (first | exact Take1.head | apply Take1.tail))))⟩
                    · refine WC.skip ?_
                      refine WC.seq ?_
                      have h5 : z.nd.k = 5 := by have := g123; omega
                      rw [if_pos h5] at hbn
                      obtain ⟨r, hr⟩ : ∃ r, z.nd.pt = [r] := by
                        have := hzn.s
                        unfold Nd.shp at this
                        have h7 : z.nd.pt.length = 1 := by omega
                        match hq : z.nd.pt, h7 with
                        | [r], _ => exact ⟨r, rfl⟩
                      have hr0 : z.nd.pt[0]? = some r := by rw [hr]; rfl
                      have hg0 : z.nd.pt.getD 0 0 = r := by rw [hr]; rfl
                      have hrl : z.nd.pt.length = 1 := by rw [hr]; rfl
                      rw [hg0] at hbn
                      refine WC.drawRead mixed (by kernel_rfl) ?_
                      refine WH.y (Yl.move rfl) rfl ?_
                      refine WH.y (Yl.move rfl) rfl ?_
                      refine WH.y (Yl.move rfl) rfl ?_
                      refine WH.y (Yl.index un28 sz38 rfl rfl (Reads.s hp.rows) rfl (by omega)) rfl ?_
                      refine WH.y (Yl.fieldE fo38_2 rfl vtPn pnAll (Reads.s hp.rows) hz) rfl ?_
                      refine WH.y (Yl.loadF on29 rfl vtPn pnAll (Reads.s hp.rows) hz (by rfl)) rfl ?_
                      refine WH.y (Yl.index (j := 0) un29 sz3 rfl rfl (Reads.s (hp.pts z hzm)) rfl (by omega)) rfl ?_
                      refine WH.y (Yl.loadE (j := 0) on3 rfl (Reads.s (hp.pts z hzm)) (iN_cell hr0)) rfl ?_
                      refine WH.y (Yl.assign rfl) rfl ?_
                      refine WH.y (Yl.assign rfl) rfl ?_
                      refine WH.nil ?_
                      refine WC.seq ?_
                      refine WC.seq ?_
                      refine WC.region ?_
                      refine WL.y (Yl.move rfl) rfl ?_
                      refine WL.y (Yl.move rfl) rfl ?_
                      refine WL.y (Yl.gtr rfl rfl) rfl ?_
                      refine WL.nil ?_
                      refine WC.condD rfl (fun g135 => ?_) (fun g135 => ?_)
                      · refine WC.region ?_
                        refine WL.y (Yl.move rfl) rfl ?_
                        refine WL.y (Yl.move rfl) rfl ?_
                        refine WL.y (Yl.assign rfl) rfl ?_
                        refine WL.y (Yl.assign rfl) rfl ?_
                        refine WL.nil ?_
                        refine WC.seq ?_
                        refine WC.region ?_
                        refine WL.y (Yl.move rfl) rfl ?_
                        refine WL.y (Yl.move rfl) rfl ?_
                        refine WL.to (To.buildSlice (vs := [.int .i64 (r : Int), .int .i64 (a : Int)]) un29 zs3 rfl rfl (by simp [Value.cells]) (by decide) (by decide)) rfl ?_
                        intro b140
                        refine WL.y (Yl.build rfl (cs := [.int .u8 6, .int .u64 0, .slice (some ⟨b140, 0, none⟩) 2 2]) (fun _ => by kernel_rfl)) rfl ?_
                        refine WL.sto (Sto.agg sz38 rfl rfl (by repeat (first | exact Take1.head | apply Take1.tail)) (by intro v hv; simp at hv; rcases hv with rfl | rfl | rfl <;> rfl) rfl (by rfl) (show _ = [.int .u8 6, .int .u64 0, .slice (some ⟨b140, 0, none⟩) 2 2] from rfl)) (fun _ h => nomatch h) ?_
                        refine WL.y (Yl.assign rfl) rfl ?_
                        refine WL.nil ?_
                        refine WC.ret ?_
                        repeat (first | (with_reducible refine peelT ?_) | (with_reducible refine peelB ?_) | (with_reducible refine peelTX ?_) | (with_reducible refine peelBX ?_) | (with_reducible refine peelBN ?_) | (with_reducible refine peelBO rfl ?_))
                        have e : bN (nds ps) m x.d = some ⟨6, 0, [r, a]⟩ := by rw [hbn]; unfold srt2; rw [if_pos (by have : (r : Int) < (a : Int) := g135; omega)]
                        refine retC2 (.inr rfl) Try.results28 ag38 rfl rfl (by repeat (first | exact Take1.head | apply Take1.tail)) rfl fun w' h => ⟨(some ⟨⟨6, 0, [r, a]⟩, some ⟨b140, 0, none⟩, 2⟩, [.int .u8 0, .int .u64 0, .slice none 0 0]), ⟨by rw [e]; rfl, ⟨_, _, _, _, _, rfl⟩⟩, rfl, ?_⟩
                        exact (((h.blkOwn (b := b140) (size := 1) (n := 2) (by repeat (first | exact Take1.head | apply Take1.tail)) (by unfold maxLen; omega) rfl).readOnly .head).sub (B := [pnR ⟨⟨6, 0, [r, a]⟩, some ⟨b140, 0, none⟩, 2⟩]) (.cons .head .nil))
                      · refine WC.skip ?_
                        refine WC.seq ?_
                        refine WC.region ?_
                        refine WL.y (Yl.move rfl) rfl ?_
                        refine WL.y (Yl.move rfl) rfl ?_
                        refine WL.to (To.buildSlice (vs := [.int .i64 (a : Int), .int .i64 (r : Int)]) un29 zs3 rfl rfl (by simp [Value.cells]) (by decide) (by decide)) rfl ?_
                        intro b140
                        refine WL.y (Yl.build rfl (cs := [.int .u8 6, .int .u64 0, .slice (some ⟨b140, 0, none⟩) 2 2]) (fun _ => by kernel_rfl)) rfl ?_
                        refine WL.sto (Sto.agg sz38 rfl rfl (by repeat (first | exact Take1.head | apply Take1.tail)) (by intro v hv; simp at hv; rcases hv with rfl | rfl | rfl <;> rfl) rfl (by rfl) (show _ = [.int .u8 6, .int .u64 0, .slice (some ⟨b140, 0, none⟩) 2 2] from rfl)) (fun _ h => nomatch h) ?_
                        refine WL.y (Yl.assign rfl) rfl ?_
                        refine WL.nil ?_
                        refine WC.ret ?_
                        repeat (first | (with_reducible refine peelT ?_) | (with_reducible refine peelB ?_) | (with_reducible refine peelTX ?_) | (with_reducible refine peelBX ?_) | (with_reducible refine peelBN ?_) | (with_reducible refine peelBO rfl ?_))
                        have e : bN (nds ps) m x.d = some ⟨6, 0, [a, r]⟩ := by rw [hbn]; unfold srt2; rw [if_neg (by have : ¬ (r : Int) < (a : Int) := g135; omega)]
                        refine retC2 (.inr rfl) Try.results28 ag38 rfl rfl (by repeat (first | exact Take1.head | apply Take1.tail)) rfl fun w' h => ⟨(some ⟨⟨6, 0, [a, r]⟩, some ⟨b140, 0, none⟩, 2⟩, [.int .u8 0, .int .u64 0, .slice none 0 0]), ⟨by rw [e]; rfl, ⟨_, _, _, _, _, rfl⟩⟩, rfl, ?_⟩
                        exact (((h.blkOwn (b := b140) (size := 1) (n := 2) (by repeat (first | exact Take1.head | apply Take1.tail)) (by unfold maxLen; omega) rfl).readOnly .head).sub (B := [pnR ⟨⟨6, 0, [a, r]⟩, some ⟨b140, 0, none⟩, 2⟩]) (.cons .head .nil))
              · refine WC.skip ?_
                refine WC.seq ?_
                refine WC.region ?_
                refine WL.y (Yl.build rfl (cs := [.int .u8 0, .int .u64 0, .slice none 0 0]) (fun _ => by kernel_rfl)) rfl ?_
                refine WL.sto (Sto.agg sz38 rfl rfl (by repeat (first | exact Take1.head | apply Take1.tail)) (by intro v hv; simp at hv; rcases hv with rfl | rfl | rfl <;> rfl) rfl (by rfl) (show _ = [.int .u8 0, .int .u64 0, .slice none 0 0] from rfl)) (fun _ h => nomatch h) ?_
                refine WL.y (Yl.assign rfl) rfl ?_
                refine WL.nil ?_
                refine WC.ret ?_
                repeat (first | (with_reducible refine peelT ?_) | (with_reducible refine peelB ?_) | (with_reducible refine peelTX ?_) | (with_reducible refine peelBX ?_) | (with_reducible refine peelBN ?_) | (with_reducible refine peelBO rfl ?_))
                have h1 : x.d.k ≠ 1 := g37
                have e : bN (nds ps) m x.d = none := by unfold bN; rw [if_neg h1, if_neg (by omega), if_neg (by omega), if_neg (by omega), if_neg (by omega)]
                exact retC2 (.inr rfl) Try.results28 ag38 rfl rfl (by repeat (first | exact Take1.head | apply Take1.tail)) rfl fun w' h => ⟨(none, _), ⟨by rw [e]; rfl, ⟨_, _, _, _, _, rfl⟩⟩, rfl, h.sub (by repeat (first | exact TakeL.nil | (apply TakeL.cons; · repeat (first | exact Take1.head | apply Take1.tail))))⟩
end Go.Proofs.Ytifhkjcimhhaiaa

namespace Go.Proofs.Ytifhkjcimhhaiaa
open Go Go.RowKit
structure PyS where
  ps : List Pn
  y : Option Addr × Nat
  m : List (Option Nat)
  z : Option Addr × Nat
def pyR (s : PyS) : List Res := [ownR (.slice s.y.1 s.ps.length s.y.2) 38 3 s.ps.length (vcs pnV s.ps), bunR (pnL s.ps), ownR (.slice s.z.1 s.m.length s.z.2) 3 1 s.m.length (ints .i64 (mdI s.m))]
theorem OK.bun0 {w0 : World} {S : Pm} {F : List Res} {w : World} (h : OK w0 S F w) : OK w0 S (bunR [] :: F) w := OK.bun (A := []) h
set_option maxRecDepth 100000 in
theorem rplay_any (l : List Dn) (v : Value) (hl : l.length ≤ 10000000) (hd : ∀ x ∈ l, x.d.ok) (w : World) (hx : DnS w (fpL []) v l) (hw : OK w (fpL []) [] w) :
    Fn Try.prog 9 [v] [] w (fun s : PyS => nds s.ps = (playR (dts l)).1 ∧ s.m = (playR (dts l)).2) (fun s => .tuple #[.slice s.y.1 s.ps.length s.y.2, .slice s.z.1 s.m.length s.z.2]) pyR := by
  obtain ⟨al, cl, rfl, hcl, hml⟩ := hx.rows.rd.form
  have hdt : ∀ d ∈ dts l, d.ok := fun d hq => by obtain ⟨x, hx, rfl⟩ := List.mem_map.1 hq; exact hd x hx
  refine enterF Try.func9 rfl Try.ntmps9 rfl hw ?_
  refine WC.seq ?_
  refine WC.region ?_
  refine WL.y (Yl.assign rfl) rfl ?_
  refine WL.y (Yl.assign rfl) rfl ?_
  refine WL.nil ?_
  refine WC.seq ?_
  refine WC.region ?_
  refine WL.y (Yl.assign rfl) rfl ?_
  refine WL.nil ?_
  refine WC.seq ?_
  refine WC.region ?_
  refine WL.y (Yl.assign rfl) rfl ?_
  refine WL.nil ?_
  refine WC.seq ?_
  refine WC.seq ?_
  refine WC.region ?_
  refine WL.y (Yl.assign rfl) rfl ?_
  refine WL.nil ?_
  refine WC.block ?_
  refine WC.view (fun w h => (h.addNil 3 1)) ?_
  refine WC.view (fun w h => h.bun0) ?_
  refine WC.view (fun w h => (h.addNil 38 3)) ?_
  refine WC.loop (α := Nat × PyS) (fun s => [(0, .slice al l.length cl), (4, .slice s.2.y.1 s.2.ps.length s.2.y.2), (5, .slice s.2.z.1 s.2.m.length s.2.z.2), (6, .int .i64 (s.1 : Int))]) (fun s => pyR s.2) (fun s => s.1 ≤ l.length ∧ nds s.2.ps = (playR ((dts l).take s.1)).1 ∧ s.2.m = (playR ((dts l).take s.1)).2) (fun s => l.length - s.1) (0, ⟨[], (none, 0), [], (none, 0)⟩) ⟨Nat.zero_le _, rfl, rfl⟩ ⟨(by repeat (first | exact Sub.nil | refine Sub.cons rfl ?_)), _, (by repeat (first | exact TakeL.nil | (apply TakeL.cons; · repeat (first | exact Take1.head | apply Take1.tail))))⟩ ?_
  rintro ⟨i, ps, y, m, z⟩ ⟨hi, hp, hm⟩
  dsimp only [pyR] at hi hp hm ⊢
  have hrel := play_rel ((dts l).take i) (fun d hq => hdt d (List.mem_of_mem_take hq))
  have hlen := playR_len ((dts l).take i)
  rw [← hp, ← hm, List.length_take, dts_len, nds_len] at hlen
  have hrp := hrel.p
  have hrm := hrel.m
  rw [← hp] at hrp hrm
  rw [← hm] at hrm
  refine WC.seq ?_
  refine WC.seq ?_
  refine WC.region ?_
  refine WL.y (Yl.move rfl) rfl ?_
  refine WL.y (Yl.move rfl) rfl ?_
  refine WL.y (Yl.len un22 rfl) rfl ?_
  refine WL.y (Yl.lss rfl rfl) rfl ?_
  refine WL.nil ?_
  refine WC.condD rfl (fun g13 => ?_) (fun g13 => ?_)
  · refine WC.skip ?_
    refine WC.seq ?_
    refine WC.block ?_
    refine WC.seq ?_
    have hil : i < l.length := by have := g13; omega
    obtain ⟨x, hx0⟩ : ∃ x, l[i]? = some x := ⟨_, List.getElem?_eq_getElem hil⟩
    have hxm := List.mem_of_getElem? hx0
    have hnx := playR_take (dts_get hx0)
    have hxd := hd x hxm
    refine WC.region ?_
    refine WL.y (Yl.move rfl) rfl ?_
    refine WL.y (Yl.move rfl) rfl ?_
    refine WL.y (Yl.move rfl) rfl ?_
    refine WL.y (Yl.index un22 sz49 rfl rfl (Reads.s hx.rows) rfl (by omega)) rfl ?_
    refine WL.y (Yl.loadV vtDn dnAll rfl (Reads.s hx.rows) rfl hx0) rfl ?_
    refine WL.y (Yl.move rfl) rfl ?_
    refine WL.callC (xs := [.tmp 17, .tmp 21, .tmp 22]) (cap := []) rfl rfl en28 (by repeat (first | exact TakeL.nil | (apply TakeL.cons; · repeat (first | exact Take1.head | apply Take1.tail)))) (fun w hw => bld_any ps m x _ _ (by omega) hrm (by omega) hrp hxd w (hw.srcL (A := []) (r := ownR (.slice y.1 ps.length y.2) 38 3 ps.length (vcs pnV ps)) RdOf.own (by repeat (first | exact Take1.head | apply Take1.tail)) (by repeat (first | exact Take1.head | apply Take1.tail))) (hw.src (A := []) (r := ownR (.slice z.1 m.length z.2) 3 1 m.length (ints .i64 (mdI m))) RdOf.own (by repeat (first | exact Take1.head | apply Take1.tail))) (hw.srcS (A := []) (hx.ls x hxm)) hw.left.here) rfl ?_
    rintro r hb
    obtain ⟨r1, r2⟩ := r
    have hbl := blC_len hb
    have hbo := blC_ones hb
    refine WL.y (Yl.move rfl) rfl ?_
    refine WL.y (Yl.extract rfl rfl) rfl ?_
    refine WL.say (t := 24) (v' := .agg (blC (r1, r2)).toArray) rfl (by rfl) ?_
    refine WL.y (Yl.extract rfl rfl) rfl ?_
    refine WL.say (t := 25) (v' := .bool r1.isSome) rfl (by rfl) ?_
    refine WL.to (To.alloc (cs := [.int .u8 0, .int .u64 0, .slice none 0 0]) zr38 rfl) rfl ?_
    intro b7
    refine WL.sto (Sto.agg sz38 rfl rfl (by repeat (first | exact Take1.head | apply Take1.tail)) hbo (by exact hbl) (by rfl) (show _ = blC (r1, r2) from by simp [hbl])) (fun _ h => nomatch h) ?_
    refine WL.y (Yl.assign rfl) rfl ?_
    refine WL.nil ?_
    refine WC.seq ?_
    refine WC.region ?_
    refine WL.y (Yl.assign rfl) rfl ?_
    refine WL.nil ?_
    refine WC.midX (α := List Pn × (Option Addr × Nat) × Option Nat) (fun q => [(0, .slice al l.length cl), (4, .slice q.2.1.1 q.1.length q.2.1.2), (5, .slice z.1 m.length z.2), (6, .int .i64 (i : Int)), (9, .int .i64 (plI q.2.2))]) (fun q => [ownR (.slice q.2.1.1 q.1.length q.2.1.2) 38 3 q.1.length (vcs pnV q.1), bunR (pnL q.1), ownR (.slice z.1 m.length z.2) 3 1 m.length (ints .i64 (mdI m))]) (fun q => playR ((dts l).take (i + 1)) = (nds q.1, m ++ [q.2.2])) ?_ ?_
    · refine WC.seq ?_
      refine WC.region ?_
      refine WL.y (Yl.move rfl) rfl ?_
      refine WL.nil ?_
      refine WC.cond rfl (fun g26 => ?_) (fun g26 => ?_)
      · obtain ⟨p, rfl⟩ := Option.isSome_iff_exists.1 g26
        have hbn : bN (nds ps) m x.d = some p.nd := hb.is.symm
        dsimp only [blR, blC, List.cons_append, List.nil_append]
        have hpl := shp_ptl (bN_ok hxd hrp hrm hbn).s
        rw [show playR ((dts l).take i) = (nds ps, m) from Prod.ext hp.symm hm.symm, stepR_some hbn, put_is] at hnx
        refine WC.region ?_
        refine WL.y (Yl.move rfl) rfl ?_
        refine WL.y (Yl.loadN ag38 rfl (by repeat (first | exact Take1.head | apply Take1.tail)) (by rfl) (show _ = p.cells from rfl)) rfl ?_
        refine WL.callC (xs := [.tmp 28, .tmp 29]) (cap := []) rfl rfl en29 (by repeat (first | exact TakeL.nil | (apply TakeL.cons; · repeat (first | exact Take1.head | apply Take1.tail)))) (fun w hw => put_any ps p y.1 y.2 (by omega) (by omega) w hw.left.here) rfl ?_
        rintro y30 -
        refine WL.y (Yl.move rfl) rfl ?_
        refine WL.y (Yl.extract rfl rfl) rfl ?_
        refine WL.say (t := 31) (v' := .slice y30.1 (putPs ps p).length y30.2) rfl (by rfl) ?_
        refine WL.y (Yl.extract rfl rfl) rfl ?_
        refine WL.say (t := 32) (v' := .int .i64 (putAt ps p : Int)) rfl (by rfl) ?_
        refine WL.y (Yl.assign rfl) rfl ?_
        refine WL.y (Yl.assign rfl) rfl ?_
        refine WL.nil ?_
        exact ⟨rfl, (putPs ps p, y30, some (putAt ps p)), hnx, (by repeat (first | exact Sub.nil | refine Sub.cons rfl ?_)), _, (by repeat (first | exact TakeL.nil | (apply TakeL.cons; · repeat (first | exact Take1.head | apply Take1.tail))))⟩
      · refine WC.skip ?_
        obtain rfl : r1 = none := by cases r1 with | none => rfl | some p => cases g26
        have hbn : bN (nds ps) m x.d = none := hb.is.symm
        dsimp only [blR, blC, List.cons_append, List.nil_append]
        rw [show playR ((dts l).take i) = (nds ps, m) from Prod.ext hp.symm hm.symm, stepR_none hbn] at hnx
        exact ⟨rfl, (ps, y, none), hnx, (by repeat (first | exact Sub.nil | refine Sub.cons rfl ?_)), _, (by repeat (first | exact TakeL.nil | (apply TakeL.cons; · repeat (first | exact Take1.head | apply Take1.tail))))⟩
    · rintro ⟨ps2, y2, o⟩ hq
      dsimp only at hq ⊢
      refine WC.region ?_
      refine WL.y (Yl.move rfl) rfl ?_
      refine WL.y (Yl.move rfl) rfl ?_
      refine WL.to (To.buildSlice (vs := [.int .i64 (plI o)]) un29 zs3 rfl rfl (by simp [Value.cells]) (by decide) (by decide)) rfl ?_
      intro b35
      refine WL.to (To.append sl29 rfl rfl (by repeat (first | exact Take1.head | apply Take1.tail)) (Reads.of (RdOf.blk (size := 1) (n := 1) (cs := ints .i64 [plI o]) (cs' := ints .i64 [plI o]) (Nat.le_refl _) (by unfold maxLen; omega) (by simp [ints]) rfl) (by repeat (first | exact Take1.head | apply Take1.tail))) (ints_one _ _) (show m.length + 1 = (m ++ [o]).length by simp) (show ints .i64 (mdI m) ++ ints .i64 [plI o] = ints .i64 (mdI (m ++ [o])) by rw [mdI_app, ints_append]) (by simp; unfold maxLen; omega) (by simp; omega)) rfl ?_
      rintro ⟨⟨ao36, c36⟩, hc36⟩
      dsimp only at hc36 ⊢
      refine WL.y (Yl.assign rfl) rfl ?_
      refine WL.nil ?_
      refine WC.region ?_
      refine WL.y (Yl.move rfl) rfl ?_
      refine WL.y (Yl.add rfl rfl (IntWalk.i64_in _ (by omega))) rfl ?_
      refine WL.y (Yl.assign rfl) rfl ?_
      refine WL.nil ?_
      exact ⟨rfl, (i + 1, ⟨ps2, y2, m ++ [o], (ao36, c36)⟩), ⟨by dsimp only; omega, by rw [hq], by rw [hq]⟩, by dsimp only; omega, (by repeat (first | exact Sub.nil | refine Sub.cons rfl ?_)), _, (by repeat (first | exact TakeL.nil | (apply TakeL.cons; · repeat (first | exact Take1.head | apply Take1.tail))))⟩
  · refine WC.exit ?_
    refine WC.seq ?_
    refine WC.region ?_
    refine WL.y (Yl.move rfl) rfl ?_
    refine WL.y (Yl.move rfl) rfl ?_
    refine WL.y (Yl.assign rfl) rfl ?_
    refine WL.y (Yl.assign rfl) rfl ?_
    refine WL.nil ?_
    refine WC.ret ?_
    repeat (first | (with_reducible refine peelT ?_) | (with_reducible refine peelB ?_) | (with_reducible refine peelTX ?_) | (with_reducible refine peelBX ?_) | (with_reducible refine peelBN ?_) | (with_reducible refine peelBO rfl ?_))
    have hil : i = l.length := by have := g13; omega
    rw [hil, ← dts_len, List.take_length] at hp hm
    exact ret2 (.inr rfl) Try.results9 rfl rfl fun w' h => ⟨⟨ps, y, m, z⟩, ⟨hp, hm⟩, rfl, h.sub (by repeat (first | exact TakeL.nil | (apply TakeL.cons; · repeat (first | exact Take1.head | apply Take1.tail))))⟩
end Go.Proofs.Ytifhkjcimhhaiaa
