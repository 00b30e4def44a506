/- DiskPlays: the walk. -/
import Derived.Test.YtjlgmaappebppaaDiskI
namespace Go.Proofs.Ytjlgmaappebppaa
open Go Go.RowKit

section
variable {c : Cx} {env : Env} {ds : List Deferred} {H F F2 : List Res} {dst : Option Tmp} {ty : TypeId} {pos : String} {af : Array Edge} {g : Option (Nat × Bool)}
/-- Bytes behind an empty slice that is owned. -/
theorem app0 {s x : Operand} {b : Nat} {a : Option Addr} {cc : Nat} {xs : List Int} (hP : c.P = Try.prog) (hs : ev env s = some (.slice (some ⟨b, 0, none⟩) 0 0)) (hx : ev env x = some (.slice a xs.length cc)) (tk : Take1 H (ownR (.slice (some ⟨b, 0, none⟩) 0 0) 5 1 0 []) F) (t2 : Take1 H (rdR (.slice a xs.length cc) 1 xs.length (ints .u8 xs)) F2) (hl : xs.length ≤ 1000000) :
    To c env ds H ⟨dst, .call { callee := .builtin .append, args := #[s, x], argTypes := #[22, 22] }, ty, pos, af, g⟩ (fun p : { p : Option Addr × Nat // xs.length ≤ p.2 } => .slice p.1.1 xs.length p.1.2) (fun p => ownR (.slice p.1.1 xs.length p.1.2) 5 1 xs.length (ints .u8 xs) :: F) :=
  To.append (hP ▸ sl22) hs hx tk (Reads.of RdOf.rd' t2) (ints_one _ _) (Nat.zero_add _) (List.nil_append _) (by unfold maxLen; omega) (by omega)
theorem sto0 {x z : Operand} {b : Nat} {a : Option Addr} {n cc : Nat} (hP : c.P = Try.prog) (hx : ev env x = some (.pointer (some ⟨b, 0, none⟩))) (hy : ev env z = some (.slice a n cc)) (tk : Take1 H (blkR b 22 [.slice none 0 0]) F) : Sto c env ds H ⟨dst, .store 22 x z, ty, pos, af, g⟩ (blkR b 22 [.slice a n cc] :: F) :=
  Sto.one (hP ▸ sz22) hx hy tk rfl (by rfl) (by rfl)
theorem ro0 {ops : Array Oper} {Hs : List Res} {Q : SQ} {fuel : Nat} {listed : Array Bool} {v u : Value} {e n m : Nat} {cs zs : List Value} (t : Take1 H (ownR v e 1 n cs) F) (t2 : Take1 F (ownR u e 1 m zs) F2) (k : WD c ops Hs Q fuel listed env ds (rdR u 1 m zs :: rdR v 1 n cs :: F2)) : WD c ops Hs Q fuel listed env ds H :=
  WD.view (fun w h => OK.readOnly (OK.readOnly h t) (.tail t2)) k
end
/-- What a call makes of the slots. -/
def stX (f : Dw) (x y : List Int) : List Int := if f.kind = 0 then wrX x y f.b f.torn else if f.kind = 1 then spX x y f.slot f.at' f.wv else x
def stY (f : Dw) (x y : List Int) : List Int := if f.kind = 0 then wrY x y f.b f.torn else if f.kind = 1 then spY x y f.slot f.at' f.wv else y
theorem st_by {f : Dw} {x y : List Int} (hx : Bytes x) (hy : Bytes y) (hf : f.ok) : Bytes (stX f x y) ∧ Bytes (stY f x y) := by
  unfold stX stY
  have h1 := wrX_by (torn := f.torn) hx hy hf.b
  have h2 := sp_by (s := f.slot) (a := f.at') (b := f.wv) hx hy
  constructor
  · split
    · exact h1.1
    · split
      · exact h2.1
      · exact hx
  · split
    · exact h1.2
    · split
      · exact h2.2
      · exact hy
theorem st_len {f : Dw} {x y : List Int} (hx : x.length ≤ 5000) (hy : y.length ≤ 5000) (hf : f.b.length ≤ 4000) : (stX f x y).length ≤ 5000 ∧ (stY f x y).length ≤ 5000 := by
  unfold stX stY
  have h1 := wr_len (b := f.b) (torn := f.torn) hx hy (by omega)
  constructor
  · split
    · exact h1.1
    · split
      · rw [spX_len]; exact hx
      · exact hx
  · split
    · exact h1.2
    · split
      · rw [spY_len]; exact hy
      · exact hy
theorem spOk_iff {x y : List Int} {s a : Int} : spOk x y s a = true ↔ (0 ≤ s ∧ s ≤ 1) ∧ (0 ≤ a ∧ a < ((if s = 1 then y else x).length : Int)) := by
  unfold spOk
  rw [Bool.and_eq_true, decide_eq_true_eq, decide_eq_true_eq]
theorem spOk_not {x y : List Int} {s a : Int} (h : ¬ ((0 ≤ s ∧ s ≤ 1) ∧ (0 ≤ a ∧ a < ((if s = 1 then y else x).length : Int)))) : spOk x y s a = false := by
  rw [← Bool.not_eq_true, spOk_iff]; exact h
theorem at_code {x y : List Int} : ((decide (rdE x y = 0)) == decide (0 ≤ nwS x y)) = true ∧ (nwS x y < 0 → rdE x y = 4) := by
  unfold rdE
  by_cases h : nwS x y < 0
  · rw [if_pos h, decide_eq_false (show ¬ 0 ≤ nwS x y by omega)]; exact ⟨rfl, fun _ => rfl⟩
  · rw [if_neg h, decide_eq_true (show 0 ≤ nwS x y by omega)]; exact ⟨rfl, fun h2 => absurd h2 h⟩

abbrev gR (fs : List Dw) (v : Value) (b6 b7 : Nat) (x y : List Int) (z : Nat × (Option Addr × Nat) × (Option Addr × Nat) × (Option Addr × Nat) × (Option Addr × Nat)) : List Res :=
  [blkR z.1 49 [.slice z.2.1.1 x.length z.2.1.2, .slice z.2.2.1.1 y.length z.2.2.1.2], rdR (.slice z.2.1.1 x.length z.2.1.2) 1 x.length (ints .u8 x), rdR (.slice z.2.2.1.1 y.length z.2.2.1.2) 1 y.length (ints .u8 y),
    blkR b6 22 [.slice z.2.2.2.1.1 x.length z.2.2.2.1.2], blkR b7 22 [.slice z.2.2.2.2.1 y.length z.2.2.2.2.2], rdR (.slice z.2.2.2.1.1 x.length z.2.2.2.1.2) 1 x.length (ints .u8 x), rdR (.slice z.2.2.2.2.1 y.length z.2.2.2.2.2) 1 y.length (ints .u8 y), dwR v fs]

set_option maxHeartbeats 3200000 in
set_option maxRecDepth 100000 in
theorem diskPlays_any (fs : List Dw) (v v0 v1 : Value) (x y : List Int) (hok : ∀ f ∈ fs, f.ok) (hsz : ∀ f ∈ fs, f.b.length ≤ 140737488355328) (hX : Bytes x) (hY : Bytes y) (hxl : x.length ≤ 140737488355328) (hyl : y.length ≤ 140737488355328) (w : World)
    (hw : OK w (fpL [rdR v0 1 x.length (ints .u8 x), rdR v1 1 y.length (ints .u8 y), dwR v fs]) [rdR v0 1 x.length (ints .u8 x), rdR v1 1 y.length (ints .u8 y), dwR v fs] w) :
    Fn Try.prog 3 [.agg [v0, v1].toArray, v] [rdR v0 1 x.length (ints .u8 x), rdR v1 1 y.length (ints .u8 y), dwR v fs] w (fun _ : Unit => True) (fun _ => .bool true) (fun _ => []) := by
  have hD := dwR_of v fs
  obtain ⟨al, cl, rfl, hcl, hml⟩ := (hD.rows.rd w (hw.get (.tail (.tail .head)))).form
  obtain ⟨a0, c0, rfl, hc0, hm0⟩ := (hw.get (r := rdR v0 1 x.length (ints .u8 x)) .head : Rd _ _ _ _ _).form
  obtain ⟨a1, c1, rfl, hc1, hm1⟩ := (hw.get (r := rdR v1 1 y.length (ints .u8 y)) (.tail .head) : Rd _ _ _ _ _).form
  have hml2 := hml
  unfold maxLen at hml2
  refine enterF Try.func3 rfl Try.ntmps3 rfl hw ?_
  refine WC.seq ?_
  refine WC.region ?_
  refine WL.to (To.box (cs := [.slice a0 x.length c0, .slice a1 y.length c1]) rfl rfl) rfl ?_ -- t2
  intro b2
  refine WL.y (Yl.assign rfl) rfl ?_ -- t4
  refine WL.nil ?_
  refine WC.seq ?_
  refine WC.seq ?_
  refine WC.region ?_
  refine WL.callC (xs := []) (cap := []) rfl rfl en4 (by repeat (first | exact TakeL.nil | (apply TakeL.cons; · repeat (first | exact Take1.head | apply Take1.tail)))) (fun w hw => dknown_any w hw.left.here) rfl ?_ -- t25 hailer/hailerlaw34.known
  rintro ⟨⟩ -
  refine WL.y (Yl.not rfl) rfl ?_ -- t26
  refine WL.nil ?_
  refine WC.condF rfl (by first | rfl | (simp; done) | (simp; omega)) ?_
  refine WC.skip ?_
  refine WC.seq ?_
  refine WC.seq ?_
  refine WC.region ?_
  refine WL.y (Yl.move rfl) rfl ?_ -- t27
  refine WL.y (Yl.loadN ag23 rfl (by repeat (first | exact Take1.head | apply Take1.tail)) (by rfl) (by rfl)) rfl ?_ -- t28
  refine WL.callC (xs := [.tmp 27, .tmp 28]) (cap := []) rfl rfl en5 (by repeat (first | exact TakeL.nil | (apply TakeL.cons; · repeat (first | exact Take1.head | apply Take1.tail)))) (fun w hw => heavy_any fs (.slice al fs.length cl) (.slice a0 x.length c0) (.slice a1 y.length c1) x y hsz hxl hyl w (hw.srcD (A := []) hD (by repeat (first | exact Take1.head | apply Take1.tail))) (hw.src (A := []) (r := rdR (.slice a0 x.length c0) 1 x.length (ints .u8 x)) RdOf.rd' (by repeat (first | exact Take1.head | apply Take1.tail))) (hw.src (A := []) (r := rdR (.slice a1 y.length c1) 1 y.length (ints .u8 y)) RdOf.rd' (by repeat (first | exact Take1.head | apply Take1.tail))) hw.left.here) rfl ?_ -- t29 hailer/hailerlaw34.heavy
  intro hv hhv
  refine WL.nil ?_
  refine WC.cond rfl (fun g29 => ?_) (fun g29 => ?_)
  · refine WC.seq ?_
    refine WC.region ?_
    refine WL.y (Yl.assign rfl) rfl ?_ -- t4
    refine WL.nil ?_
    refine WC.ret ?_
    repeat (first | (with_reducible refine peelT ?_) | (with_reducible refine peelB ?_) | (with_reducible refine peelTX ?_) | (with_reducible refine peelBX ?_) | (with_reducible refine peelBN ?_) | (with_reducible refine peelBO rfl ?_))
    exact ret1 (.inr rfl) Try.results3 rfl fun w' h => ⟨(), trivial, rfl, h.sub (by repeat (first | exact TakeL.nil | (apply TakeL.cons; · repeat (first | exact Take1.head | apply Take1.tail))))⟩
  · refine WC.skip ?_
    refine WC.seq ?_
    have htot := hhv g29
    refine WC.region ?_
    refine WL.y (Yl.loadN ag23 rfl (by repeat (first | exact Take1.head | apply Take1.tail)) (by rfl) (by rfl)) rfl ?_ -- t30
    refine WL.callC (xs := [.tmp 30]) (cap := []) rfl rfl en6 (by repeat (first | exact TakeL.nil | (apply TakeL.cons; · repeat (first | exact Take1.head | apply Take1.tail)))) (fun w hw => of_any (.slice a0 x.length c0) (.slice a1 y.length c1) x y (by omega) (by omega) w (hw.src (A := []) (r := rdR (.slice a0 x.length c0) 1 x.length (ints .u8 x)) RdOf.rd' (by repeat (first | exact Take1.head | apply Take1.tail))) (hw.src (A := []) (r := rdR (.slice a1 y.length c1) 1 y.length (ints .u8 y)) RdOf.rd' (by repeat (first | exact Take1.head | apply Take1.tail))) hw.left.here) rfl ?_ -- t31 hailer/disk.Of
    rintro ⟨bd, ⟨p0, q0⟩, ⟨p1, q1⟩⟩ -
    dsimp only [dskR, List.cons_append, List.nil_append]
    refine WL.y (Yl.assign rfl) rfl ?_ -- t5
    refine WL.nil ?_
    refine WC.midE (α := Nat × Nat × (Option Addr × Nat) × (Option Addr × Nat)) (fun z => [(6, .pointer (some ⟨z.1, 0, none⟩)), (7, .pointer (some ⟨z.2.1, 0, none⟩))]) (fun z => gR fs (.slice al fs.length cl) z.1 z.2.1 x y (bd, (p0, q0), (p1, q1), z.2.2.1, z.2.2.2)) (fun _ => True) ?_ ?_
    · refine WC.drawAny (Hs := [blkR b2 23 [.slice a0 x.length c0, .slice a1 y.length c1], rdR (.slice a0 x.length c0) 1 x.length (ints .u8 x), rdR (.slice a1 y.length c1) 1 y.length (ints .u8 y)]) mixed (by kernel_rfl) ⟨_, (by repeat (first | exact TakeL.nil | (apply TakeL.cons; · repeat (first | exact Take1.head | apply Take1.tail))))⟩ ?_
      refine WD.take 1 rfl (by kernel_rfl) (by kernel_rfl) (by kernel_rfl) rfl rfl (Yl.indexA (j := 0) un23 sz22 rfl rfl rfl (by omega)) rfl ?_ -- t33
      refine WD.take 2 rfl (by kernel_rfl) (by kernel_rfl) (by kernel_rfl) rfl rfl (Yl.load on22 rfl (by repeat (first | exact Take1.head | apply Take1.tail)) (by rfl)) rfl ?_ -- t34
      refine WD.take 5 rfl (by kernel_rfl) (by kernel_rfl) (by kernel_rfl) rfl rfl (Yl.indexA (j := 1) un23 sz22 rfl rfl rfl (by omega)) rfl ?_ -- t37
      refine WD.take 6 rfl (by kernel_rfl) (by kernel_rfl) (by kernel_rfl) rfl rfl (Yl.load on22 rfl (by repeat (first | exact Take1.head | apply Take1.tail)) (by rfl)) rfl ?_ -- t38
      refine WD.four 0 4 8 9 (by kernel_rfl) ?_ ?_ ?_ ?_
      · refine WO.to rfl rfl .no (To.buildSlice (vs := []) un22 zs5 rfl rfl (by simp [Value.cells]) (by decide) (by decide)) rfl (fun _ => ⟨_, (by repeat (first | exact TakeL.nil | (apply TakeL.cons; · repeat (first | exact Take1.head | apply Take1.tail))))⟩) ?_ -- t32
        intro b32
        refine WD.view (fun w h => h.blkOwn (b := b32) (size := 1) (n := 0) (by repeat (first | exact Take1.head | apply Take1.tail)) (by unfold maxLen; omega) rfl) ?_
        refine WD.four 3 4 8 9 (by kernel_rfl) ?_ ?_ ?_ ?_
        · refine WO.to rfl rfl .no (app0 (xs := x) rfl rfl rfl (by repeat (first | exact Take1.head | apply Take1.tail)) (by repeat (first | exact Take1.head | apply Take1.tail)) (by omega)) rfl (fun _ => ⟨_, (by repeat (first | exact TakeL.nil | (apply TakeL.cons; · repeat (first | exact Take1.head | apply Take1.tail))))⟩) ?_
          rintro ⟨⟨ao35, c35⟩, hc35⟩
          dsimp only at hc35 ⊢
          refine WD.three 4 8 9 (by kernel_rfl) ?_ ?_ ?_
          · refine WO.to rfl rfl .no (To.buildSlice (vs := []) un22 zs5 rfl rfl (by simp [Value.cells]) (by decide) (by decide)) rfl (fun _ => ⟨_, (by repeat (first | exact TakeL.nil | (apply TakeL.cons; · repeat (first | exact Take1.head | apply Take1.tail))))⟩) ?_ -- t36
            intro b36
            refine WD.view (fun w h => h.blkOwn (b := b36) (size := 1) (n := 0) (by repeat (first | exact Take1.head | apply Take1.tail)) (by unfold maxLen; omega) rfl) ?_
            refine WD.three 7 8 9 (by kernel_rfl) ?_ ?_ ?_
            · refine WO.to rfl rfl .no (app0 (xs := y) rfl rfl rfl (by repeat (first | exact Take1.head | apply Take1.tail)) (by repeat (first | exact Take1.head | apply Take1.tail)) (by omega)) rfl (fun _ => ⟨_, (by repeat (first | exact TakeL.nil | (apply TakeL.cons; · repeat (first | exact Take1.head | apply Take1.tail))))⟩) ?_
              rintro ⟨⟨ao39, c39⟩, hc39⟩
              dsimp only at hc39 ⊢
              refine WD.two 8 9 (by kernel_rfl) ?_ ?_
              · refine WO.to rfl rfl .no (To.alloc (cs := [.slice none 0 0]) zr22 rfl) rfl (fun _ => ⟨_, (by repeat (first | exact TakeL.nil | (apply TakeL.cons; · repeat (first | exact Take1.head | apply Take1.tail))))⟩) ?_ -- t6
                intro b6
                refine WD.one 9 (by kernel_rfl) ?_
                refine WO.to rfl rfl .no (To.alloc (cs := [.slice none 0 0]) zr22 rfl) rfl (fun _ => ⟨_, (by repeat (first | exact TakeL.nil | (apply TakeL.cons; · repeat (first | exact Take1.head | apply Take1.tail))))⟩) ?_ -- t7
                intro b7
                refine WD.one 10 (by kernel_rfl) ?_
                refine WO.sto rfl rfl .no (sto0 (b := b6) rfl rfl rfl (by repeat (first | exact Take1.head | apply Take1.tail))) ⟨_, (by repeat (first | exact TakeL.nil | (apply TakeL.cons; · repeat (first | exact Take1.head | apply Take1.tail))))⟩ ?_
                refine WD.one 11 (by kernel_rfl) ?_
                refine WO.sto rfl rfl .no (sto0 (b := b7) rfl rfl rfl (by repeat (first | exact Take1.head | apply Take1.tail))) ⟨_, (by repeat (first | exact TakeL.nil | (apply TakeL.cons; · repeat (first | exact Take1.head | apply Take1.tail))))⟩ ?_
                refine ro0 (by repeat (first | exact Take1.head | apply Take1.tail)) (by repeat (first | exact Take1.head | apply Take1.tail)) ?_
                refine WD.done (by kernel_rfl) ?_
                exact ⟨rfl, (b6, b7, (ao35, c35), (ao39, c39)), trivial, (by repeat (first | exact Sub.nil | refine Sub.cons rfl ?_)), (by repeat (first | exact Sub.nil | refine Sub.cons rfl ?_)), _, (by repeat (first | exact TakeL.nil | (apply TakeL.cons; · repeat (first | exact Take1.head | apply Take1.tail))))⟩
              · refine WO.to rfl rfl .no (To.alloc (cs := [.slice none 0 0]) zr22 rfl) rfl (fun _ => ⟨_, (by repeat (first | exact TakeL.nil | (apply TakeL.cons; · repeat (first | exact Take1.head | apply Take1.tail))))⟩) ?_ -- t7
                intro b7
                refine WD.one 8 (by kernel_rfl) ?_
                refine WO.to rfl rfl .no (To.alloc (cs := [.slice none 0 0]) zr22 rfl) rfl (fun _ => ⟨_, (by repeat (first | exact TakeL.nil | (apply TakeL.cons; · repeat (first | exact Take1.head | apply Take1.tail))))⟩) ?_ -- t6
                intro b6
                refine WD.one 10 (by kernel_rfl) ?_
                refine WO.sto rfl rfl .no (sto0 (b := b6) rfl rfl rfl (by repeat (first | exact Take1.head | apply Take1.tail))) ⟨_, (by repeat (first | exact TakeL.nil | (apply TakeL.cons; · repeat (first | exact Take1.head | apply Take1.tail))))⟩ ?_
                refine WD.one 11 (by kernel_rfl) ?_
                refine WO.sto rfl rfl .no (sto0 (b := b7) rfl rfl rfl (by repeat (first | exact Take1.head | apply Take1.tail))) ⟨_, (by repeat (first | exact TakeL.nil | (apply TakeL.cons; · repeat (first | exact Take1.head | apply Take1.tail))))⟩ ?_
                refine ro0 (by repeat (first | exact Take1.head | apply Take1.tail)) (by repeat (first | exact Take1.head | apply Take1.tail)) ?_
                refine WD.done (by kernel_rfl) ?_
                exact ⟨rfl, (b6, b7, (ao35, c35), (ao39, c39)), trivial, (by repeat (first | exact Sub.nil | refine Sub.cons rfl ?_)), (by repeat (first | exact Sub.nil | refine Sub.cons rfl ?_)), _, (by repeat (first | exact TakeL.nil | (apply TakeL.cons; · repeat (first | exact Take1.head | apply Take1.tail))))⟩
            · refine WO.to rfl rfl .no (To.alloc (cs := [.slice none 0 0]) zr22 rfl) rfl (fun _ => ⟨_, (by repeat (first | exact TakeL.nil | (apply TakeL.cons; · repeat (first | exact Take1.head | apply Take1.tail))))⟩) ?_ -- t6
              intro b6
              refine WD.two 7 9 (by kernel_rfl) ?_ ?_
              · refine WO.to rfl rfl .no (app0 (xs := y) rfl rfl rfl (by repeat (first | exact Take1.head | apply Take1.tail)) (by repeat (first | exact Take1.head | apply Take1.tail)) (by omega)) rfl (fun _ => ⟨_, (by repeat (first | exact TakeL.nil | (apply TakeL.cons; · repeat (first | exact Take1.head | apply Take1.tail))))⟩) ?_
                rintro ⟨⟨ao39, c39⟩, hc39⟩
                dsimp only at hc39 ⊢
                refine WD.one 9 (by kernel_rfl) ?_
                refine WO.to rfl rfl .no (To.alloc (cs := [.slice none 0 0]) zr22 rfl) rfl (fun _ => ⟨_, (by repeat (first | exact TakeL.nil | (apply TakeL.cons; · repeat (first | exact Take1.head | apply Take1.tail))))⟩) ?_ -- t7
                intro b7
                refine WD.one 10 (by kernel_rfl) ?_
                refine WO.sto rfl rfl .no (sto0 (b := b6) rfl rfl rfl (by repeat (first | exact Take1.head | apply Take1.tail))) ⟨_, (by repeat (first | exact TakeL.nil | (apply TakeL.cons; · repeat (first | exact Take1.head | apply Take1.tail))))⟩ ?_
                refine WD.one 11 (by kernel_rfl) ?_
                refine WO.sto rfl rfl .no (sto0 (b := b7) rfl rfl rfl (by repeat (first | exact Take1.head | apply Take1.tail))) ⟨_, (by repeat (first | exact TakeL.nil | (apply TakeL.cons; · repeat (first | exact Take1.head | apply Take1.tail))))⟩ ?_
                refine ro0 (by repeat (first | exact Take1.head | apply Take1.tail)) (by repeat (first | exact Take1.head | apply Take1.tail)) ?_
                refine WD.done (by kernel_rfl) ?_
                exact ⟨rfl, (b6, b7, (ao35, c35), (ao39, c39)), trivial, (by repeat (first | exact Sub.nil | refine Sub.cons rfl ?_)), (by repeat (first | exact Sub.nil | refine Sub.cons rfl ?_)), _, (by repeat (first | exact TakeL.nil | (apply TakeL.cons; · repeat (first | exact Take1.head | apply Take1.tail))))⟩
              · refine WO.to rfl rfl .no (To.alloc (cs := [.slice none 0 0]) zr22 rfl) rfl (fun _ => ⟨_, (by repeat (first | exact TakeL.nil | (apply TakeL.cons; · repeat (first | exact Take1.head | apply Take1.tail))))⟩) ?_ -- t7
                intro b7
                refine WD.one 7 (by kernel_rfl) ?_
                refine WO.to rfl rfl .no (app0 (xs := y) rfl rfl rfl (by repeat (first | exact Take1.head | apply Take1.tail)) (by repeat (first | exact Take1.head | apply Take1.tail)) (by omega)) rfl (fun _ => ⟨_, (by repeat (first | exact TakeL.nil | (apply TakeL.cons; · repeat (first | exact Take1.head | apply Take1.tail))))⟩) ?_
                rintro ⟨⟨ao39, c39⟩, hc39⟩
                dsimp only at hc39 ⊢
                refine WD.one 10 (by kernel_rfl) ?_
                refine WO.sto rfl rfl .no (sto0 (b := b6) rfl rfl rfl (by repeat (first | exact Take1.head | apply Take1.tail))) ⟨_, (by repeat (first | exact TakeL.nil | (apply TakeL.cons; · repeat (first | exact Take1.head | apply Take1.tail))))⟩ ?_
                refine WD.one 11 (by kernel_rfl) ?_
                refine WO.sto rfl rfl .no (sto0 (b := b7) rfl rfl rfl (by repeat (first | exact Take1.head | apply Take1.tail))) ⟨_, (by repeat (first | exact TakeL.nil | (apply TakeL.cons; · repeat (first | exact Take1.head | apply Take1.tail))))⟩ ?_
                refine ro0 (by repeat (first | exact Take1.head | apply Take1.tail)) (by repeat (first | exact Take1.head | apply Take1.tail)) ?_
                refine WD.done (by kernel_rfl) ?_
                exact ⟨rfl, (b6, b7, (ao35, c35), (ao39, c39)), trivial, (by repeat (first | exact Sub.nil | refine Sub.cons rfl ?_)), (by repeat (first | exact Sub.nil | refine Sub.cons rfl ?_)), _, (by repeat (first | exact TakeL.nil | (apply TakeL.cons; · repeat (first | exact Take1.head | apply Take1.tail))))⟩
            · refine WO.to rfl rfl .no (To.alloc (cs := [.slice none 0 0]) zr22 rfl) rfl (fun _ => ⟨_, (by repeat (first | exact TakeL.nil | (apply TakeL.cons; · repeat (first | exact Take1.head | apply Take1.tail))))⟩) ?_ -- t7
              intro b7
              refine WD.two 7 8 (by kernel_rfl) ?_ ?_
              · refine WO.to rfl rfl .no (app0 (xs := y) rfl rfl rfl (by repeat (first | exact Take1.head | apply Take1.tail)) (by repeat (first | exact Take1.head | apply Take1.tail)) (by omega)) rfl (fun _ => ⟨_, (by repeat (first | exact TakeL.nil | (apply TakeL.cons; · repeat (first | exact Take1.head | apply Take1.tail))))⟩) ?_
                rintro ⟨⟨ao39, c39⟩, hc39⟩
                dsimp only at hc39 ⊢
                refine WD.one 8 (by kernel_rfl) ?_
                refine WO.to rfl rfl .no (To.alloc (cs := [.slice none 0 0]) zr22 rfl) rfl (fun _ => ⟨_, (by repeat (first | exact TakeL.nil | (apply TakeL.cons; · repeat (first | exact Take1.head | apply Take1.tail))))⟩) ?_ -- t6
                intro b6
                refine WD.one 10 (by kernel_rfl) ?_
                refine WO.sto rfl rfl .no (sto0 (b := b6) rfl rfl rfl (by repeat (first | exact Take1.head | apply Take1.tail))) ⟨_, (by repeat (first | exact TakeL.nil | (apply TakeL.cons; · repeat (first | exact Take1.head | apply Take1.tail))))⟩ ?_
                refine WD.one 11 (by kernel_rfl) ?_
                refine WO.sto rfl rfl .no (sto0 (b := b7) rfl rfl rfl (by repeat (first | exact Take1.head | apply Take1.tail))) ⟨_, (by repeat (first | exact TakeL.nil | (apply TakeL.cons; · repeat (first | exact Take1.head | apply Take1.tail))))⟩ ?_
                refine ro0 (by repeat (first | exact Take1.head | apply Take1.tail)) (by repeat (first | exact Take1.head | apply Take1.tail)) ?_
                refine WD.done (by kernel_rfl) ?_
                exact ⟨rfl, (b6, b7, (ao35, c35), (ao39, c39)), trivial, (by repeat (first | exact Sub.nil | refine Sub.cons rfl ?_)), (by repeat (first | exact Sub.nil | refine Sub.cons rfl ?_)), _, (by repeat (first | exact TakeL.nil | (apply TakeL.cons; · repeat (first | exact Take1.head | apply Take1.tail))))⟩
              · refine WO.to rfl rfl .no (To.alloc (cs := [.slice none 0 0]) zr22 rfl) rfl (fun _ => ⟨_, (by repeat (first | exact TakeL.nil | (apply TakeL.cons; · repeat (first | exact Take1.head | apply Take1.tail))))⟩) ?_ -- t6
                intro b6
                refine WD.one 7 (by kernel_rfl) ?_
                refine WO.to rfl rfl .no (app0 (xs := y) rfl rfl rfl (by repeat (first | exact Take1.head | apply Take1.tail)) (by repeat (first | exact Take1.head | apply Take1.tail)) (by omega)) rfl (fun _ => ⟨_, (by repeat (first | exact TakeL.nil | (apply TakeL.cons; · repeat (first | exact Take1.head | apply Take1.tail))))⟩) ?_
                rintro ⟨⟨ao39, c39⟩, hc39⟩
                dsimp only at hc39 ⊢
                refine WD.one 10 (by kernel_rfl) ?_
                refine WO.sto rfl rfl .no (sto0 (b := b6) rfl rfl rfl (by repeat (first | exact Take1.head | apply Take1.tail))) ⟨_, (by repeat (first | exact TakeL.nil | (apply TakeL.cons; · repeat (first | exact Take1.head | apply Take1.tail))))⟩ ?_
                refine WD.one 11 (by kernel_rfl) ?_
                refine WO.sto rfl rfl .no (sto0 (b := b7) rfl rfl rfl (by repeat (first | exact Take1.head | apply Take1.tail))) ⟨_, (by repeat (first | exact TakeL.nil | (apply TakeL.cons; · repeat (first | exact Take1.head | apply Take1.tail))))⟩ ?_
                refine ro0 (by repeat (first | exact Take1.head | apply Take1.tail)) (by repeat (first | exact Take1.head | apply Take1.tail)) ?_
                refine WD.done (by kernel_rfl) ?_
                exact ⟨rfl, (b6, b7, (ao35, c35), (ao39, c39)), trivial, (by repeat (first | exact Sub.nil | refine Sub.cons rfl ?_)), (by repeat (first | exact Sub.nil | refine Sub.cons rfl ?_)), _, (by repeat (first | exact TakeL.nil | (apply TakeL.cons; · repeat (first | exact Take1.head | apply Take1.tail))))⟩
          · refine WO.to rfl rfl .no (To.alloc (cs := [.slice none 0 0]) zr22 rfl) rfl (fun _ => ⟨_, (by repeat (first | exact TakeL.nil | (apply TakeL.cons; · repeat (first | exact Take1.head | apply Take1.tail))))⟩) ?_ -- t6
            intro b6
            refine WD.two 4 9 (by kernel_rfl) ?_ ?_
            · refine WO.to rfl rfl .no (To.buildSlice (vs := []) un22 zs5 rfl rfl (by simp [Value.cells]) (by decide) (by decide)) rfl (fun _ => ⟨_, (by repeat (first | exact TakeL.nil | (apply TakeL.cons; · repeat (first | exact Take1.head | apply Take1.tail))))⟩) ?_ -- t36
              intro b36
              refine WD.view (fun w h => h.blkOwn (b := b36) (size := 1) (n := 0) (by repeat (first | exact Take1.head | apply Take1.tail)) (by unfold maxLen; omega) rfl) ?_
              refine WD.two 7 9 (by kernel_rfl) ?_ ?_
              · refine WO.to rfl rfl .no (app0 (xs := y) rfl rfl rfl (by repeat (first | exact Take1.head | apply Take1.tail)) (by repeat (first | exact Take1.head | apply Take1.tail)) (by omega)) rfl (fun _ => ⟨_, (by repeat (first | exact TakeL.nil | (apply TakeL.cons; · repeat (first | exact Take1.head | apply Take1.tail))))⟩) ?_
                rintro ⟨⟨ao39, c39⟩, hc39⟩
                dsimp only at hc39 ⊢
                refine WD.one 9 (by kernel_rfl) ?_
                refine WO.to rfl rfl .no (To.alloc (cs := [.slice none 0 0]) zr22 rfl) rfl (fun _ => ⟨_, (by repeat (first | exact TakeL.nil | (apply TakeL.cons; · repeat (first | exact Take1.head | apply Take1.tail))))⟩) ?_ -- t7
                intro b7
                refine WD.one 10 (by kernel_rfl) ?_
                refine WO.sto rfl rfl .no (sto0 (b := b6) rfl rfl rfl (by repeat (first | exact Take1.head | apply Take1.tail))) ⟨_, (by repeat (first | exact TakeL.nil | (apply TakeL.cons; · repeat (first | exact Take1.head | apply Take1.tail))))⟩ ?_
                refine WD.one 11 (by kernel_rfl) ?_
                refine WO.sto rfl rfl .no (sto0 (b := b7) rfl rfl rfl (by repeat (first | exact Take1.head | apply Take1.tail))) ⟨_, (by repeat (first | exact TakeL.nil | (apply TakeL.cons; · repeat (first | exact Take1.head | apply Take1.tail))))⟩ ?_
                refine ro0 (by repeat (first | exact Take1.head | apply Take1.tail)) (by repeat (first | exact Take1.head | apply Take1.tail)) ?_
                refine WD.done (by kernel_rfl) ?_
                exact ⟨rfl, (b6, b7, (ao35, c35), (ao39, c39)), trivial, (by repeat (first | exact Sub.nil | refine Sub.cons rfl ?_)), (by repeat (first | exact Sub.nil | refine Sub.cons rfl ?_)), _, (by repeat (first | exact TakeL.nil | (apply TakeL.cons; · repeat (first | exact Take1.head | apply Take1.tail))))⟩
              · refine WO.to rfl rfl .no (To.alloc (cs := [.slice none 0 0]) zr22 rfl) rfl (fun _ => ⟨_, (by repeat (first | exact TakeL.nil | (apply TakeL.cons; · repeat (first | exact Take1.head | apply Take1.tail))))⟩) ?_ -- t7
                intro b7
                refine WD.one 7 (by kernel_rfl) ?_
                refine WO.to rfl rfl .no (app0 (xs := y) rfl rfl rfl (by repeat (first | exact Take1.head | apply Take1.tail)) (by repeat (first | exact Take1.head | apply Take1.tail)) (by omega)) rfl (fun _ => ⟨_, (by repeat (first | exact TakeL.nil | (apply TakeL.cons; · repeat (first | exact Take1.head | apply Take1.tail))))⟩) ?_
                rintro ⟨⟨ao39, c39⟩, hc39⟩
                dsimp only at hc39 ⊢
                refine WD.one 10 (by kernel_rfl) ?_
                refine WO.sto rfl rfl .no (sto0 (b := b6) rfl rfl rfl (by repeat (first | exact Take1.head | apply Take1.tail))) ⟨_, (by repeat (first | exact TakeL.nil | (apply TakeL.cons; · repeat (first | exact Take1.head | apply Take1.tail))))⟩ ?_
                refine WD.one 11 (by kernel_rfl) ?_
                refine WO.sto rfl rfl .no (sto0 (b := b7) rfl rfl rfl (by repeat (first | exact Take1.head | apply Take1.tail))) ⟨_, (by repeat (first | exact TakeL.nil | (apply TakeL.cons; · repeat (first | exact Take1.head | apply Take1.tail))))⟩ ?_
                refine ro0 (by repeat (first | exact Take1.head | apply Take1.tail)) (by repeat (first | exact Take1.head | apply Take1.tail)) ?_
                refine WD.done (by kernel_rfl) ?_
                exact ⟨rfl, (b6, b7, (ao35, c35), (ao39, c39)), trivial, (by repeat (first | exact Sub.nil | refine Sub.cons rfl ?_)), (by repeat (first | exact Sub.nil | refine Sub.cons rfl ?_)), _, (by repeat (first | exact TakeL.nil | (apply TakeL.cons; · repeat (first | exact Take1.head | apply Take1.tail))))⟩
            · refine WO.to rfl rfl .no (To.alloc (cs := [.slice none 0 0]) zr22 rfl) rfl (fun _ => ⟨_, (by repeat (first | exact TakeL.nil | (apply TakeL.cons; · repeat (first | exact Take1.head | apply Take1.tail))))⟩) ?_ -- t7
              intro b7
              refine WD.one 4 (by kernel_rfl) ?_
              refine WO.to rfl rfl .no (To.buildSlice (vs := []) un22 zs5 rfl rfl (by simp [Value.cells]) (by decide) (by decide)) rfl (fun _ => ⟨_, (by repeat (first | exact TakeL.nil | (apply TakeL.cons; · repeat (first | exact Take1.head | apply Take1.tail))))⟩) ?_ -- t36
              intro b36
              refine WD.view (fun w h => h.blkOwn (b := b36) (size := 1) (n := 0) (by repeat (first | exact Take1.head | apply Take1.tail)) (by unfold maxLen; omega) rfl) ?_
              refine WD.one 7 (by kernel_rfl) ?_
              refine WO.to rfl rfl .no (app0 (xs := y) rfl rfl rfl (by repeat (first | exact Take1.head | apply Take1.tail)) (by repeat (first | exact Take1.head | apply Take1.tail)) (by omega)) rfl (fun _ => ⟨_, (by repeat (first | exact TakeL.nil | (apply TakeL.cons; · repeat (first | exact Take1.head | apply Take1.tail))))⟩) ?_
              rintro ⟨⟨ao39, c39⟩, hc39⟩
              dsimp only at hc39 ⊢
              refine WD.one 10 (by kernel_rfl) ?_
              refine WO.sto rfl rfl .no (sto0 (b := b6) rfl rfl rfl (by repeat (first | exact Take1.head | apply Take1.tail))) ⟨_, (by repeat (first | exact TakeL.nil | (apply TakeL.cons; · repeat (first | exact Take1.head | apply Take1.tail))))⟩ ?_
              refine WD.one 11 (by kernel_rfl) ?_
              refine WO.sto rfl rfl .no (sto0 (b := b7) rfl rfl rfl (by repeat (first | exact Take1.head | apply Take1.tail))) ⟨_, (by repeat (first | exact TakeL.nil | (apply TakeL.cons; · repeat (first | exact Take1.head | apply Take1.tail))))⟩ ?_
              refine ro0 (by repeat (first | exact Take1.head | apply Take1.tail)) (by repeat (first | exact Take1.head | apply Take1.tail)) ?_
              refine WD.done (by kernel_rfl) ?_
              exact ⟨rfl, (b6, b7, (ao35, c35), (ao39, c39)), trivial, (by repeat (first | exact Sub.nil | refine Sub.cons rfl ?_)), (by repeat (first | exact Sub.nil | refine Sub.cons rfl ?_)), _, (by repeat (first | exact TakeL.nil | (apply TakeL.cons; · repeat (first | exact Take1.head | apply Take1.tail))))⟩
          · refine WO.to rfl rfl .no (To.alloc (cs := [.slice none 0 0]) zr22 rfl) rfl (fun _ => ⟨_, (by repeat (first | exact TakeL.nil | (apply TakeL.cons; · repeat (first | exact Take1.head | apply Take1.tail))))⟩) ?_ -- t7
            intro b7
            refine WD.two 4 8 (by kernel_rfl) ?_ ?_
            · refine WO.to rfl rfl .no (To.buildSlice (vs := []) un22 zs5 rfl rfl (by simp [Value.cells]) (by decide) (by decide)) rfl (fun _ => ⟨_, (by repeat (first | exact TakeL.nil | (apply TakeL.cons; · repeat (first | exact Take1.head | apply Take1.tail))))⟩) ?_ -- t36
              intro b36
              refine WD.view (fun w h => h.blkOwn (b := b36) (size := 1) (n := 0) (by repeat (first | exact Take1.head | apply Take1.tail)) (by unfold maxLen; omega) rfl) ?_
              refine WD.two 7 8 (by kernel_rfl) ?_ ?_
              · refine WO.to rfl rfl .no (app0 (xs := y) rfl rfl rfl (by repeat (first | exact Take1.head | apply Take1.tail)) (by repeat (first | exact Take1.head | apply Take1.tail)) (by omega)) rfl (fun _ => ⟨_, (by repeat (first | exact TakeL.nil | (apply TakeL.cons; · repeat (first | exact Take1.head | apply Take1.tail))))⟩) ?_
                rintro ⟨⟨ao39, c39⟩, hc39⟩
                dsimp only at hc39 ⊢
                refine WD.one 8 (by kernel_rfl) ?_
                refine WO.to rfl rfl .no (To.alloc (cs := [.slice none 0 0]) zr22 rfl) rfl (fun _ => ⟨_, (by repeat (first | exact TakeL.nil | (apply TakeL.cons; · repeat (first | exact Take1.head | apply Take1.tail))))⟩) ?_ -- t6
                intro b6
                refine WD.one 10 (by kernel_rfl) ?_
                refine WO.sto rfl rfl .no (sto0 (b := b6) rfl rfl rfl (by repeat (first | exact Take1.head | apply Take1.tail))) ⟨_, (by repeat (first | exact TakeL.nil | (apply TakeL.cons; · repeat (first | exact Take1.head | apply Take1.tail))))⟩ ?_
                refine WD.one 11 (by kernel_rfl) ?_
                refine WO.sto rfl rfl .no (sto0 (b := b7) rfl rfl rfl (by repeat (first | exact Take1.head | apply Take1.tail))) ⟨_, (by repeat (first | exact TakeL.nil | (apply TakeL.cons; · repeat (first | exact Take1.head | apply Take1.tail))))⟩ ?_
                refine ro0 (by repeat (first | exact Take1.head | apply Take1.tail)) (by repeat (first | exact Take1.head | apply Take1.tail)) ?_
                refine WD.done (by kernel_rfl) ?_
                exact ⟨rfl, (b6, b7, (ao35, c35), (ao39, c39)), trivial, (by repeat (first | exact Sub.nil | refine Sub.cons rfl ?_)), (by repeat (first | exact Sub.nil | refine Sub.cons rfl ?_)), _, (by repeat (first | exact TakeL.nil | (apply TakeL.cons; · repeat (first | exact Take1.head | apply Take1.tail))))⟩
              · refine WO.to rfl rfl .no (To.alloc (cs := [.slice none 0 0]) zr22 rfl) rfl (fun _ => ⟨_, (by repeat (first | exact TakeL.nil | (apply TakeL.cons; · repeat (first | exact Take1.head | apply Take1.tail))))⟩) ?_ -- t6
                intro b6
                refine WD.one 7 (by kernel_rfl) ?_
                refine WO.to rfl rfl .no (app0 (xs := y) rfl rfl rfl (by repeat (first | exact Take1.head | apply Take1.tail)) (by repeat (first | exact Take1.head | apply Take1.tail)) (by omega)) rfl (fun _ => ⟨_, (by repeat (first | exact TakeL.nil | (apply TakeL.cons; · repeat (first | exact Take1.head | apply Take1.tail))))⟩) ?_
                rintro ⟨⟨ao39, c39⟩, hc39⟩
                dsimp only at hc39 ⊢
                refine WD.one 10 (by kernel_rfl) ?_
                refine WO.sto rfl rfl .no (sto0 (b := b6) rfl rfl rfl (by repeat (first | exact Take1.head | apply Take1.tail))) ⟨_, (by repeat (first | exact TakeL.nil | (apply TakeL.cons; · repeat (first | exact Take1.head | apply Take1.tail))))⟩ ?_
                refine WD.one 11 (by kernel_rfl) ?_
                refine WO.sto rfl rfl .no (sto0 (b := b7) rfl rfl rfl (by repeat (first | exact Take1.head | apply Take1.tail))) ⟨_, (by repeat (first | exact TakeL.nil | (apply TakeL.cons; · repeat (first | exact Take1.head | apply Take1.tail))))⟩ ?_
                refine ro0 (by repeat (first | exact Take1.head | apply Take1.tail)) (by repeat (first | exact Take1.head | apply Take1.tail)) ?_
                refine WD.done (by kernel_rfl) ?_
                exact ⟨rfl, (b6, b7, (ao35, c35), (ao39, c39)), trivial, (by repeat (first | exact Sub.nil | refine Sub.cons rfl ?_)), (by repeat (first | exact Sub.nil | refine Sub.cons rfl ?_)), _, (by repeat (first | exact TakeL.nil | (apply TakeL.cons; · repeat (first | exact Take1.head | apply Take1.tail))))⟩
            · refine WO.to rfl rfl .no (To.alloc (cs := [.slice none 0 0]) zr22 rfl) rfl (fun _ => ⟨_, (by repeat (first | exact TakeL.nil | (apply TakeL.cons; · repeat (first | exact Take1.head | apply Take1.tail))))⟩) ?_ -- t6
              intro b6
              refine WD.one 4 (by kernel_rfl) ?_
              refine WO.to rfl rfl .no (To.buildSlice (vs := []) un22 zs5 rfl rfl (by simp [Value.cells]) (by decide) (by decide)) rfl (fun _ => ⟨_, (by repeat (first | exact TakeL.nil | (apply TakeL.cons; · repeat (first | exact Take1.head | apply Take1.tail))))⟩) ?_ -- t36
              intro b36
              refine WD.view (fun w h => h.blkOwn (b := b36) (size := 1) (n := 0) (by repeat (first | exact Take1.head | apply Take1.tail)) (by unfold maxLen; omega) rfl) ?_
              refine WD.one 7 (by kernel_rfl) ?_
              refine WO.to rfl rfl .no (app0 (xs := y) rfl rfl rfl (by repeat (first | exact Take1.head | apply Take1.tail)) (by repeat (first | exact Take1.head | apply Take1.tail)) (by omega)) rfl (fun _ => ⟨_, (by repeat (first | exact TakeL.nil | (apply TakeL.cons; · repeat (first | exact Take1.head | apply Take1.tail))))⟩) ?_
              rintro ⟨⟨ao39, c39⟩, hc39⟩
              dsimp only at hc39 ⊢
              refine WD.one 10 (by kernel_rfl) ?_
              refine WO.sto rfl rfl .no (sto0 (b := b6) rfl rfl rfl (by repeat (first | exact Take1.head | apply Take1.tail))) ⟨_, (by repeat (first | exact TakeL.nil | (apply TakeL.cons; · repeat (first | exact Take1.head | apply Take1.tail))))⟩ ?_
              refine WD.one 11 (by kernel_rfl) ?_
              refine WO.sto rfl rfl .no (sto0 (b := b7) rfl rfl rfl (by repeat (first | exact Take1.head | apply Take1.tail))) ⟨_, (by repeat (first | exact TakeL.nil | (apply TakeL.cons; · repeat (first | exact Take1.head | apply Take1.tail))))⟩ ?_
              refine ro0 (by repeat (first | exact Take1.head | apply Take1.tail)) (by repeat (first | exact Take1.head | apply Take1.tail)) ?_
              refine WD.done (by kernel_rfl) ?_
              exact ⟨rfl, (b6, b7, (ao35, c35), (ao39, c39)), trivial, (by repeat (first | exact Sub.nil | refine Sub.cons rfl ?_)), (by repeat (first | exact Sub.nil | refine Sub.cons rfl ?_)), _, (by repeat (first | exact TakeL.nil | (apply TakeL.cons; · repeat (first | exact Take1.head | apply Take1.tail))))⟩
        · refine WO.to rfl rfl .no (To.buildSlice (vs := []) un22 zs5 rfl rfl (by simp [Value.cells]) (by decide) (by decide)) rfl (fun _ => ⟨_, (by repeat (first | exact TakeL.nil | (apply TakeL.cons; · repeat (first | exact Take1.head | apply Take1.tail))))⟩) ?_ -- t36
          intro b36
          refine WD.view (fun w h => h.blkOwn (b := b36) (size := 1) (n := 0) (by repeat (first | exact Take1.head | apply Take1.tail)) (by unfold maxLen; omega) rfl) ?_
          refine WD.three 3 8 9 (by kernel_rfl) ?_ ?_ ?_
          · refine WO.to rfl rfl .no (app0 (xs := x) rfl rfl rfl (by repeat (first | exact Take1.head | apply Take1.tail)) (by repeat (first | exact Take1.head | apply Take1.tail)) (by omega)) rfl (fun _ => ⟨_, (by repeat (first | exact TakeL.nil | (apply TakeL.cons; · repeat (first | exact Take1.head | apply Take1.tail))))⟩) ?_
            rintro ⟨⟨ao35, c35⟩, hc35⟩
            dsimp only at hc35 ⊢
            refine WD.three 7 8 9 (by kernel_rfl) ?_ ?_ ?_
            · refine WO.to rfl rfl .no (app0 (xs := y) rfl rfl rfl (by repeat (first | exact Take1.head | apply Take1.tail)) (by repeat (first | exact Take1.head | apply Take1.tail)) (by omega)) rfl (fun _ => ⟨_, (by repeat (first | exact TakeL.nil | (apply TakeL.cons; · repeat (first | exact Take1.head | apply Take1.tail))))⟩) ?_
              rintro ⟨⟨ao39, c39⟩, hc39⟩
              dsimp only at hc39 ⊢
              refine WD.two 8 9 (by kernel_rfl) ?_ ?_
              · refine WO.to rfl rfl .no (To.alloc (cs := [.slice none 0 0]) zr22 rfl) rfl (fun _ => ⟨_, (by repeat (first | exact TakeL.nil | (apply TakeL.cons; · repeat (first | exact Take1.head | apply Take1.tail))))⟩) ?_ -- t6
                intro b6
                refine WD.one 9 (by kernel_rfl) ?_
                refine WO.to rfl rfl .no (To.alloc (cs := [.slice none 0 0]) zr22 rfl) rfl (fun _ => ⟨_, (by repeat (first | exact TakeL.nil | (apply TakeL.cons; · repeat (first | exact Take1.head | apply Take1.tail))))⟩) ?_ -- t7
                intro b7
                refine WD.one 10 (by kernel_rfl) ?_
                refine WO.sto rfl rfl .no (sto0 (b := b6) rfl rfl rfl (by repeat (first | exact Take1.head | apply Take1.tail))) ⟨_, (by repeat (first | exact TakeL.nil | (apply TakeL.cons; · repeat (first | exact Take1.head | apply Take1.tail))))⟩ ?_
                refine WD.one 11 (by kernel_rfl) ?_
                refine WO.sto rfl rfl .no (sto0 (b := b7) rfl rfl rfl (by repeat (first | exact Take1.head | apply Take1.tail))) ⟨_, (by repeat (first | exact TakeL.nil | (apply TakeL.cons; · repeat (first | exact Take1.head | apply Take1.tail))))⟩ ?_
                refine ro0 (by repeat (first | exact Take1.head | apply Take1.tail)) (by repeat (first | exact Take1.head | apply Take1.tail)) ?_
                refine WD.done (by kernel_rfl) ?_
                exact ⟨rfl, (b6, b7, (ao35, c35), (ao39, c39)), trivial, (by repeat (first | exact Sub.nil | refine Sub.cons rfl ?_)), (by repeat (first | exact Sub.nil | refine Sub.cons rfl ?_)), _, (by repeat (first | exact TakeL.nil | (apply TakeL.cons; · repeat (first | exact Take1.head | apply Take1.tail))))⟩
              · refine WO.to rfl rfl .no (To.alloc (cs := [.slice none 0 0]) zr22 rfl) rfl (fun _ => ⟨_, (by repeat (first | exact TakeL.nil | (apply TakeL.cons; · repeat (first | exact Take1.head | apply Take1.tail))))⟩) ?_ -- t7
                intro b7
                refine WD.one 8 (by kernel_rfl) ?_
                refine WO.to rfl rfl .no (To.alloc (cs := [.slice none 0 0]) zr22 rfl) rfl (fun _ => ⟨_, (by repeat (first | exact TakeL.nil | (apply TakeL.cons; · repeat (first | exact Take1.head | apply Take1.tail))))⟩) ?_ -- t6
                intro b6
                refine WD.one 10 (by kernel_rfl) ?_
                refine WO.sto rfl rfl .no (sto0 (b := b6) rfl rfl rfl (by repeat (first | exact Take1.head | apply Take1.tail))) ⟨_, (by repeat (first | exact TakeL.nil | (apply TakeL.cons; · repeat (first | exact Take1.head | apply Take1.tail))))⟩ ?_
                refine WD.one 11 (by kernel_rfl) ?_
                refine WO.sto rfl rfl .no (sto0 (b := b7) rfl rfl rfl (by repeat (first | exact Take1.head | apply Take1.tail))) ⟨_, (by repeat (first | exact TakeL.nil | (apply TakeL.cons; · repeat (first | exact Take1.head | apply Take1.tail))))⟩ ?_
                refine ro0 (by repeat (first | exact Take1.head | apply Take1.tail)) (by repeat (first | exact Take1.head | apply Take1.tail)) ?_
                refine WD.done (by kernel_rfl) ?_
                exact ⟨rfl, (b6, b7, (ao35, c35), (ao39, c39)), trivial, (by repeat (first | exact Sub.nil | refine Sub.cons rfl ?_)), (by repeat (first | exact Sub.nil | refine Sub.cons rfl ?_)), _, (by repeat (first | exact TakeL.nil | (apply TakeL.cons; · repeat (first | exact Take1.head | apply Take1.tail))))⟩
            · refine WO.to rfl rfl .no (To.alloc (cs := [.slice none 0 0]) zr22 rfl) rfl (fun _ => ⟨_, (by repeat (first | exact TakeL.nil | (apply TakeL.cons; · repeat (first | exact Take1.head | apply Take1.tail))))⟩) ?_ -- t6
              intro b6
              refine WD.two 7 9 (by kernel_rfl) ?_ ?_
              · refine WO.to rfl rfl .no (app0 (xs := y) rfl rfl rfl (by repeat (first | exact Take1.head | apply Take1.tail)) (by repeat (first | exact Take1.head | apply Take1.tail)) (by omega)) rfl (fun _ => ⟨_, (by repeat (first | exact TakeL.nil | (apply TakeL.cons; · repeat (first | exact Take1.head | apply Take1.tail))))⟩) ?_
                rintro ⟨⟨ao39, c39⟩, hc39⟩
                dsimp only at hc39 ⊢
                refine WD.one 9 (by kernel_rfl) ?_
                refine WO.to rfl rfl .no (To.alloc (cs := [.slice none 0 0]) zr22 rfl) rfl (fun _ => ⟨_, (by repeat (first | exact TakeL.nil | (apply TakeL.cons; · repeat (first | exact Take1.head | apply Take1.tail))))⟩) ?_ -- t7
                intro b7
                refine WD.one 10 (by kernel_rfl) ?_
                refine WO.sto rfl rfl .no (sto0 (b := b6) rfl rfl rfl (by repeat (first | exact Take1.head | apply Take1.tail))) ⟨_, (by repeat (first | exact TakeL.nil | (apply TakeL.cons; · repeat (first | exact Take1.head | apply Take1.tail))))⟩ ?_
                refine WD.one 11 (by kernel_rfl) ?_
                refine WO.sto rfl rfl .no (sto0 (b := b7) rfl rfl rfl (by repeat (first | exact Take1.head | apply Take1.tail))) ⟨_, (by repeat (first | exact TakeL.nil | (apply TakeL.cons; · repeat (first | exact Take1.head | apply Take1.tail))))⟩ ?_
                refine ro0 (by repeat (first | exact Take1.head | apply Take1.tail)) (by repeat (first | exact Take1.head | apply Take1.tail)) ?_
                refine WD.done (by kernel_rfl) ?_
                exact ⟨rfl, (b6, b7, (ao35, c35), (ao39, c39)), trivial, (by repeat (first | exact Sub.nil | refine Sub.cons rfl ?_)), (by repeat (first | exact Sub.nil | refine Sub.cons rfl ?_)), _, (by repeat (first | exact TakeL.nil | (apply TakeL.cons; · repeat (first | exact Take1.head | apply Take1.tail))))⟩
              · refine WO.to rfl rfl .no (To.alloc (cs := [.slice none 0 0]) zr22 rfl) rfl (fun _ => ⟨_, (by repeat (first | exact TakeL.nil | (apply TakeL.cons; · repeat (first | exact Take1.head | apply Take1.tail))))⟩) ?_ -- t7
                intro b7
                refine WD.one 7 (by kernel_rfl) ?_
                refine WO.to rfl rfl .no (app0 (xs := y) rfl rfl rfl (by repeat (first | exact Take1.head | apply Take1.tail)) (by repeat (first | exact Take1.head | apply Take1.tail)) (by omega)) rfl (fun _ => ⟨_, (by repeat (first | exact TakeL.nil | (apply TakeL.cons; · repeat (first | exact Take1.head | apply Take1.tail))))⟩) ?_
                rintro ⟨⟨ao39, c39⟩, hc39⟩
                dsimp only at hc39 ⊢
                refine WD.one 10 (by kernel_rfl) ?_
                refine WO.sto rfl rfl .no (sto0 (b := b6) rfl rfl rfl (by repeat (first | exact Take1.head | apply Take1.tail))) ⟨_, (by repeat (first | exact TakeL.nil | (apply TakeL.cons; · repeat (first | exact Take1.head | apply Take1.tail))))⟩ ?_
                refine WD.one 11 (by kernel_rfl) ?_
                refine WO.sto rfl rfl .no (sto0 (b := b7) rfl rfl rfl (by repeat (first | exact Take1.head | apply Take1.tail))) ⟨_, (by repeat (first | exact TakeL.nil | (apply TakeL.cons; · repeat (first | exact Take1.head | apply Take1.tail))))⟩ ?_
                refine ro0 (by repeat (first | exact Take1.head | apply Take1.tail)) (by repeat (first | exact Take1.head | apply Take1.tail)) ?_
                refine WD.done (by kernel_rfl) ?_
                exact ⟨rfl, (b6, b7, (ao35, c35), (ao39, c39)), trivial, (by repeat (first | exact Sub.nil | refine Sub.cons rfl ?_)), (by repeat (first | exact Sub.nil | refine Sub.cons rfl ?_)), _, (by repeat (first | exact TakeL.nil | (apply TakeL.cons; · repeat (first | exact Take1.head | apply Take1.tail))))⟩
            · refine WO.to rfl rfl .no (To.alloc (cs := [.slice none 0 0]) zr22 rfl) rfl (fun _ => ⟨_, (by repeat (first | exact TakeL.nil | (apply TakeL.cons; · repeat (first | exact Take1.head | apply Take1.tail))))⟩) ?_ -- t7
              intro b7
              refine WD.two 7 8 (by kernel_rfl) ?_ ?_
              · refine WO.to rfl rfl .no (app0 (xs := y) rfl rfl rfl (by repeat (first | exact Take1.head | apply Take1.tail)) (by repeat (first | exact Take1.head | apply Take1.tail)) (by omega)) rfl (fun _ => ⟨_, (by repeat (first | exact TakeL.nil | (apply TakeL.cons; · repeat (first | exact Take1.head | apply Take1.tail))))⟩) ?_
                rintro ⟨⟨ao39, c39⟩, hc39⟩
                dsimp only at hc39 ⊢
                refine WD.one 8 (by kernel_rfl) ?_
                refine WO.to rfl rfl .no (To.alloc (cs := [.slice none 0 0]) zr22 rfl) rfl (fun _ => ⟨_, (by repeat (first | exact TakeL.nil | (apply TakeL.cons; · repeat (first | exact Take1.head | apply Take1.tail))))⟩) ?_ -- t6
                intro b6
                refine WD.one 10 (by kernel_rfl) ?_
                refine WO.sto rfl rfl .no (sto0 (b := b6) rfl rfl rfl (by repeat (first | exact Take1.head | apply Take1.tail))) ⟨_, (by repeat (first | exact TakeL.nil | (apply TakeL.cons; · repeat (first | exact Take1.head | apply Take1.tail))))⟩ ?_
                refine WD.one 11 (by kernel_rfl) ?_
                refine WO.sto rfl rfl .no (sto0 (b := b7) rfl rfl rfl (by repeat (first | exact Take1.head | apply Take1.tail))) ⟨_, (by repeat (first | exact TakeL.nil | (apply TakeL.cons; · repeat (first | exact Take1.head | apply Take1.tail))))⟩ ?_
                refine ro0 (by repeat (first | exact Take1.head | apply Take1.tail)) (by repeat (first | exact Take1.head | apply Take1.tail)) ?_
                refine WD.done (by kernel_rfl) ?_
                exact ⟨rfl, (b6, b7, (ao35, c35), (ao39, c39)), trivial, (by repeat (first | exact Sub.nil | refine Sub.cons rfl ?_)), (by repeat (first | exact Sub.nil | refine Sub.cons rfl ?_)), _, (by repeat (first | exact TakeL.nil | (apply TakeL.cons; · repeat (first | exact Take1.head | apply Take1.tail))))⟩
              · refine WO.to rfl rfl .no (To.alloc (cs := [.slice none 0 0]) zr22 rfl) rfl (fun _ => ⟨_, (by repeat (first | exact TakeL.nil | (apply TakeL.cons; · repeat (first | exact Take1.head | apply Take1.tail))))⟩) ?_ -- t6
                intro b6
                refine WD.one 7 (by kernel_rfl) ?_
                refine WO.to rfl rfl .no (app0 (xs := y) rfl rfl rfl (by repeat (first | exact Take1.head | apply Take1.tail)) (by repeat (first | exact Take1.head | apply Take1.tail)) (by omega)) rfl (fun _ => ⟨_, (by repeat (first | exact TakeL.nil | (apply TakeL.cons; · repeat (first | exact Take1.head | apply Take1.tail))))⟩) ?_
                rintro ⟨⟨ao39, c39⟩, hc39⟩
                dsimp only at hc39 ⊢
                refine WD.one 10 (by kernel_rfl) ?_
                refine WO.sto rfl rfl .no (sto0 (b := b6) rfl rfl rfl (by repeat (first | exact Take1.head | apply Take1.tail))) ⟨_, (by repeat (first | exact TakeL.nil | (apply TakeL.cons; · repeat (first | exact Take1.head | apply Take1.tail))))⟩ ?_
                refine WD.one 11 (by kernel_rfl) ?_
                refine WO.sto rfl rfl .no (sto0 (b := b7) rfl rfl rfl (by repeat (first | exact Take1.head | apply Take1.tail))) ⟨_, (by repeat (first | exact TakeL.nil | (apply TakeL.cons; · repeat (first | exact Take1.head | apply Take1.tail))))⟩ ?_
                refine ro0 (by repeat (first | exact Take1.head | apply Take1.tail)) (by repeat (first | exact Take1.head | apply Take1.tail)) ?_
                refine WD.done (by kernel_rfl) ?_
                exact ⟨rfl, (b6, b7, (ao35, c35), (ao39, c39)), trivial, (by repeat (first | exact Sub.nil | refine Sub.cons rfl ?_)), (by repeat (first | exact Sub.nil | refine Sub.cons rfl ?_)), _, (by repeat (first | exact TakeL.nil | (apply TakeL.cons; · repeat (first | exact Take1.head | apply Take1.tail))))⟩
          · refine WO.to rfl rfl .no (To.alloc (cs := [.slice none 0 0]) zr22 rfl) rfl (fun _ => ⟨_, (by repeat (first | exact TakeL.nil | (apply TakeL.cons; · repeat (first | exact Take1.head | apply Take1.tail))))⟩) ?_ -- t6
            intro b6
            refine WD.two 3 9 (by kernel_rfl) ?_ ?_
            · refine WO.to rfl rfl .no (app0 (xs := x) rfl rfl rfl (by repeat (first | exact Take1.head | apply Take1.tail)) (by repeat (first | exact Take1.head | apply Take1.tail)) (by omega)) rfl (fun _ => ⟨_, (by repeat (first | exact TakeL.nil | (apply TakeL.cons; · repeat (first | exact Take1.head | apply Take1.tail))))⟩) ?_
              rintro ⟨⟨ao35, c35⟩, hc35⟩
              dsimp only at hc35 ⊢
              refine WD.two 7 9 (by kernel_rfl) ?_ ?_
              · refine WO.to rfl rfl .no (app0 (xs := y) rfl rfl rfl (by repeat (first | exact Take1.head | apply Take1.tail)) (by repeat (first | exact Take1.head | apply Take1.tail)) (by omega)) rfl (fun _ => ⟨_, (by repeat (first | exact TakeL.nil | (apply TakeL.cons; · repeat (first | exact Take1.head | apply Take1.tail))))⟩) ?_
                rintro ⟨⟨ao39, c39⟩, hc39⟩
                dsimp only at hc39 ⊢
                refine WD.one 9 (by kernel_rfl) ?_
                refine WO.to rfl rfl .no (To.alloc (cs := [.slice none 0 0]) zr22 rfl) rfl (fun _ => ⟨_, (by repeat (first | exact TakeL.nil | (apply TakeL.cons; · repeat (first | exact Take1.head | apply Take1.tail))))⟩) ?_ -- t7
                intro b7
                refine WD.one 10 (by kernel_rfl) ?_
                refine WO.sto rfl rfl .no (sto0 (b := b6) rfl rfl rfl (by repeat (first | exact Take1.head | apply Take1.tail))) ⟨_, (by repeat (first | exact TakeL.nil | (apply TakeL.cons; · repeat (first | exact Take1.head | apply Take1.tail))))⟩ ?_
                refine WD.one 11 (by kernel_rfl) ?_
                refine WO.sto rfl rfl .no (sto0 (b := b7) rfl rfl rfl (by repeat (first | exact Take1.head | apply Take1.tail))) ⟨_, (by repeat (first | exact TakeL.nil | (apply TakeL.cons; · repeat (first | exact Take1.head | apply Take1.tail))))⟩ ?_
                refine ro0 (by repeat (first | exact Take1.head | apply Take1.tail)) (by repeat (first | exact Take1.head | apply Take1.tail)) ?_
                refine WD.done (by kernel_rfl) ?_
                exact ⟨rfl, (b6, b7, (ao35, c35), (ao39, c39)), trivial, (by repeat (first | exact Sub.nil | refine Sub.cons rfl ?_)), (by repeat (first | exact Sub.nil | refine Sub.cons rfl ?_)), _, (by repeat (first | exact TakeL.nil | (apply TakeL.cons; · repeat (first | exact Take1.head | apply Take1.tail))))⟩
              · refine WO.to rfl rfl .no (To.alloc (cs := [.slice none 0 0]) zr22 rfl) rfl (fun _ => ⟨_, (by repeat (first | exact TakeL.nil | (apply TakeL.cons; · repeat (first | exact Take1.head | apply Take1.tail))))⟩) ?_ -- t7
                intro b7
                refine WD.one 7 (by kernel_rfl) ?_
                refine WO.to rfl rfl .no (app0 (xs := y) rfl rfl rfl (by repeat (first | exact Take1.head | apply Take1.tail)) (by repeat (first | exact Take1.head | apply Take1.tail)) (by omega)) rfl (fun _ => ⟨_, (by repeat (first | exact TakeL.nil | (apply TakeL.cons; · repeat (first | exact Take1.head | apply Take1.tail))))⟩) ?_
                rintro ⟨⟨ao39, c39⟩, hc39⟩
                dsimp only at hc39 ⊢
                refine WD.one 10 (by kernel_rfl) ?_
                refine WO.sto rfl rfl .no (sto0 (b := b6) rfl rfl rfl (by repeat (first | exact Take1.head | apply Take1.tail))) ⟨_, (by repeat (first | exact TakeL.nil | (apply TakeL.cons; · repeat (first | exact Take1.head | apply Take1.tail))))⟩ ?_
                refine WD.one 11 (by kernel_rfl) ?_
                refine WO.sto rfl rfl .no (sto0 (b := b7) rfl rfl rfl (by repeat (first | exact Take1.head | apply Take1.tail))) ⟨_, (by repeat (first | exact TakeL.nil | (apply TakeL.cons; · repeat (first | exact Take1.head | apply Take1.tail))))⟩ ?_
                refine ro0 (by repeat (first | exact Take1.head | apply Take1.tail)) (by repeat (first | exact Take1.head | apply Take1.tail)) ?_
                refine WD.done (by kernel_rfl) ?_
                exact ⟨rfl, (b6, b7, (ao35, c35), (ao39, c39)), trivial, (by repeat (first | exact Sub.nil | refine Sub.cons rfl ?_)), (by repeat (first | exact Sub.nil | refine Sub.cons rfl ?_)), _, (by repeat (first | exact TakeL.nil | (apply TakeL.cons; · repeat (first | exact Take1.head | apply Take1.tail))))⟩
            · refine WO.to rfl rfl .no (To.alloc (cs := [.slice none 0 0]) zr22 rfl) rfl (fun _ => ⟨_, (by repeat (first | exact TakeL.nil | (apply TakeL.cons; · repeat (first | exact Take1.head | apply Take1.tail))))⟩) ?_ -- t7
              intro b7
              refine WD.one 3 (by kernel_rfl) ?_
              refine WO.to rfl rfl .no (app0 (xs := x) rfl rfl rfl (by repeat (first | exact Take1.head | apply Take1.tail)) (by repeat (first | exact Take1.head | apply Take1.tail)) (by omega)) rfl (fun _ => ⟨_, (by repeat (first | exact TakeL.nil | (apply TakeL.cons; · repeat (first | exact Take1.head | apply Take1.tail))))⟩) ?_
              rintro ⟨⟨ao35, c35⟩, hc35⟩
              dsimp only at hc35 ⊢
              refine WD.one 7 (by kernel_rfl) ?_
              refine WO.to rfl rfl .no (app0 (xs := y) rfl rfl rfl (by repeat (first | exact Take1.head | apply Take1.tail)) (by repeat (first | exact Take1.head | apply Take1.tail)) (by omega)) rfl (fun _ => ⟨_, (by repeat (first | exact TakeL.nil | (apply TakeL.cons; · repeat (first | exact Take1.head | apply Take1.tail))))⟩) ?_
              rintro ⟨⟨ao39, c39⟩, hc39⟩
              dsimp only at hc39 ⊢
              refine WD.one 10 (by kernel_rfl) ?_
              refine WO.sto rfl rfl .no (sto0 (b := b6) rfl rfl rfl (by repeat (first | exact Take1.head | apply Take1.tail))) ⟨_, (by repeat (first | exact TakeL.nil | (apply TakeL.cons; · repeat (first | exact Take1.head | apply Take1.tail))))⟩ ?_
              refine WD.one 11 (by kernel_rfl) ?_
              refine WO.sto rfl rfl .no (sto0 (b := b7) rfl rfl rfl (by repeat (first | exact Take1.head | apply Take1.tail))) ⟨_, (by repeat (first | exact TakeL.nil | (apply TakeL.cons; · repeat (first | exact Take1.head | apply Take1.tail))))⟩ ?_
              refine ro0 (by repeat (first | exact Take1.head | apply Take1.tail)) (by repeat (first | exact Take1.head | apply Take1.tail)) ?_
              refine WD.done (by kernel_rfl) ?_
              exact ⟨rfl, (b6, b7, (ao35, c35), (ao39, c39)), trivial, (by repeat (first | exact Sub.nil | refine Sub.cons rfl ?_)), (by repeat (first | exact Sub.nil | refine Sub.cons rfl ?_)), _, (by repeat (first | exact TakeL.nil | (apply TakeL.cons; · repeat (first | exact Take1.head | apply Take1.tail))))⟩
          · refine WO.to rfl rfl .no (To.alloc (cs := [.slice none 0 0]) zr22 rfl) rfl (fun _ => ⟨_, (by repeat (first | exact TakeL.nil | (apply TakeL.cons; · repeat (first | exact Take1.head | apply Take1.tail))))⟩) ?_ -- t7
            intro b7
            refine WD.two 3 8 (by kernel_rfl) ?_ ?_
            · refine WO.to rfl rfl .no (app0 (xs := x) rfl rfl rfl (by repeat (first | exact Take1.head | apply Take1.tail)) (by repeat (first | exact Take1.head | apply Take1.tail)) (by omega)) rfl (fun _ => ⟨_, (by repeat (first | exact TakeL.nil | (apply TakeL.cons; · repeat (first | exact Take1.head | apply Take1.tail))))⟩) ?_
              rintro ⟨⟨ao35, c35⟩, hc35⟩
              dsimp only at hc35 ⊢
              refine WD.two 7 8 (by kernel_rfl) ?_ ?_
              · refine WO.to rfl rfl .no (app0 (xs := y) rfl rfl rfl (by repeat (first | exact Take1.head | apply Take1.tail)) (by repeat (first | exact Take1.head | apply Take1.tail)) (by omega)) rfl (fun _ => ⟨_, (by repeat (first | exact TakeL.nil | (apply TakeL.cons; · repeat (first | exact Take1.head | apply Take1.tail))))⟩) ?_
                rintro ⟨⟨ao39, c39⟩, hc39⟩
                dsimp only at hc39 ⊢
                refine WD.one 8 (by kernel_rfl) ?_
                refine WO.to rfl rfl .no (To.alloc (cs := [.slice none 0 0]) zr22 rfl) rfl (fun _ => ⟨_, (by repeat (first | exact TakeL.nil | (apply TakeL.cons; · repeat (first | exact Take1.head | apply Take1.tail))))⟩) ?_ -- t6
                intro b6
                refine WD.one 10 (by kernel_rfl) ?_
                refine WO.sto rfl rfl .no (sto0 (b := b6) rfl rfl rfl (by repeat (first | exact Take1.head | apply Take1.tail))) ⟨_, (by repeat (first | exact TakeL.nil | (apply TakeL.cons; · repeat (first | exact Take1.head | apply Take1.tail))))⟩ ?_
                refine WD.one 11 (by kernel_rfl) ?_
                refine WO.sto rfl rfl .no (sto0 (b := b7) rfl rfl rfl (by repeat (first | exact Take1.head | apply Take1.tail))) ⟨_, (by repeat (first | exact TakeL.nil | (apply TakeL.cons; · repeat (first | exact Take1.head | apply Take1.tail))))⟩ ?_
                refine ro0 (by repeat (first | exact Take1.head | apply Take1.tail)) (by repeat (first | exact Take1.head | apply Take1.tail)) ?_
                refine WD.done (by kernel_rfl) ?_
                exact ⟨rfl, (b6, b7, (ao35, c35), (ao39, c39)), trivial, (by repeat (first | exact Sub.nil | refine Sub.cons rfl ?_)), (by repeat (first | exact Sub.nil | refine Sub.cons rfl ?_)), _, (by repeat (first | exact TakeL.nil | (apply TakeL.cons; · repeat (first | exact Take1.head | apply Take1.tail))))⟩
              · refine WO.to rfl rfl .no (To.alloc (cs := [.slice none 0 0]) zr22 rfl) rfl (fun _ => ⟨_, (by repeat (first | exact TakeL.nil | (apply TakeL.cons; · repeat (first | exact Take1.head | apply Take1.tail))))⟩) ?_ -- t6
                intro b6
                refine WD.one 7 (by kernel_rfl) ?_
                refine WO.to rfl rfl .no (app0 (xs := y) rfl rfl rfl (by repeat (first | exact Take1.head | apply Take1.tail)) (by repeat (first | exact Take1.head | apply Take1.tail)) (by omega)) rfl (fun _ => ⟨_, (by repeat (first | exact TakeL.nil | (apply TakeL.cons; · repeat (first | exact Take1.head | apply Take1.tail))))⟩) ?_
                rintro ⟨⟨ao39, c39⟩, hc39⟩
                dsimp only at hc39 ⊢
                refine WD.one 10 (by kernel_rfl) ?_
                refine WO.sto rfl rfl .no (sto0 (b := b6) rfl rfl rfl (by repeat (first | exact Take1.head | apply Take1.tail))) ⟨_, (by repeat (first | exact TakeL.nil | (apply TakeL.cons; · repeat (first | exact Take1.head | apply Take1.tail))))⟩ ?_
                refine WD.one 11 (by kernel_rfl) ?_
                refine WO.sto rfl rfl .no (sto0 (b := b7) rfl rfl rfl (by repeat (first | exact Take1.head | apply Take1.tail))) ⟨_, (by repeat (first | exact TakeL.nil | (apply TakeL.cons; · repeat (first | exact Take1.head | apply Take1.tail))))⟩ ?_
                refine ro0 (by repeat (first | exact Take1.head | apply Take1.tail)) (by repeat (first | exact Take1.head | apply Take1.tail)) ?_
                refine WD.done (by kernel_rfl) ?_
                exact ⟨rfl, (b6, b7, (ao35, c35), (ao39, c39)), trivial, (by repeat (first | exact Sub.nil | refine Sub.cons rfl ?_)), (by repeat (first | exact Sub.nil | refine Sub.cons rfl ?_)), _, (by repeat (first | exact TakeL.nil | (apply TakeL.cons; · repeat (first | exact Take1.head | apply Take1.tail))))⟩
            · refine WO.to rfl rfl .no (To.alloc (cs := [.slice none 0 0]) zr22 rfl) rfl (fun _ => ⟨_, (by repeat (first | exact TakeL.nil | (apply TakeL.cons; · repeat (first | exact Take1.head | apply Take1.tail))))⟩) ?_ -- t6
              intro b6
              refine WD.one 3 (by kernel_rfl) ?_
              refine WO.to rfl rfl .no (app0 (xs := x) rfl rfl rfl (by repeat (first | exact Take1.head | apply Take1.tail)) (by repeat (first | exact Take1.head | apply Take1.tail)) (by omega)) rfl (fun _ => ⟨_, (by repeat (first | exact TakeL.nil | (apply TakeL.cons; · repeat (first | exact Take1.head | apply Take1.tail))))⟩) ?_
              rintro ⟨⟨ao35, c35⟩, hc35⟩
              dsimp only at hc35 ⊢
              refine WD.one 7 (by kernel_rfl) ?_
              refine WO.to rfl rfl .no (app0 (xs := y) rfl rfl rfl (by repeat (first | exact Take1.head | apply Take1.tail)) (by repeat (first | exact Take1.head | apply Take1.tail)) (by omega)) rfl (fun _ => ⟨_, (by repeat (first | exact TakeL.nil | (apply TakeL.cons; · repeat (first | exact Take1.head | apply Take1.tail))))⟩) ?_
              rintro ⟨⟨ao39, c39⟩, hc39⟩
              dsimp only at hc39 ⊢
              refine WD.one 10 (by kernel_rfl) ?_
              refine WO.sto rfl rfl .no (sto0 (b := b6) rfl rfl rfl (by repeat (first | exact Take1.head | apply Take1.tail))) ⟨_, (by repeat (first | exact TakeL.nil | (apply TakeL.cons; · repeat (first | exact Take1.head | apply Take1.tail))))⟩ ?_
              refine WD.one 11 (by kernel_rfl) ?_
              refine WO.sto rfl rfl .no (sto0 (b := b7) rfl rfl rfl (by repeat (first | exact Take1.head | apply Take1.tail))) ⟨_, (by repeat (first | exact TakeL.nil | (apply TakeL.cons; · repeat (first | exact Take1.head | apply Take1.tail))))⟩ ?_
              refine ro0 (by repeat (first | exact Take1.head | apply Take1.tail)) (by repeat (first | exact Take1.head | apply Take1.tail)) ?_
              refine WD.done (by kernel_rfl) ?_
              exact ⟨rfl, (b6, b7, (ao35, c35), (ao39, c39)), trivial, (by repeat (first | exact Sub.nil | refine Sub.cons rfl ?_)), (by repeat (first | exact Sub.nil | refine Sub.cons rfl ?_)), _, (by repeat (first | exact TakeL.nil | (apply TakeL.cons; · repeat (first | exact Take1.head | apply Take1.tail))))⟩
        · refine WO.to rfl rfl .no (To.alloc (cs := [.slice none 0 0]) zr22 rfl) rfl (fun _ => ⟨_, (by repeat (first | exact TakeL.nil | (apply TakeL.cons; · repeat (first | exact Take1.head | apply Take1.tail))))⟩) ?_ -- t6
          intro b6
          refine WD.three 3 4 9 (by kernel_rfl) ?_ ?_ ?_
          · refine WO.to rfl rfl .no (app0 (xs := x) rfl rfl rfl (by repeat (first | exact Take1.head | apply Take1.tail)) (by repeat (first | exact Take1.head | apply Take1.tail)) (by omega)) rfl (fun _ => ⟨_, (by repeat (first | exact TakeL.nil | (apply TakeL.cons; · repeat (first | exact Take1.head | apply Take1.tail))))⟩) ?_
            rintro ⟨⟨ao35, c35⟩, hc35⟩
            dsimp only at hc35 ⊢
            refine WD.two 4 9 (by kernel_rfl) ?_ ?_
            · refine WO.to rfl rfl .no (To.buildSlice (vs := []) un22 zs5 rfl rfl (by simp [Value.cells]) (by decide) (by decide)) rfl (fun _ => ⟨_, (by repeat (first | exact TakeL.nil | (apply TakeL.cons; · repeat (first | exact Take1.head | apply Take1.tail))))⟩) ?_ -- t36
              intro b36
              refine WD.view (fun w h => h.blkOwn (b := b36) (size := 1) (n := 0) (by repeat (first | exact Take1.head | apply Take1.tail)) (by unfold maxLen; omega) rfl) ?_
              refine WD.two 7 9 (by kernel_rfl) ?_ ?_
              · refine WO.to rfl rfl .no (app0 (xs := y) rfl rfl rfl (by repeat (first | exact Take1.head | apply Take1.tail)) (by repeat (first | exact Take1.head | apply Take1.tail)) (by omega)) rfl (fun _ => ⟨_, (by repeat (first | exact TakeL.nil | (apply TakeL.cons; · repeat (first | exact Take1.head | apply Take1.tail))))⟩) ?_
                rintro ⟨⟨ao39, c39⟩, hc39⟩
                dsimp only at hc39 ⊢
                refine WD.one 9 (by kernel_rfl) ?_
                refine WO.to rfl rfl .no (To.alloc (cs := [.slice none 0 0]) zr22 rfl) rfl (fun _ => ⟨_, (by repeat (first | exact TakeL.nil | (apply TakeL.cons; · repeat (first | exact Take1.head | apply Take1.tail))))⟩) ?_ -- t7
                intro b7
                refine WD.one 10 (by kernel_rfl) ?_
                refine WO.sto rfl rfl .no (sto0 (b := b6) rfl rfl rfl (by repeat (first | exact Take1.head | apply Take1.tail))) ⟨_, (by repeat (first | exact TakeL.nil | (apply TakeL.cons; · repeat (first | exact Take1.head | apply Take1.tail))))⟩ ?_
                refine WD.one 11 (by kernel_rfl) ?_
                refine WO.sto rfl rfl .no (sto0 (b := b7) rfl rfl rfl (by repeat (first | exact Take1.head | apply Take1.tail))) ⟨_, (by repeat (first | exact TakeL.nil | (apply TakeL.cons; · repeat (first | exact Take1.head | apply Take1.tail))))⟩ ?_
                refine ro0 (by repeat (first | exact Take1.head | apply Take1.tail)) (by repeat (first | exact Take1.head | apply Take1.tail)) ?_
                refine WD.done (by kernel_rfl) ?_
                exact ⟨rfl, (b6, b7, (ao35, c35), (ao39, c39)), trivial, (by repeat (first | exact Sub.nil | refine Sub.cons rfl ?_)), (by repeat (first | exact Sub.nil | refine Sub.cons rfl ?_)), _, (by repeat (first | exact TakeL.nil | (apply TakeL.cons; · repeat (first | exact Take1.head | apply Take1.tail))))⟩
              · refine WO.to rfl rfl .no (To.alloc (cs := [.slice none 0 0]) zr22 rfl) rfl (fun _ => ⟨_, (by repeat (first | exact TakeL.nil | (apply TakeL.cons; · repeat (first | exact Take1.head | apply Take1.tail))))⟩) ?_ -- t7
                intro b7
                refine WD.one 7 (by kernel_rfl) ?_
                refine WO.to rfl rfl .no (app0 (xs := y) rfl rfl rfl (by repeat (first | exact Take1.head | apply Take1.tail)) (by repeat (first | exact Take1.head | apply Take1.tail)) (by omega)) rfl (fun _ => ⟨_, (by repeat (first | exact TakeL.nil | (apply TakeL.cons; · repeat (first | exact Take1.head | apply Take1.tail))))⟩) ?_
                rintro ⟨⟨ao39, c39⟩, hc39⟩
                dsimp only at hc39 ⊢
                refine WD.one 10 (by kernel_rfl) ?_
                refine WO.sto rfl rfl .no (sto0 (b := b6) rfl rfl rfl (by repeat (first | exact Take1.head | apply Take1.tail))) ⟨_, (by repeat (first | exact TakeL.nil | (apply TakeL.cons; · repeat (first | exact Take1.head | apply Take1.tail))))⟩ ?_
                refine WD.one 11 (by kernel_rfl) ?_
                refine WO.sto rfl rfl .no (sto0 (b := b7) rfl rfl rfl (by repeat (first | exact Take1.head | apply Take1.tail))) ⟨_, (by repeat (first | exact TakeL.nil | (apply TakeL.cons; · repeat (first | exact Take1.head | apply Take1.tail))))⟩ ?_
                refine ro0 (by repeat (first | exact Take1.head | apply Take1.tail)) (by repeat (first | exact Take1.head | apply Take1.tail)) ?_
                refine WD.done (by kernel_rfl) ?_
                exact ⟨rfl, (b6, b7, (ao35, c35), (ao39, c39)), trivial, (by repeat (first | exact Sub.nil | refine Sub.cons rfl ?_)), (by repeat (first | exact Sub.nil | refine Sub.cons rfl ?_)), _, (by repeat (first | exact TakeL.nil | (apply TakeL.cons; · repeat (first | exact Take1.head | apply Take1.tail))))⟩
            · refine WO.to rfl rfl .no (To.alloc (cs := [.slice none 0 0]) zr22 rfl) rfl (fun _ => ⟨_, (by repeat (first | exact TakeL.nil | (apply TakeL.cons; · repeat (first | exact Take1.head | apply Take1.tail))))⟩) ?_ -- t7
              intro b7
              refine WD.one 4 (by kernel_rfl) ?_
              refine WO.to rfl rfl .no (To.buildSlice (vs := []) un22 zs5 rfl rfl (by simp [Value.cells]) (by decide) (by decide)) rfl (fun _ => ⟨_, (by repeat (first | exact TakeL.nil | (apply TakeL.cons; · repeat (first | exact Take1.head | apply Take1.tail))))⟩) ?_ -- t36
              intro b36
              refine WD.view (fun w h => h.blkOwn (b := b36) (size := 1) (n := 0) (by repeat (first | exact Take1.head | apply Take1.tail)) (by unfold maxLen; omega) rfl) ?_
              refine WD.one 7 (by kernel_rfl) ?_
              refine WO.to rfl rfl .no (app0 (xs := y) rfl rfl rfl (by repeat (first | exact Take1.head | apply Take1.tail)) (by repeat (first | exact Take1.head | apply Take1.tail)) (by omega)) rfl (fun _ => ⟨_, (by repeat (first | exact TakeL.nil | (apply TakeL.cons; · repeat (first | exact Take1.head | apply Take1.tail))))⟩) ?_
              rintro ⟨⟨ao39, c39⟩, hc39⟩
              dsimp only at hc39 ⊢
              refine WD.one 10 (by kernel_rfl) ?_
              refine WO.sto rfl rfl .no (sto0 (b := b6) rfl rfl rfl (by repeat (first | exact Take1.head | apply Take1.tail))) ⟨_, (by repeat (first | exact TakeL.nil | (apply TakeL.cons; · repeat (first | exact Take1.head | apply Take1.tail))))⟩ ?_
              refine WD.one 11 (by kernel_rfl) ?_
              refine WO.sto rfl rfl .no (sto0 (b := b7) rfl rfl rfl (by repeat (first | exact Take1.head | apply Take1.tail))) ⟨_, (by repeat (first | exact TakeL.nil | (apply TakeL.cons; · repeat (first | exact Take1.head | apply Take1.tail))))⟩ ?_
              refine ro0 (by repeat (first | exact Take1.head | apply Take1.tail)) (by repeat (first | exact Take1.head | apply Take1.tail)) ?_
              refine WD.done (by kernel_rfl) ?_
              exact ⟨rfl, (b6, b7, (ao35, c35), (ao39, c39)), trivial, (by repeat (first | exact Sub.nil | refine Sub.cons rfl ?_)), (by repeat (first | exact Sub.nil | refine Sub.cons rfl ?_)), _, (by repeat (first | exact TakeL.nil | (apply TakeL.cons; · repeat (first | exact Take1.head | apply Take1.tail))))⟩
          · refine WO.to rfl rfl .no (To.buildSlice (vs := []) un22 zs5 rfl rfl (by simp [Value.cells]) (by decide) (by decide)) rfl (fun _ => ⟨_, (by repeat (first | exact TakeL.nil | (apply TakeL.cons; · repeat (first | exact Take1.head | apply Take1.tail))))⟩) ?_ -- t36
            intro b36
            refine WD.view (fun w h => h.blkOwn (b := b36) (size := 1) (n := 0) (by repeat (first | exact Take1.head | apply Take1.tail)) (by unfold maxLen; omega) rfl) ?_
            refine WD.two 3 9 (by kernel_rfl) ?_ ?_
            · refine WO.to rfl rfl .no (app0 (xs := x) rfl rfl rfl (by repeat (first | exact Take1.head | apply Take1.tail)) (by repeat (first | exact Take1.head | apply Take1.tail)) (by omega)) rfl (fun _ => ⟨_, (by repeat (first | exact TakeL.nil | (apply TakeL.cons; · repeat (first | exact Take1.head | apply Take1.tail))))⟩) ?_
              rintro ⟨⟨ao35, c35⟩, hc35⟩
              dsimp only at hc35 ⊢
              refine WD.two 7 9 (by kernel_rfl) ?_ ?_
              · refine WO.to rfl rfl .no (app0 (xs := y) rfl rfl rfl (by repeat (first | exact Take1.head | apply Take1.tail)) (by repeat (first | exact Take1.head | apply Take1.tail)) (by omega)) rfl (fun _ => ⟨_, (by repeat (first | exact TakeL.nil | (apply TakeL.cons; · repeat (first | exact Take1.head | apply Take1.tail))))⟩) ?_
                rintro ⟨⟨ao39, c39⟩, hc39⟩
                dsimp only at hc39 ⊢
                refine WD.one 9 (by kernel_rfl) ?_
                refine WO.to rfl rfl .no (To.alloc (cs := [.slice none 0 0]) zr22 rfl) rfl (fun _ => ⟨_, (by repeat (first | exact TakeL.nil | (apply TakeL.cons; · repeat (first | exact Take1.head | apply Take1.tail))))⟩) ?_ -- t7
                intro b7
                refine WD.one 10 (by kernel_rfl) ?_
                refine WO.sto rfl rfl .no (sto0 (b := b6) rfl rfl rfl (by repeat (first | exact Take1.head | apply Take1.tail))) ⟨_, (by repeat (first | exact TakeL.nil | (apply TakeL.cons; · repeat (first | exact Take1.head | apply Take1.tail))))⟩ ?_
                refine WD.one 11 (by kernel_rfl) ?_
                refine WO.sto rfl rfl .no (sto0 (b := b7) rfl rfl rfl (by repeat (first | exact Take1.head | apply Take1.tail))) ⟨_, (by repeat (first | exact TakeL.nil | (apply TakeL.cons; · repeat (first | exact Take1.head | apply Take1.tail))))⟩ ?_
                refine ro0 (by repeat (first | exact Take1.head | apply Take1.tail)) (by repeat (first | exact Take1.head | apply Take1.tail)) ?_
                refine WD.done (by kernel_rfl) ?_
                exact ⟨rfl, (b6, b7, (ao35, c35), (ao39, c39)), trivial, (by repeat (first | exact Sub.nil | refine Sub.cons rfl ?_)), (by repeat (first | exact Sub.nil | refine Sub.cons rfl ?_)), _, (by repeat (first | exact TakeL.nil | (apply TakeL.cons; · repeat (first | exact Take1.head | apply Take1.tail))))⟩
              · refine WO.to rfl rfl .no (To.alloc (cs := [.slice none 0 0]) zr22 rfl) rfl (fun _ => ⟨_, (by repeat (first | exact TakeL.nil | (apply TakeL.cons; · repeat (first | exact Take1.head | apply Take1.tail))))⟩) ?_ -- t7
                intro b7
                refine WD.one 7 (by kernel_rfl) ?_
                refine WO.to rfl rfl .no (app0 (xs := y) rfl rfl rfl (by repeat (first | exact Take1.head | apply Take1.tail)) (by repeat (first | exact Take1.head | apply Take1.tail)) (by omega)) rfl (fun _ => ⟨_, (by repeat (first | exact TakeL.nil | (apply TakeL.cons; · repeat (first | exact Take1.head | apply Take1.tail))))⟩) ?_
                rintro ⟨⟨ao39, c39⟩, hc39⟩
                dsimp only at hc39 ⊢
                refine WD.one 10 (by kernel_rfl) ?_
                refine WO.sto rfl rfl .no (sto0 (b := b6) rfl rfl rfl (by repeat (first | exact Take1.head | apply Take1.tail))) ⟨_, (by repeat (first | exact TakeL.nil | (apply TakeL.cons; · repeat (first | exact Take1.head | apply Take1.tail))))⟩ ?_
                refine WD.one 11 (by kernel_rfl) ?_
                refine WO.sto rfl rfl .no (sto0 (b := b7) rfl rfl rfl (by repeat (first | exact Take1.head | apply Take1.tail))) ⟨_, (by repeat (first | exact TakeL.nil | (apply TakeL.cons; · repeat (first | exact Take1.head | apply Take1.tail))))⟩ ?_
                refine ro0 (by repeat (first | exact Take1.head | apply Take1.tail)) (by repeat (first | exact Take1.head | apply Take1.tail)) ?_
                refine WD.done (by kernel_rfl) ?_
                exact ⟨rfl, (b6, b7, (ao35, c35), (ao39, c39)), trivial, (by repeat (first | exact Sub.nil | refine Sub.cons rfl ?_)), (by repeat (first | exact Sub.nil | refine Sub.cons rfl ?_)), _, (by repeat (first | exact TakeL.nil | (apply TakeL.cons; · repeat (first | exact Take1.head | apply Take1.tail))))⟩
            · refine WO.to rfl rfl .no (To.alloc (cs := [.slice none 0 0]) zr22 rfl) rfl (fun _ => ⟨_, (by repeat (first | exact TakeL.nil | (apply TakeL.cons; · repeat (first | exact Take1.head | apply Take1.tail))))⟩) ?_ -- t7
              intro b7
              refine WD.one 3 (by kernel_rfl) ?_
              refine WO.to rfl rfl .no (app0 (xs := x) rfl rfl rfl (by repeat (first | exact Take1.head | apply Take1.tail)) (by repeat (first | exact Take1.head | apply Take1.tail)) (by omega)) rfl (fun _ => ⟨_, (by repeat (first | exact TakeL.nil | (apply TakeL.cons; · repeat (first | exact Take1.head | apply Take1.tail))))⟩) ?_
              rintro ⟨⟨ao35, c35⟩, hc35⟩
              dsimp only at hc35 ⊢
              refine WD.one 7 (by kernel_rfl) ?_
              refine WO.to rfl rfl .no (app0 (xs := y) rfl rfl rfl (by repeat (first | exact Take1.head | apply Take1.tail)) (by repeat (first | exact Take1.head | apply Take1.tail)) (by omega)) rfl (fun _ => ⟨_, (by repeat (first | exact TakeL.nil | (apply TakeL.cons; · repeat (first | exact Take1.head | apply Take1.tail))))⟩) ?_
              rintro ⟨⟨ao39, c39⟩, hc39⟩
              dsimp only at hc39 ⊢
              refine WD.one 10 (by kernel_rfl) ?_
              refine WO.sto rfl rfl .no (sto0 (b := b6) rfl rfl rfl (by repeat (first | exact Take1.head | apply Take1.tail))) ⟨_, (by repeat (first | exact TakeL.nil | (apply TakeL.cons; · repeat (first | exact Take1.head | apply Take1.tail))))⟩ ?_
              refine WD.one 11 (by kernel_rfl) ?_
              refine WO.sto rfl rfl .no (sto0 (b := b7) rfl rfl rfl (by repeat (first | exact Take1.head | apply Take1.tail))) ⟨_, (by repeat (first | exact TakeL.nil | (apply TakeL.cons; · repeat (first | exact Take1.head | apply Take1.tail))))⟩ ?_
              refine ro0 (by repeat (first | exact Take1.head | apply Take1.tail)) (by repeat (first | exact Take1.head | apply Take1.tail)) ?_
              refine WD.done (by kernel_rfl) ?_
              exact ⟨rfl, (b6, b7, (ao35, c35), (ao39, c39)), trivial, (by repeat (first | exact Sub.nil | refine Sub.cons rfl ?_)), (by repeat (first | exact Sub.nil | refine Sub.cons rfl ?_)), _, (by repeat (first | exact TakeL.nil | (apply TakeL.cons; · repeat (first | exact Take1.head | apply Take1.tail))))⟩
          · refine WO.to rfl rfl .no (To.alloc (cs := [.slice none 0 0]) zr22 rfl) rfl (fun _ => ⟨_, (by repeat (first | exact TakeL.nil | (apply TakeL.cons; · repeat (first | exact Take1.head | apply Take1.tail))))⟩) ?_ -- t7
            intro b7
            refine WD.two 3 4 (by kernel_rfl) ?_ ?_
            · refine WO.to rfl rfl .no (app0 (xs := x) rfl rfl rfl (by repeat (first | exact Take1.head | apply Take1.tail)) (by repeat (first | exact Take1.head | apply Take1.tail)) (by omega)) rfl (fun _ => ⟨_, (by repeat (first | exact TakeL.nil | (apply TakeL.cons; · repeat (first | exact Take1.head | apply Take1.tail))))⟩) ?_
              rintro ⟨⟨ao35, c35⟩, hc35⟩
              dsimp only at hc35 ⊢
              refine WD.one 4 (by kernel_rfl) ?_
              refine WO.to rfl rfl .no (To.buildSlice (vs := []) un22 zs5 rfl rfl (by simp [Value.cells]) (by decide) (by decide)) rfl (fun _ => ⟨_, (by repeat (first | exact TakeL.nil | (apply TakeL.cons; · repeat (first | exact Take1.head | apply Take1.tail))))⟩) ?_ -- t36
              intro b36
              refine WD.view (fun w h => h.blkOwn (b := b36) (size := 1) (n := 0) (by repeat (first | exact Take1.head | apply Take1.tail)) (by unfold maxLen; omega) rfl) ?_
              refine WD.one 7 (by kernel_rfl) ?_
              refine WO.to rfl rfl .no (app0 (xs := y) rfl rfl rfl (by repeat (first | exact Take1.head | apply Take1.tail)) (by repeat (first | exact Take1.head | apply Take1.tail)) (by omega)) rfl (fun _ => ⟨_, (by repeat (first | exact TakeL.nil | (apply TakeL.cons; · repeat (first | exact Take1.head | apply Take1.tail))))⟩) ?_
              rintro ⟨⟨ao39, c39⟩, hc39⟩
              dsimp only at hc39 ⊢
              refine WD.one 10 (by kernel_rfl) ?_
              refine WO.sto rfl rfl .no (sto0 (b := b6) rfl rfl rfl (by repeat (first | exact Take1.head | apply Take1.tail))) ⟨_, (by repeat (first | exact TakeL.nil | (apply TakeL.cons; · repeat (first | exact Take1.head | apply Take1.tail))))⟩ ?_
              refine WD.one 11 (by kernel_rfl) ?_
              refine WO.sto rfl rfl .no (sto0 (b := b7) rfl rfl rfl (by repeat (first | exact Take1.head | apply Take1.tail))) ⟨_, (by repeat (first | exact TakeL.nil | (apply TakeL.cons; · repeat (first | exact Take1.head | apply Take1.tail))))⟩ ?_
              refine ro0 (by repeat (first | exact Take1.head | apply Take1.tail)) (by repeat (first | exact Take1.head | apply Take1.tail)) ?_
              refine WD.done (by kernel_rfl) ?_
              exact ⟨rfl, (b6, b7, (ao35, c35), (ao39, c39)), trivial, (by repeat (first | exact Sub.nil | refine Sub.cons rfl ?_)), (by repeat (first | exact Sub.nil | refine Sub.cons rfl ?_)), _, (by repeat (first | exact TakeL.nil | (apply TakeL.cons; · repeat (first | exact Take1.head | apply Take1.tail))))⟩
            · refine WO.to rfl rfl .no (To.buildSlice (vs := []) un22 zs5 rfl rfl (by simp [Value.cells]) (by decide) (by decide)) rfl (fun _ => ⟨_, (by repeat (first | exact TakeL.nil | (apply TakeL.cons; · repeat (first | exact Take1.head | apply Take1.tail))))⟩) ?_ -- t36
              intro b36
              refine WD.view (fun w h => h.blkOwn (b := b36) (size := 1) (n := 0) (by repeat (first | exact Take1.head | apply Take1.tail)) (by unfold maxLen; omega) rfl) ?_
              refine WD.one 3 (by kernel_rfl) ?_
              refine WO.to rfl rfl .no (app0 (xs := x) rfl rfl rfl (by repeat (first | exact Take1.head | apply Take1.tail)) (by repeat (first | exact Take1.head | apply Take1.tail)) (by omega)) rfl (fun _ => ⟨_, (by repeat (first | exact TakeL.nil | (apply TakeL.cons; · repeat (first | exact Take1.head | apply Take1.tail))))⟩) ?_
              rintro ⟨⟨ao35, c35⟩, hc35⟩
              dsimp only at hc35 ⊢
              refine WD.one 7 (by kernel_rfl) ?_
              refine WO.to rfl rfl .no (app0 (xs := y) rfl rfl rfl (by repeat (first | exact Take1.head | apply Take1.tail)) (by repeat (first | exact Take1.head | apply Take1.tail)) (by omega)) rfl (fun _ => ⟨_, (by repeat (first | exact TakeL.nil | (apply TakeL.cons; · repeat (first | exact Take1.head | apply Take1.tail))))⟩) ?_
              rintro ⟨⟨ao39, c39⟩, hc39⟩
              dsimp only at hc39 ⊢
              refine WD.one 10 (by kernel_rfl) ?_
              refine WO.sto rfl rfl .no (sto0 (b := b6) rfl rfl rfl (by repeat (first | exact Take1.head | apply Take1.tail))) ⟨_, (by repeat (first | exact TakeL.nil | (apply TakeL.cons; · repeat (first | exact Take1.head | apply Take1.tail))))⟩ ?_
              refine WD.one 11 (by kernel_rfl) ?_
              refine WO.sto rfl rfl .no (sto0 (b := b7) rfl rfl rfl (by repeat (first | exact Take1.head | apply Take1.tail))) ⟨_, (by repeat (first | exact TakeL.nil | (apply TakeL.cons; · repeat (first | exact Take1.head | apply Take1.tail))))⟩ ?_
              refine ro0 (by repeat (first | exact Take1.head | apply Take1.tail)) (by repeat (first | exact Take1.head | apply Take1.tail)) ?_
              refine WD.done (by kernel_rfl) ?_
              exact ⟨rfl, (b6, b7, (ao35, c35), (ao39, c39)), trivial, (by repeat (first | exact Sub.nil | refine Sub.cons rfl ?_)), (by repeat (first | exact Sub.nil | refine Sub.cons rfl ?_)), _, (by repeat (first | exact TakeL.nil | (apply TakeL.cons; · repeat (first | exact Take1.head | apply Take1.tail))))⟩
        · refine WO.to rfl rfl .no (To.alloc (cs := [.slice none 0 0]) zr22 rfl) rfl (fun _ => ⟨_, (by repeat (first | exact TakeL.nil | (apply TakeL.cons; · repeat (first | exact Take1.head | apply Take1.tail))))⟩) ?_ -- t7
          intro b7
          refine WD.three 3 4 8 (by kernel_rfl) ?_ ?_ ?_
          · refine WO.to rfl rfl .no (app0 (xs := x) rfl rfl rfl (by repeat (first | exact Take1.head | apply Take1.tail)) (by repeat (first | exact Take1.head | apply Take1.tail)) (by omega)) rfl (fun _ => ⟨_, (by repeat (first | exact TakeL.nil | (apply TakeL.cons; · repeat (first | exact Take1.head | apply Take1.tail))))⟩) ?_
            rintro ⟨⟨ao35, c35⟩, hc35⟩
            dsimp only at hc35 ⊢
            refine WD.two 4 8 (by kernel_rfl) ?_ ?_
            · refine WO.to rfl rfl .no (To.buildSlice (vs := []) un22 zs5 rfl rfl (by simp [Value.cells]) (by decide) (by decide)) rfl (fun _ => ⟨_, (by repeat (first | exact TakeL.nil | (apply TakeL.cons; · repeat (first | exact Take1.head | apply Take1.tail))))⟩) ?_ -- t36
              intro b36
              refine WD.view (fun w h => h.blkOwn (b := b36) (size := 1) (n := 0) (by repeat (first | exact Take1.head | apply Take1.tail)) (by unfold maxLen; omega) rfl) ?_
              refine WD.two 7 8 (by kernel_rfl) ?_ ?_
              · refine WO.to rfl rfl .no (app0 (xs := y) rfl rfl rfl (by repeat (first | exact Take1.head | apply Take1.tail)) (by repeat (first | exact Take1.head | apply Take1.tail)) (by omega)) rfl (fun _ => ⟨_, (by repeat (first | exact TakeL.nil | (apply TakeL.cons; · repeat (first | exact Take1.head | apply Take1.tail))))⟩) ?_
                rintro ⟨⟨ao39, c39⟩, hc39⟩
                dsimp only at hc39 ⊢
                refine WD.one 8 (by kernel_rfl) ?_
                refine WO.to rfl rfl .no (To.alloc (cs := [.slice none 0 0]) zr22 rfl) rfl (fun _ => ⟨_, (by repeat (first | exact TakeL.nil | (apply TakeL.cons; · repeat (first | exact Take1.head | apply Take1.tail))))⟩) ?_ -- t6
                intro b6
                refine WD.one 10 (by kernel_rfl) ?_
                refine WO.sto rfl rfl .no (sto0 (b := b6) rfl rfl rfl (by repeat (first | exact Take1.head | apply Take1.tail))) ⟨_, (by repeat (first | exact TakeL.nil | (apply TakeL.cons; · repeat (first | exact Take1.head | apply Take1.tail))))⟩ ?_
                refine WD.one 11 (by kernel_rfl) ?_
                refine WO.sto rfl rfl .no (sto0 (b := b7) rfl rfl rfl (by repeat (first | exact Take1.head | apply Take1.tail))) ⟨_, (by repeat (first | exact TakeL.nil | (apply TakeL.cons; · repeat (first | exact Take1.head | apply Take1.tail))))⟩ ?_
                refine ro0 (by repeat (first | exact Take1.head | apply Take1.tail)) (by repeat (first | exact Take1.head | apply Take1.tail)) ?_
                refine WD.done (by kernel_rfl) ?_
                exact ⟨rfl, (b6, b7, (ao35, c35), (ao39, c39)), trivial, (by repeat (first | exact Sub.nil | refine Sub.cons rfl ?_)), (by repeat (first | exact Sub.nil | refine Sub.cons rfl ?_)), _, (by repeat (first | exact TakeL.nil | (apply TakeL.cons; · repeat (first | exact Take1.head | apply Take1.tail))))⟩
              · refine WO.to rfl rfl .no (To.alloc (cs := [.slice none 0 0]) zr22 rfl) rfl (fun _ => ⟨_, (by repeat (first | exact TakeL.nil | (apply TakeL.cons; · repeat (first | exact Take1.head | apply Take1.tail))))⟩) ?_ -- t6
                intro b6
                refine WD.one 7 (by kernel_rfl) ?_
                refine WO.to rfl rfl .no (app0 (xs := y) rfl rfl rfl (by repeat (first | exact Take1.head | apply Take1.tail)) (by repeat (first | exact Take1.head | apply Take1.tail)) (by omega)) rfl (fun _ => ⟨_, (by repeat (first | exact TakeL.nil | (apply TakeL.cons; · repeat (first | exact Take1.head | apply Take1.tail))))⟩) ?_
                rintro ⟨⟨ao39, c39⟩, hc39⟩
                dsimp only at hc39 ⊢
                refine WD.one 10 (by kernel_rfl) ?_
                refine WO.sto rfl rfl .no (sto0 (b := b6) rfl rfl rfl (by repeat (first | exact Take1.head | apply Take1.tail))) ⟨_, (by repeat (first | exact TakeL.nil | (apply TakeL.cons; · repeat (first | exact Take1.head | apply Take1.tail))))⟩ ?_
                refine WD.one 11 (by kernel_rfl) ?_
                refine WO.sto rfl rfl .no (sto0 (b := b7) rfl rfl rfl (by repeat (first | exact Take1.head | apply Take1.tail))) ⟨_, (by repeat (first | exact TakeL.nil | (apply TakeL.cons; · repeat (first | exact Take1.head | apply Take1.tail))))⟩ ?_
                refine ro0 (by repeat (first | exact Take1.head | apply Take1.tail)) (by repeat (first | exact Take1.head | apply Take1.tail)) ?_
                refine WD.done (by kernel_rfl) ?_
                exact ⟨rfl, (b6, b7, (ao35, c35), (ao39, c39)), trivial, (by repeat (first | exact Sub.nil | refine Sub.cons rfl ?_)), (by repeat (first | exact Sub.nil | refine Sub.cons rfl ?_)), _, (by repeat (first | exact TakeL.nil | (apply TakeL.cons; · repeat (first | exact Take1.head | apply Take1.tail))))⟩
            · refine WO.to rfl rfl .no (To.alloc (cs := [.slice none 0 0]) zr22 rfl) rfl (fun _ => ⟨_, (by repeat (first | exact TakeL.nil | (apply TakeL.cons; · repeat (first | exact Take1.head | apply Take1.tail))))⟩) ?_ -- t6
              intro b6
              refine WD.one 4 (by kernel_rfl) ?_
              refine WO.to rfl rfl .no (To.buildSlice (vs := []) un22 zs5 rfl rfl (by simp [Value.cells]) (by decide) (by decide)) rfl (fun _ => ⟨_, (by repeat (first | exact TakeL.nil | (apply TakeL.cons; · repeat (first | exact Take1.head | apply Take1.tail))))⟩) ?_ -- t36
              intro b36
              refine WD.view (fun w h => h.blkOwn (b := b36) (size := 1) (n := 0) (by repeat (first | exact Take1.head | apply Take1.tail)) (by unfold maxLen; omega) rfl) ?_
              refine WD.one 7 (by kernel_rfl) ?_
              refine WO.to rfl rfl .no (app0 (xs := y) rfl rfl rfl (by repeat (first | exact Take1.head | apply Take1.tail)) (by repeat (first | exact Take1.head | apply Take1.tail)) (by omega)) rfl (fun _ => ⟨_, (by repeat (first | exact TakeL.nil | (apply TakeL.cons; · repeat (first | exact Take1.head | apply Take1.tail))))⟩) ?_
              rintro ⟨⟨ao39, c39⟩, hc39⟩
              dsimp only at hc39 ⊢
              refine WD.one 10 (by kernel_rfl) ?_
              refine WO.sto rfl rfl .no (sto0 (b := b6) rfl rfl rfl (by repeat (first | exact Take1.head | apply Take1.tail))) ⟨_, (by repeat (first | exact TakeL.nil | (apply TakeL.cons; · repeat (first | exact Take1.head | apply Take1.tail))))⟩ ?_
              refine WD.one 11 (by kernel_rfl) ?_
              refine WO.sto rfl rfl .no (sto0 (b := b7) rfl rfl rfl (by repeat (first | exact Take1.head | apply Take1.tail))) ⟨_, (by repeat (first | exact TakeL.nil | (apply TakeL.cons; · repeat (first | exact Take1.head | apply Take1.tail))))⟩ ?_
              refine ro0 (by repeat (first | exact Take1.head | apply Take1.tail)) (by repeat (first | exact Take1.head | apply Take1.tail)) ?_
              refine WD.done (by kernel_rfl) ?_
              exact ⟨rfl, (b6, b7, (ao35, c35), (ao39, c39)), trivial, (by repeat (first | exact Sub.nil | refine Sub.cons rfl ?_)), (by repeat (first | exact Sub.nil | refine Sub.cons rfl ?_)), _, (by repeat (first | exact TakeL.nil | (apply TakeL.cons; · repeat (first | exact Take1.head | apply Take1.tail))))⟩
          · refine WO.to rfl rfl .no (To.buildSlice (vs := []) un22 zs5 rfl rfl (by simp [Value.cells]) (by decide) (by decide)) rfl (fun _ => ⟨_, (by repeat (first | exact TakeL.nil | (apply TakeL.cons; · repeat (first | exact Take1.head | apply Take1.tail))))⟩) ?_ -- t36
            intro b36
            refine WD.view (fun w h => h.blkOwn (b := b36) (size := 1) (n := 0) (by repeat (first | exact Take1.head | apply Take1.tail)) (by unfold maxLen; omega) rfl) ?_
            refine WD.two 3 8 (by kernel_rfl) ?_ ?_
            · refine WO.to rfl rfl .no (app0 (xs := x) rfl rfl rfl (by repeat (first | exact Take1.head | apply Take1.tail)) (by repeat (first | exact Take1.head | apply Take1.tail)) (by omega)) rfl (fun _ => ⟨_, (by repeat (first | exact TakeL.nil | (apply TakeL.cons; · repeat (first | exact Take1.head | apply Take1.tail))))⟩) ?_
              rintro ⟨⟨ao35, c35⟩, hc35⟩
              dsimp only at hc35 ⊢
              refine WD.two 7 8 (by kernel_rfl) ?_ ?_
              · refine WO.to rfl rfl .no (app0 (xs := y) rfl rfl rfl (by repeat (first | exact Take1.head | apply Take1.tail)) (by repeat (first | exact Take1.head | apply Take1.tail)) (by omega)) rfl (fun _ => ⟨_, (by repeat (first | exact TakeL.nil | (apply TakeL.cons; · repeat (first | exact Take1.head | apply Take1.tail))))⟩) ?_
                rintro ⟨⟨ao39, c39⟩, hc39⟩
                dsimp only at hc39 ⊢
                refine WD.one 8 (by kernel_rfl) ?_
                refine WO.to rfl rfl .no (To.alloc (cs := [.slice none 0 0]) zr22 rfl) rfl (fun _ => ⟨_, (by repeat (first | exact TakeL.nil | (apply TakeL.cons; · repeat (first | exact Take1.head | apply Take1.tail))))⟩) ?_ -- t6
                intro b6
                refine WD.one 10 (by kernel_rfl) ?_
                refine WO.sto rfl rfl .no (sto0 (b := b6) rfl rfl rfl (by repeat (first | exact Take1.head | apply Take1.tail))) ⟨_, (by repeat (first | exact TakeL.nil | (apply TakeL.cons; · repeat (first | exact Take1.head | apply Take1.tail))))⟩ ?_
                refine WD.one 11 (by kernel_rfl) ?_
                refine WO.sto rfl rfl .no (sto0 (b := b7) rfl rfl rfl (by repeat (first | exact Take1.head | apply Take1.tail))) ⟨_, (by repeat (first | exact TakeL.nil | (apply TakeL.cons; · repeat (first | exact Take1.head | apply Take1.tail))))⟩ ?_
                refine ro0 (by repeat (first | exact Take1.head | apply Take1.tail)) (by repeat (first | exact Take1.head | apply Take1.tail)) ?_
                refine WD.done (by kernel_rfl) ?_
                exact ⟨rfl, (b6, b7, (ao35, c35), (ao39, c39)), trivial, (by repeat (first | exact Sub.nil | refine Sub.cons rfl ?_)), (by repeat (first | exact Sub.nil | refine Sub.cons rfl ?_)), _, (by repeat (first | exact TakeL.nil | (apply TakeL.cons; · repeat (first | exact Take1.head | apply Take1.tail))))⟩
              · refine WO.to rfl rfl .no (To.alloc (cs := [.slice none 0 0]) zr22 rfl) rfl (fun _ => ⟨_, (by repeat (first | exact TakeL.nil | (apply TakeL.cons; · repeat (first | exact Take1.head | apply Take1.tail))))⟩) ?_ -- t6
                intro b6
                refine WD.one 7 (by kernel_rfl) ?_
                refine WO.to rfl rfl .no (app0 (xs := y) rfl rfl rfl (by repeat (first | exact Take1.head | apply Take1.tail)) (by repeat (first | exact Take1.head | apply Take1.tail)) (by omega)) rfl (fun _ => ⟨_, (by repeat (first | exact TakeL.nil | (apply TakeL.cons; · repeat (first | exact Take1.head | apply Take1.tail))))⟩) ?_
                rintro ⟨⟨ao39, c39⟩, hc39⟩
                dsimp only at hc39 ⊢
                refine WD.one 10 (by kernel_rfl) ?_
                refine WO.sto rfl rfl .no (sto0 (b := b6) rfl rfl rfl (by repeat (first | exact Take1.head | apply Take1.tail))) ⟨_, (by repeat (first | exact TakeL.nil | (apply TakeL.cons; · repeat (first | exact Take1.head | apply Take1.tail))))⟩ ?_
                refine WD.one 11 (by kernel_rfl) ?_
                refine WO.sto rfl rfl .no (sto0 (b := b7) rfl rfl rfl (by repeat (first | exact Take1.head | apply Take1.tail))) ⟨_, (by repeat (first | exact TakeL.nil | (apply TakeL.cons; · repeat (first | exact Take1.head | apply Take1.tail))))⟩ ?_
                refine ro0 (by repeat (first | exact Take1.head | apply Take1.tail)) (by repeat (first | exact Take1.head | apply Take1.tail)) ?_
                refine WD.done (by kernel_rfl) ?_
                exact ⟨rfl, (b6, b7, (ao35, c35), (ao39, c39)), trivial, (by repeat (first | exact Sub.nil | refine Sub.cons rfl ?_)), (by repeat (first | exact Sub.nil | refine Sub.cons rfl ?_)), _, (by repeat (first | exact TakeL.nil | (apply TakeL.cons; · repeat (first | exact Take1.head | apply Take1.tail))))⟩
            · refine WO.to rfl rfl .no (To.alloc (cs := [.slice none 0 0]) zr22 rfl) rfl (fun _ => ⟨_, (by repeat (first | exact TakeL.nil | (apply TakeL.cons; · repeat (first | exact Take1.head | apply Take1.tail))))⟩) ?_ -- t6
              intro b6
              refine WD.one 3 (by kernel_rfl) ?_
              refine WO.to rfl rfl .no (app0 (xs := x) rfl rfl rfl (by repeat (first | exact Take1.head | apply Take1.tail)) (by repeat (first | exact Take1.head | apply Take1.tail)) (by omega)) rfl (fun _ => ⟨_, (by repeat (first | exact TakeL.nil | (apply TakeL.cons; · repeat (first | exact Take1.head | apply Take1.tail))))⟩) ?_
              rintro ⟨⟨ao35, c35⟩, hc35⟩
              dsimp only at hc35 ⊢
              refine WD.one 7 (by kernel_rfl) ?_
              refine WO.to rfl rfl .no (app0 (xs := y) rfl rfl rfl (by repeat (first | exact Take1.head | apply Take1.tail)) (by repeat (first | exact Take1.head | apply Take1.tail)) (by omega)) rfl (fun _ => ⟨_, (by repeat (first | exact TakeL.nil | (apply TakeL.cons; · repeat (first | exact Take1.head | apply Take1.tail))))⟩) ?_
              rintro ⟨⟨ao39, c39⟩, hc39⟩
              dsimp only at hc39 ⊢
              refine WD.one 10 (by kernel_rfl) ?_
              refine WO.sto rfl rfl .no (sto0 (b := b6) rfl rfl rfl (by repeat (first | exact Take1.head | apply Take1.tail))) ⟨_, (by repeat (first | exact TakeL.nil | (apply TakeL.cons; · repeat (first | exact Take1.head | apply Take1.tail))))⟩ ?_
              refine WD.one 11 (by kernel_rfl) ?_
              refine WO.sto rfl rfl .no (sto0 (b := b7) rfl rfl rfl (by repeat (first | exact Take1.head | apply Take1.tail))) ⟨_, (by repeat (first | exact TakeL.nil | (apply TakeL.cons; · repeat (first | exact Take1.head | apply Take1.tail))))⟩ ?_
              refine ro0 (by repeat (first | exact Take1.head | apply Take1.tail)) (by repeat (first | exact Take1.head | apply Take1.tail)) ?_
              refine WD.done (by kernel_rfl) ?_
              exact ⟨rfl, (b6, b7, (ao35, c35), (ao39, c39)), trivial, (by repeat (first | exact Sub.nil | refine Sub.cons rfl ?_)), (by repeat (first | exact Sub.nil | refine Sub.cons rfl ?_)), _, (by repeat (first | exact TakeL.nil | (apply TakeL.cons; · repeat (first | exact Take1.head | apply Take1.tail))))⟩
          · refine WO.to rfl rfl .no (To.alloc (cs := [.slice none 0 0]) zr22 rfl) rfl (fun _ => ⟨_, (by repeat (first | exact TakeL.nil | (apply TakeL.cons; · repeat (first | exact Take1.head | apply Take1.tail))))⟩) ?_ -- t6
            intro b6
            refine WD.two 3 4 (by kernel_rfl) ?_ ?_
            · refine WO.to rfl rfl .no (app0 (xs := x) rfl rfl rfl (by repeat (first | exact Take1.head | apply Take1.tail)) (by repeat (first | exact Take1.head | apply Take1.tail)) (by omega)) rfl (fun _ => ⟨_, (by repeat (first | exact TakeL.nil | (apply TakeL.cons; · repeat (first | exact Take1.head | apply Take1.tail))))⟩) ?_
              rintro ⟨⟨ao35, c35⟩, hc35⟩
              dsimp only at hc35 ⊢
              refine WD.one 4 (by kernel_rfl) ?_
              refine WO.to rfl rfl .no (To.buildSlice (vs := []) un22 zs5 rfl rfl (by simp [Value.cells]) (by decide) (by decide)) rfl (fun _ => ⟨_, (by repeat (first | exact TakeL.nil | (apply TakeL.cons; · repeat (first | exact Take1.head | apply Take1.tail))))⟩) ?_ -- t36
              intro b36
              refine WD.view (fun w h => h.blkOwn (b := b36) (size := 1) (n := 0) (by repeat (first | exact Take1.head | apply Take1.tail)) (by unfold maxLen; omega) rfl) ?_
              refine WD.one 7 (by kernel_rfl) ?_
              refine WO.to rfl rfl .no (app0 (xs := y) rfl rfl rfl (by repeat (first | exact Take1.head | apply Take1.tail)) (by repeat (first | exact Take1.head | apply Take1.tail)) (by omega)) rfl (fun _ => ⟨_, (by repeat (first | exact TakeL.nil | (apply TakeL.cons; · repeat (first | exact Take1.head | apply Take1.tail))))⟩) ?_
              rintro ⟨⟨ao39, c39⟩, hc39⟩
              dsimp only at hc39 ⊢
              refine WD.one 10 (by kernel_rfl) ?_
              refine WO.sto rfl rfl .no (sto0 (b := b6) rfl rfl rfl (by repeat (first | exact Take1.head | apply Take1.tail))) ⟨_, (by repeat (first | exact TakeL.nil | (apply TakeL.cons; · repeat (first | exact Take1.head | apply Take1.tail))))⟩ ?_
              refine WD.one 11 (by kernel_rfl) ?_
              refine WO.sto rfl rfl .no (sto0 (b := b7) rfl rfl rfl (by repeat (first | exact Take1.head | apply Take1.tail))) ⟨_, (by repeat (first | exact TakeL.nil | (apply TakeL.cons; · repeat (first | exact Take1.head | apply Take1.tail))))⟩ ?_
              refine ro0 (by repeat (first | exact Take1.head | apply Take1.tail)) (by repeat (first | exact Take1.head | apply Take1.tail)) ?_
              refine WD.done (by kernel_rfl) ?_
              exact ⟨rfl, (b6, b7, (ao35, c35), (ao39, c39)), trivial, (by repeat (first | exact Sub.nil | refine Sub.cons rfl ?_)), (by repeat (first | exact Sub.nil | refine Sub.cons rfl ?_)), _, (by repeat (first | exact TakeL.nil | (apply TakeL.cons; · repeat (first | exact Take1.head | apply Take1.tail))))⟩
            · refine WO.to rfl rfl .no (To.buildSlice (vs := []) un22 zs5 rfl rfl (by simp [Value.cells]) (by decide) (by decide)) rfl (fun _ => ⟨_, (by repeat (first | exact TakeL.nil | (apply TakeL.cons; · repeat (first | exact Take1.head | apply Take1.tail))))⟩) ?_ -- t36
              intro b36
              refine WD.view (fun w h => h.blkOwn (b := b36) (size := 1) (n := 0) (by repeat (first | exact Take1.head | apply Take1.tail)) (by unfold maxLen; omega) rfl) ?_
              refine WD.one 3 (by kernel_rfl) ?_
              refine WO.to rfl rfl .no (app0 (xs := x) rfl rfl rfl (by repeat (first | exact Take1.head | apply Take1.tail)) (by repeat (first | exact Take1.head | apply Take1.tail)) (by omega)) rfl (fun _ => ⟨_, (by repeat (first | exact TakeL.nil | (apply TakeL.cons; · repeat (first | exact Take1.head | apply Take1.tail))))⟩) ?_
              rintro ⟨⟨ao35, c35⟩, hc35⟩
              dsimp only at hc35 ⊢
              refine WD.one 7 (by kernel_rfl) ?_
              refine WO.to rfl rfl .no (app0 (xs := y) rfl rfl rfl (by repeat (first | exact Take1.head | apply Take1.tail)) (by repeat (first | exact Take1.head | apply Take1.tail)) (by omega)) rfl (fun _ => ⟨_, (by repeat (first | exact TakeL.nil | (apply TakeL.cons; · repeat (first | exact Take1.head | apply Take1.tail))))⟩) ?_
              rintro ⟨⟨ao39, c39⟩, hc39⟩
              dsimp only at hc39 ⊢
              refine WD.one 10 (by kernel_rfl) ?_
              refine WO.sto rfl rfl .no (sto0 (b := b6) rfl rfl rfl (by repeat (first | exact Take1.head | apply Take1.tail))) ⟨_, (by repeat (first | exact TakeL.nil | (apply TakeL.cons; · repeat (first | exact Take1.head | apply Take1.tail))))⟩ ?_
              refine WD.one 11 (by kernel_rfl) ?_
              refine WO.sto rfl rfl .no (sto0 (b := b7) rfl rfl rfl (by repeat (first | exact Take1.head | apply Take1.tail))) ⟨_, (by repeat (first | exact TakeL.nil | (apply TakeL.cons; · repeat (first | exact Take1.head | apply Take1.tail))))⟩ ?_
              refine ro0 (by repeat (first | exact Take1.head | apply Take1.tail)) (by repeat (first | exact Take1.head | apply Take1.tail)) ?_
              refine WD.done (by kernel_rfl) ?_
              exact ⟨rfl, (b6, b7, (ao35, c35), (ao39, c39)), trivial, (by repeat (first | exact Sub.nil | refine Sub.cons rfl ?_)), (by repeat (first | exact Sub.nil | refine Sub.cons rfl ?_)), _, (by repeat (first | exact TakeL.nil | (apply TakeL.cons; · repeat (first | exact Take1.head | apply Take1.tail))))⟩
      · refine WO.to rfl rfl .no (To.buildSlice (vs := []) un22 zs5 rfl rfl (by simp [Value.cells]) (by decide) (by decide)) rfl (fun _ => ⟨_, (by repeat (first | exact TakeL.nil | (apply TakeL.cons; · repeat (first | exact Take1.head | apply Take1.tail))))⟩) ?_ -- t36
        intro b36
        refine WD.view (fun w h => h.blkOwn (b := b36) (size := 1) (n := 0) (by repeat (first | exact Take1.head | apply Take1.tail)) (by unfold maxLen; omega) rfl) ?_
        refine WD.three 0 8 9 (by kernel_rfl) ?_ ?_ ?_
        · refine WO.to rfl rfl .no (To.buildSlice (vs := []) un22 zs5 rfl rfl (by simp [Value.cells]) (by decide) (by decide)) rfl (fun _ => ⟨_, (by repeat (first | exact TakeL.nil | (apply TakeL.cons; · repeat (first | exact Take1.head | apply Take1.tail))))⟩) ?_ -- t32
          intro b32
          refine WD.view (fun w h => h.blkOwn (b := b32) (size := 1) (n := 0) (by repeat (first | exact Take1.head | apply Take1.tail)) (by unfold maxLen; omega) rfl) ?_
          refine WD.three 3 8 9 (by kernel_rfl) ?_ ?_ ?_
          · refine WO.to rfl rfl .no (app0 (xs := x) rfl rfl rfl (by repeat (first | exact Take1.head | apply Take1.tail)) (by repeat (first | exact Take1.head | apply Take1.tail)) (by omega)) rfl (fun _ => ⟨_, (by repeat (first | exact TakeL.nil | (apply TakeL.cons; · repeat (first | exact Take1.head | apply Take1.tail))))⟩) ?_
            rintro ⟨⟨ao35, c35⟩, hc35⟩
            dsimp only at hc35 ⊢
            refine WD.three 7 8 9 (by kernel_rfl) ?_ ?_ ?_
            · refine WO.to rfl rfl .no (app0 (xs := y) rfl rfl rfl (by repeat (first | exact Take1.head | apply Take1.tail)) (by repeat (first | exact Take1.head | apply Take1.tail)) (by omega)) rfl (fun _ => ⟨_, (by repeat (first | exact TakeL.nil | (apply TakeL.cons; · repeat (first | exact Take1.head | apply Take1.tail))))⟩) ?_
              rintro ⟨⟨ao39, c39⟩, hc39⟩
              dsimp only at hc39 ⊢
              refine WD.two 8 9 (by kernel_rfl) ?_ ?_
              · refine WO.to rfl rfl .no (To.alloc (cs := [.slice none 0 0]) zr22 rfl) rfl (fun _ => ⟨_, (by repeat (first | exact TakeL.nil | (apply TakeL.cons; · repeat (first | exact Take1.head | apply Take1.tail))))⟩) ?_ -- t6
                intro b6
                refine WD.one 9 (by kernel_rfl) ?_
                refine WO.to rfl rfl .no (To.alloc (cs := [.slice none 0 0]) zr22 rfl) rfl (fun _ => ⟨_, (by repeat (first | exact TakeL.nil | (apply TakeL.cons; · repeat (first | exact Take1.head | apply Take1.tail))))⟩) ?_ -- t7
                intro b7
                refine WD.one 10 (by kernel_rfl) ?_
                refine WO.sto rfl rfl .no (sto0 (b := b6) rfl rfl rfl (by repeat (first | exact Take1.head | apply Take1.tail))) ⟨_, (by repeat (first | exact TakeL.nil | (apply TakeL.cons; · repeat (first | exact Take1.head | apply Take1.tail))))⟩ ?_
                refine WD.one 11 (by kernel_rfl) ?_
                refine WO.sto rfl rfl .no (sto0 (b := b7) rfl rfl rfl (by repeat (first | exact Take1.head | apply Take1.tail))) ⟨_, (by repeat (first | exact TakeL.nil | (apply TakeL.cons; · repeat (first | exact Take1.head | apply Take1.tail))))⟩ ?_
                refine ro0 (by repeat (first | exact Take1.head | apply Take1.tail)) (by repeat (first | exact Take1.head | apply Take1.tail)) ?_
                refine WD.done (by kernel_rfl) ?_
                exact ⟨rfl, (b6, b7, (ao35, c35), (ao39, c39)), trivial, (by repeat (first | exact Sub.nil | refine Sub.cons rfl ?_)), (by repeat (first | exact Sub.nil | refine Sub.cons rfl ?_)), _, (by repeat (first | exact TakeL.nil | (apply TakeL.cons; · repeat (first | exact Take1.head | apply Take1.tail))))⟩
              · refine WO.to rfl rfl .no (To.alloc (cs := [.slice none 0 0]) zr22 rfl) rfl (fun _ => ⟨_, (by repeat (first | exact TakeL.nil | (apply TakeL.cons; · repeat (first | exact Take1.head | apply Take1.tail))))⟩) ?_ -- t7
                intro b7
                refine WD.one 8 (by kernel_rfl) ?_
                refine WO.to rfl rfl .no (To.alloc (cs := [.slice none 0 0]) zr22 rfl) rfl (fun _ => ⟨_, (by repeat (first | exact TakeL.nil | (apply TakeL.cons; · repeat (first | exact Take1.head | apply Take1.tail))))⟩) ?_ -- t6
                intro b6
                refine WD.one 10 (by kernel_rfl) ?_
                refine WO.sto rfl rfl .no (sto0 (b := b6) rfl rfl rfl (by repeat (first | exact Take1.head | apply Take1.tail))) ⟨_, (by repeat (first | exact TakeL.nil | (apply TakeL.cons; · repeat (first | exact Take1.head | apply Take1.tail))))⟩ ?_
                refine WD.one 11 (by kernel_rfl) ?_
                refine WO.sto rfl rfl .no (sto0 (b := b7) rfl rfl rfl (by repeat (first | exact Take1.head | apply Take1.tail))) ⟨_, (by repeat (first | exact TakeL.nil | (apply TakeL.cons; · repeat (first | exact Take1.head | apply Take1.tail))))⟩ ?_
                refine ro0 (by repeat (first | exact Take1.head | apply Take1.tail)) (by repeat (first | exact Take1.head | apply Take1.tail)) ?_
                refine WD.done (by kernel_rfl) ?_
                exact ⟨rfl, (b6, b7, (ao35, c35), (ao39, c39)), trivial, (by repeat (first | exact Sub.nil | refine Sub.cons rfl ?_)), (by repeat (first | exact Sub.nil | refine Sub.cons rfl ?_)), _, (by repeat (first | exact TakeL.nil | (apply TakeL.cons; · repeat (first | exact Take1.head | apply Take1.tail))))⟩
            · refine WO.to rfl rfl .no (To.alloc (cs := [.slice none 0 0]) zr22 rfl) rfl (fun _ => ⟨_, (by repeat (first | exact TakeL.nil | (apply TakeL.cons; · repeat (first | exact Take1.head | apply Take1.tail))))⟩) ?_ -- t6
              intro b6
              refine WD.two 7 9 (by kernel_rfl) ?_ ?_
              · refine WO.to rfl rfl .no (app0 (xs := y) rfl rfl rfl (by repeat (first | exact Take1.head | apply Take1.tail)) (by repeat (first | exact Take1.head | apply Take1.tail)) (by omega)) rfl (fun _ => ⟨_, (by repeat (first | exact TakeL.nil | (apply TakeL.cons; · repeat (first | exact Take1.head | apply Take1.tail))))⟩) ?_
                rintro ⟨⟨ao39, c39⟩, hc39⟩
                dsimp only at hc39 ⊢
                refine WD.one 9 (by kernel_rfl) ?_
                refine WO.to rfl rfl .no (To.alloc (cs := [.slice none 0 0]) zr22 rfl) rfl (fun _ => ⟨_, (by repeat (first | exact TakeL.nil | (apply TakeL.cons; · repeat (first | exact Take1.head | apply Take1.tail))))⟩) ?_ -- t7
                intro b7
                refine WD.one 10 (by kernel_rfl) ?_
                refine WO.sto rfl rfl .no (sto0 (b := b6) rfl rfl rfl (by repeat (first | exact Take1.head | apply Take1.tail))) ⟨_, (by repeat (first | exact TakeL.nil | (apply TakeL.cons; · repeat (first | exact Take1.head | apply Take1.tail))))⟩ ?_
                refine WD.one 11 (by kernel_rfl) ?_
                refine WO.sto rfl rfl .no (sto0 (b := b7) rfl rfl rfl (by repeat (first | exact Take1.head | apply Take1.tail))) ⟨_, (by repeat (first | exact TakeL.nil | (apply TakeL.cons; · repeat (first | exact Take1.head | apply Take1.tail))))⟩ ?_
                refine ro0 (by repeat (first | exact Take1.head | apply Take1.tail)) (by repeat (first | exact Take1.head | apply Take1.tail)) ?_
                refine WD.done (by kernel_rfl) ?_
                exact ⟨rfl, (b6, b7, (ao35, c35), (ao39, c39)), trivial, (by repeat (first | exact Sub.nil | refine Sub.cons rfl ?_)), (by repeat (first | exact Sub.nil | refine Sub.cons rfl ?_)), _, (by repeat (first | exact TakeL.nil | (apply TakeL.cons; · repeat (first | exact Take1.head | apply Take1.tail))))⟩
              · refine WO.to rfl rfl .no (To.alloc (cs := [.slice none 0 0]) zr22 rfl) rfl (fun _ => ⟨_, (by repeat (first | exact TakeL.nil | (apply TakeL.cons; · repeat (first | exact Take1.head | apply Take1.tail))))⟩) ?_ -- t7
                intro b7
                refine WD.one 7 (by kernel_rfl) ?_
                refine WO.to rfl rfl .no (app0 (xs := y) rfl rfl rfl (by repeat (first | exact Take1.head | apply Take1.tail)) (by repeat (first | exact Take1.head | apply Take1.tail)) (by omega)) rfl (fun _ => ⟨_, (by repeat (first | exact TakeL.nil | (apply TakeL.cons; · repeat (first | exact Take1.head | apply Take1.tail))))⟩) ?_
                rintro ⟨⟨ao39, c39⟩, hc39⟩
                dsimp only at hc39 ⊢
                refine WD.one 10 (by kernel_rfl) ?_
                refine WO.sto rfl rfl .no (sto0 (b := b6) rfl rfl rfl (by repeat (first | exact Take1.head | apply Take1.tail))) ⟨_, (by repeat (first | exact TakeL.nil | (apply TakeL.cons; · repeat (first | exact Take1.head | apply Take1.tail))))⟩ ?_
                refine WD.one 11 (by kernel_rfl) ?_
                refine WO.sto rfl rfl .no (sto0 (b := b7) rfl rfl rfl (by repeat (first | exact Take1.head | apply Take1.tail))) ⟨_, (by repeat (first | exact TakeL.nil | (apply TakeL.cons; · repeat (first | exact Take1.head | apply Take1.tail))))⟩ ?_
                refine ro0 (by repeat (first | exact Take1.head | apply Take1.tail)) (by repeat (first | exact Take1.head | apply Take1.tail)) ?_
                refine WD.done (by kernel_rfl) ?_
                exact ⟨rfl, (b6, b7, (ao35, c35), (ao39, c39)), trivial, (by repeat (first | exact Sub.nil | refine Sub.cons rfl ?_)), (by repeat (first | exact Sub.nil | refine Sub.cons rfl ?_)), _, (by repeat (first | exact TakeL.nil | (apply TakeL.cons; · repeat (first | exact Take1.head | apply Take1.tail))))⟩
            · refine WO.to rfl rfl .no (To.alloc (cs := [.slice none 0 0]) zr22 rfl) rfl (fun _ => ⟨_, (by repeat (first | exact TakeL.nil | (apply TakeL.cons; · repeat (first | exact Take1.head | apply Take1.tail))))⟩) ?_ -- t7
              intro b7
              refine WD.two 7 8 (by kernel_rfl) ?_ ?_
              · refine WO.to rfl rfl .no (app0 (xs := y) rfl rfl rfl (by repeat (first | exact Take1.head | apply Take1.tail)) (by repeat (first | exact Take1.head | apply Take1.tail)) (by omega)) rfl (fun _ => ⟨_, (by repeat (first | exact TakeL.nil | (apply TakeL.cons; · repeat (first | exact Take1.head | apply Take1.tail))))⟩) ?_
                rintro ⟨⟨ao39, c39⟩, hc39⟩
                dsimp only at hc39 ⊢
                refine WD.one 8 (by kernel_rfl) ?_
                refine WO.to rfl rfl .no (To.alloc (cs := [.slice none 0 0]) zr22 rfl) rfl (fun _ => ⟨_, (by repeat (first | exact TakeL.nil | (apply TakeL.cons; · repeat (first | exact Take1.head | apply Take1.tail))))⟩) ?_ -- t6
                intro b6
                refine WD.one 10 (by kernel_rfl) ?_
                refine WO.sto rfl rfl .no (sto0 (b := b6) rfl rfl rfl (by repeat (first | exact Take1.head | apply Take1.tail))) ⟨_, (by repeat (first | exact TakeL.nil | (apply TakeL.cons; · repeat (first | exact Take1.head | apply Take1.tail))))⟩ ?_
                refine WD.one 11 (by kernel_rfl) ?_
                refine WO.sto rfl rfl .no (sto0 (b := b7) rfl rfl rfl (by repeat (first | exact Take1.head | apply Take1.tail))) ⟨_, (by repeat (first | exact TakeL.nil | (apply TakeL.cons; · repeat (first | exact Take1.head | apply Take1.tail))))⟩ ?_
                refine ro0 (by repeat (first | exact Take1.head | apply Take1.tail)) (by repeat (first | exact Take1.head | apply Take1.tail)) ?_
                refine WD.done (by kernel_rfl) ?_
                exact ⟨rfl, (b6, b7, (ao35, c35), (ao39, c39)), trivial, (by repeat (first | exact Sub.nil | refine Sub.cons rfl ?_)), (by repeat (first | exact Sub.nil | refine Sub.cons rfl ?_)), _, (by repeat (first | exact TakeL.nil | (apply TakeL.cons; · repeat (first | exact Take1.head | apply Take1.tail))))⟩
              · refine WO.to rfl rfl .no (To.alloc (cs := [.slice none 0 0]) zr22 rfl) rfl (fun _ => ⟨_, (by repeat (first | exact TakeL.nil | (apply TakeL.cons; · repeat (first | exact Take1.head | apply Take1.tail))))⟩) ?_ -- t6
                intro b6
                refine WD.one 7 (by kernel_rfl) ?_
                refine WO.to rfl rfl .no (app0 (xs := y) rfl rfl rfl (by repeat (first | exact Take1.head | apply Take1.tail)) (by repeat (first | exact Take1.head | apply Take1.tail)) (by omega)) rfl (fun _ => ⟨_, (by repeat (first | exact TakeL.nil | (apply TakeL.cons; · repeat (first | exact Take1.head | apply Take1.tail))))⟩) ?_
                rintro ⟨⟨ao39, c39⟩, hc39⟩
                dsimp only at hc39 ⊢
                refine WD.one 10 (by kernel_rfl) ?_
                refine WO.sto rfl rfl .no (sto0 (b := b6) rfl rfl rfl (by repeat (first | exact Take1.head | apply Take1.tail))) ⟨_, (by repeat (first | exact TakeL.nil | (apply TakeL.cons; · repeat (first | exact Take1.head | apply Take1.tail))))⟩ ?_
                refine WD.one 11 (by kernel_rfl) ?_
                refine WO.sto rfl rfl .no (sto0 (b := b7) rfl rfl rfl (by repeat (first | exact Take1.head | apply Take1.tail))) ⟨_, (by repeat (first | exact TakeL.nil | (apply TakeL.cons; · repeat (first | exact Take1.head | apply Take1.tail))))⟩ ?_
                refine ro0 (by repeat (first | exact Take1.head | apply Take1.tail)) (by repeat (first | exact Take1.head | apply Take1.tail)) ?_
                refine WD.done (by kernel_rfl) ?_
                exact ⟨rfl, (b6, b7, (ao35, c35), (ao39, c39)), trivial, (by repeat (first | exact Sub.nil | refine Sub.cons rfl ?_)), (by repeat (first | exact Sub.nil | refine Sub.cons rfl ?_)), _, (by repeat (first | exact TakeL.nil | (apply TakeL.cons; · repeat (first | exact Take1.head | apply Take1.tail))))⟩
          · refine WO.to rfl rfl .no (To.alloc (cs := [.slice none 0 0]) zr22 rfl) rfl (fun _ => ⟨_, (by repeat (first | exact TakeL.nil | (apply TakeL.cons; · repeat (first | exact Take1.head | apply Take1.tail))))⟩) ?_ -- t6
            intro b6
            refine WD.two 3 9 (by kernel_rfl) ?_ ?_
            · refine WO.to rfl rfl .no (app0 (xs := x) rfl rfl rfl (by repeat (first | exact Take1.head | apply Take1.tail)) (by repeat (first | exact Take1.head | apply Take1.tail)) (by omega)) rfl (fun _ => ⟨_, (by repeat (first | exact TakeL.nil | (apply TakeL.cons; · repeat (first | exact Take1.head | apply Take1.tail))))⟩) ?_
              rintro ⟨⟨ao35, c35⟩, hc35⟩
              dsimp only at hc35 ⊢
              refine WD.two 7 9 (by kernel_rfl) ?_ ?_
              · refine WO.to rfl rfl .no (app0 (xs := y) rfl rfl rfl (by repeat (first | exact Take1.head | apply Take1.tail)) (by repeat (first | exact Take1.head | apply Take1.tail)) (by omega)) rfl (fun _ => ⟨_, (by repeat (first | exact TakeL.nil | (apply TakeL.cons; · repeat (first | exact Take1.head | apply Take1.tail))))⟩) ?_
                rintro ⟨⟨ao39, c39⟩, hc39⟩
                dsimp only at hc39 ⊢
                refine WD.one 9 (by kernel_rfl) ?_
                refine WO.to rfl rfl .no (To.alloc (cs := [.slice none 0 0]) zr22 rfl) rfl (fun _ => ⟨_, (by repeat (first | exact TakeL.nil | (apply TakeL.cons; · repeat (first | exact Take1.head | apply Take1.tail))))⟩) ?_ -- t7
                intro b7
                refine WD.one 10 (by kernel_rfl) ?_
                refine WO.sto rfl rfl .no (sto0 (b := b6) rfl rfl rfl (by repeat (first | exact Take1.head | apply Take1.tail))) ⟨_, (by repeat (first | exact TakeL.nil | (apply TakeL.cons; · repeat (first | exact Take1.head | apply Take1.tail))))⟩ ?_
                refine WD.one 11 (by kernel_rfl) ?_
                refine WO.sto rfl rfl .no (sto0 (b := b7) rfl rfl rfl (by repeat (first | exact Take1.head | apply Take1.tail))) ⟨_, (by repeat (first | exact TakeL.nil | (apply TakeL.cons; · repeat (first | exact Take1.head | apply Take1.tail))))⟩ ?_
                refine ro0 (by repeat (first | exact Take1.head | apply Take1.tail)) (by repeat (first | exact Take1.head | apply Take1.tail)) ?_
                refine WD.done (by kernel_rfl) ?_
                exact ⟨rfl, (b6, b7, (ao35, c35), (ao39, c39)), trivial, (by repeat (first | exact Sub.nil | refine Sub.cons rfl ?_)), (by repeat (first | exact Sub.nil | refine Sub.cons rfl ?_)), _, (by repeat (first | exact TakeL.nil | (apply TakeL.cons; · repeat (first | exact Take1.head | apply Take1.tail))))⟩
              · refine WO.to rfl rfl .no (To.alloc (cs := [.slice none 0 0]) zr22 rfl) rfl (fun _ => ⟨_, (by repeat (first | exact TakeL.nil | (apply TakeL.cons; · repeat (first | exact Take1.head | apply Take1.tail))))⟩) ?_ -- t7
                intro b7
                refine WD.one 7 (by kernel_rfl) ?_
                refine WO.to rfl rfl .no (app0 (xs := y) rfl rfl rfl (by repeat (first | exact Take1.head | apply Take1.tail)) (by repeat (first | exact Take1.head | apply Take1.tail)) (by omega)) rfl (fun _ => ⟨_, (by repeat (first | exact TakeL.nil | (apply TakeL.cons; · repeat (first | exact Take1.head | apply Take1.tail))))⟩) ?_
                rintro ⟨⟨ao39, c39⟩, hc39⟩
                dsimp only at hc39 ⊢
                refine WD.one 10 (by kernel_rfl) ?_
                refine WO.sto rfl rfl .no (sto0 (b := b6) rfl rfl rfl (by repeat (first | exact Take1.head | apply Take1.tail))) ⟨_, (by repeat (first | exact TakeL.nil | (apply TakeL.cons; · repeat (first | exact Take1.head | apply Take1.tail))))⟩ ?_
                refine WD.one 11 (by kernel_rfl) ?_
                refine WO.sto rfl rfl .no (sto0 (b := b7) rfl rfl rfl (by repeat (first | exact Take1.head | apply Take1.tail))) ⟨_, (by repeat (first | exact TakeL.nil | (apply TakeL.cons; · repeat (first | exact Take1.head | apply Take1.tail))))⟩ ?_
                refine ro0 (by repeat (first | exact Take1.head | apply Take1.tail)) (by repeat (first | exact Take1.head | apply Take1.tail)) ?_
                refine WD.done (by kernel_rfl) ?_
                exact ⟨rfl, (b6, b7, (ao35, c35), (ao39, c39)), trivial, (by repeat (first | exact Sub.nil | refine Sub.cons rfl ?_)), (by repeat (first | exact Sub.nil | refine Sub.cons rfl ?_)), _, (by repeat (first | exact TakeL.nil | (apply TakeL.cons; · repeat (first | exact Take1.head | apply Take1.tail))))⟩
            · refine WO.to rfl rfl .no (To.alloc (cs := [.slice none 0 0]) zr22 rfl) rfl (fun _ => ⟨_, (by repeat (first | exact TakeL.nil | (apply TakeL.cons; · repeat (first | exact Take1.head | apply Take1.tail))))⟩) ?_ -- t7
              intro b7
              refine WD.one 3 (by kernel_rfl) ?_
              refine WO.to rfl rfl .no (app0 (xs := x) rfl rfl rfl (by repeat (first | exact Take1.head | apply Take1.tail)) (by repeat (first | exact Take1.head | apply Take1.tail)) (by omega)) rfl (fun _ => ⟨_, (by repeat (first | exact TakeL.nil | (apply TakeL.cons; · repeat (first | exact Take1.head | apply Take1.tail))))⟩) ?_
              rintro ⟨⟨ao35, c35⟩, hc35⟩
              dsimp only at hc35 ⊢
              refine WD.one 7 (by kernel_rfl) ?_
              refine WO.to rfl rfl .no (app0 (xs := y) rfl rfl rfl (by repeat (first | exact Take1.head | apply Take1.tail)) (by repeat (first | exact Take1.head | apply Take1.tail)) (by omega)) rfl (fun _ => ⟨_, (by repeat (first | exact TakeL.nil | (apply TakeL.cons; · repeat (first | exact Take1.head | apply Take1.tail))))⟩) ?_
              rintro ⟨⟨ao39, c39⟩, hc39⟩
              dsimp only at hc39 ⊢
              refine WD.one 10 (by kernel_rfl) ?_
              refine WO.sto rfl rfl .no (sto0 (b := b6) rfl rfl rfl (by repeat (first | exact Take1.head | apply Take1.tail))) ⟨_, (by repeat (first | exact TakeL.nil | (apply TakeL.cons; · repeat (first | exact Take1.head | apply Take1.tail))))⟩ ?_
              refine WD.one 11 (by kernel_rfl) ?_
              refine WO.sto rfl rfl .no (sto0 (b := b7) rfl rfl rfl (by repeat (first | exact Take1.head | apply Take1.tail))) ⟨_, (by repeat (first | exact TakeL.nil | (apply TakeL.cons; · repeat (first | exact Take1.head | apply Take1.tail))))⟩ ?_
              refine ro0 (by repeat (first | exact Take1.head | apply Take1.tail)) (by repeat (first | exact Take1.head | apply Take1.tail)) ?_
              refine WD.done (by kernel_rfl) ?_
              exact ⟨rfl, (b6, b7, (ao35, c35), (ao39, c39)), trivial, (by repeat (first | exact Sub.nil | refine Sub.cons rfl ?_)), (by repeat (first | exact Sub.nil | refine Sub.cons rfl ?_)), _, (by repeat (first | exact TakeL.nil | (apply TakeL.cons; · repeat (first | exact Take1.head | apply Take1.tail))))⟩
          · refine WO.to rfl rfl .no (To.alloc (cs := [.slice none 0 0]) zr22 rfl) rfl (fun _ => ⟨_, (by repeat (first | exact TakeL.nil | (apply TakeL.cons; · repeat (first | exact Take1.head | apply Take1.tail))))⟩) ?_ -- t7
            intro b7
            refine WD.two 3 8 (by kernel_rfl) ?_ ?_
            · refine WO.to rfl rfl .no (app0 (xs := x) rfl rfl rfl (by repeat (first | exact Take1.head | apply Take1.tail)) (by repeat (first | exact Take1.head | apply Take1.tail)) (by omega)) rfl (fun _ => ⟨_, (by repeat (first | exact TakeL.nil | (apply TakeL.cons; · repeat (first | exact Take1.head | apply Take1.tail))))⟩) ?_
              rintro ⟨⟨ao35, c35⟩, hc35⟩
              dsimp only at hc35 ⊢
              refine WD.two 7 8 (by kernel_rfl) ?_ ?_
              · refine WO.to rfl rfl .no (app0 (xs := y) rfl rfl rfl (by repeat (first | exact Take1.head | apply Take1.tail)) (by repeat (first | exact Take1.head | apply Take1.tail)) (by omega)) rfl (fun _ => ⟨_, (by repeat (first | exact TakeL.nil | (apply TakeL.cons; · repeat (first | exact Take1.head | apply Take1.tail))))⟩) ?_
                rintro ⟨⟨ao39, c39⟩, hc39⟩
                dsimp only at hc39 ⊢
                refine WD.one 8 (by kernel_rfl) ?_
                refine WO.to rfl rfl .no (To.alloc (cs := [.slice none 0 0]) zr22 rfl) rfl (fun _ => ⟨_, (by repeat (first | exact TakeL.nil | (apply TakeL.cons; · repeat (first | exact Take1.head | apply Take1.tail))))⟩) ?_ -- t6
                intro b6
                refine WD.one 10 (by kernel_rfl) ?_
                refine WO.sto rfl rfl .no (sto0 (b := b6) rfl rfl rfl (by repeat (first | exact Take1.head | apply Take1.tail))) ⟨_, (by repeat (first | exact TakeL.nil | (apply TakeL.cons; · repeat (first | exact Take1.head | apply Take1.tail))))⟩ ?_
                refine WD.one 11 (by kernel_rfl) ?_
                refine WO.sto rfl rfl .no (sto0 (b := b7) rfl rfl rfl (by repeat (first | exact Take1.head | apply Take1.tail))) ⟨_, (by repeat (first | exact TakeL.nil | (apply TakeL.cons; · repeat (first | exact Take1.head | apply Take1.tail))))⟩ ?_
                refine ro0 (by repeat (first | exact Take1.head | apply Take1.tail)) (by repeat (first | exact Take1.head | apply Take1.tail)) ?_
                refine WD.done (by kernel_rfl) ?_
                exact ⟨rfl, (b6, b7, (ao35, c35), (ao39, c39)), trivial, (by repeat (first | exact Sub.nil | refine Sub.cons rfl ?_)), (by repeat (first | exact Sub.nil | refine Sub.cons rfl ?_)), _, (by repeat (first | exact TakeL.nil | (apply TakeL.cons; · repeat (first | exact Take1.head | apply Take1.tail))))⟩
              · refine WO.to rfl rfl .no (To.alloc (cs := [.slice none 0 0]) zr22 rfl) rfl (fun _ => ⟨_, (by repeat (first | exact TakeL.nil | (apply TakeL.cons; · repeat (first | exact Take1.head | apply Take1.tail))))⟩) ?_ -- t6
                intro b6
                refine WD.one 7 (by kernel_rfl) ?_
                refine WO.to rfl rfl .no (app0 (xs := y) rfl rfl rfl (by repeat (first | exact Take1.head | apply Take1.tail)) (by repeat (first | exact Take1.head | apply Take1.tail)) (by omega)) rfl (fun _ => ⟨_, (by repeat (first | exact TakeL.nil | (apply TakeL.cons; · repeat (first | exact Take1.head | apply Take1.tail))))⟩) ?_
                rintro ⟨⟨ao39, c39⟩, hc39⟩
                dsimp only at hc39 ⊢
                refine WD.one 10 (by kernel_rfl) ?_
                refine WO.sto rfl rfl .no (sto0 (b := b6) rfl rfl rfl (by repeat (first | exact Take1.head | apply Take1.tail))) ⟨_, (by repeat (first | exact TakeL.nil | (apply TakeL.cons; · repeat (first | exact Take1.head | apply Take1.tail))))⟩ ?_
                refine WD.one 11 (by kernel_rfl) ?_
                refine WO.sto rfl rfl .no (sto0 (b := b7) rfl rfl rfl (by repeat (first | exact Take1.head | apply Take1.tail))) ⟨_, (by repeat (first | exact TakeL.nil | (apply TakeL.cons; · repeat (first | exact Take1.head | apply Take1.tail))))⟩ ?_
                refine ro0 (by repeat (first | exact Take1.head | apply Take1.tail)) (by repeat (first | exact Take1.head | apply Take1.tail)) ?_
                refine WD.done (by kernel_rfl) ?_
                exact ⟨rfl, (b6, b7, (ao35, c35), (ao39, c39)), trivial, (by repeat (first | exact Sub.nil | refine Sub.cons rfl ?_)), (by repeat (first | exact Sub.nil | refine Sub.cons rfl ?_)), _, (by repeat (first | exact TakeL.nil | (apply TakeL.cons; · repeat (first | exact Take1.head | apply Take1.tail))))⟩
            · refine WO.to rfl rfl .no (To.alloc (cs := [.slice none 0 0]) zr22 rfl) rfl (fun _ => ⟨_, (by repeat (first | exact TakeL.nil | (apply TakeL.cons; · repeat (first | exact Take1.head | apply Take1.tail))))⟩) ?_ -- t6
              intro b6
              refine WD.one 3 (by kernel_rfl) ?_
              refine WO.to rfl rfl .no (app0 (xs := x) rfl rfl rfl (by repeat (first | exact Take1.head | apply Take1.tail)) (by repeat (first | exact Take1.head | apply Take1.tail)) (by omega)) rfl (fun _ => ⟨_, (by repeat (first | exact TakeL.nil | (apply TakeL.cons; · repeat (first | exact Take1.head | apply Take1.tail))))⟩) ?_
              rintro ⟨⟨ao35, c35⟩, hc35⟩
              dsimp only at hc35 ⊢
              refine WD.one 7 (by kernel_rfl) ?_
              refine WO.to rfl rfl .no (app0 (xs := y) rfl rfl rfl (by repeat (first | exact Take1.head | apply Take1.tail)) (by repeat (first | exact Take1.head | apply Take1.tail)) (by omega)) rfl (fun _ => ⟨_, (by repeat (first | exact TakeL.nil | (apply TakeL.cons; · repeat (first | exact Take1.head | apply Take1.tail))))⟩) ?_
              rintro ⟨⟨ao39, c39⟩, hc39⟩
              dsimp only at hc39 ⊢
              refine WD.one 10 (by kernel_rfl) ?_
              refine WO.sto rfl rfl .no (sto0 (b := b6) rfl rfl rfl (by repeat (first | exact Take1.head | apply Take1.tail))) ⟨_, (by repeat (first | exact TakeL.nil | (apply TakeL.cons; · repeat (first | exact Take1.head | apply Take1.tail))))⟩ ?_
              refine WD.one 11 (by kernel_rfl) ?_
              refine WO.sto rfl rfl .no (sto0 (b := b7) rfl rfl rfl (by repeat (first | exact Take1.head | apply Take1.tail))) ⟨_, (by repeat (first | exact TakeL.nil | (apply TakeL.cons; · repeat (first | exact Take1.head | apply Take1.tail))))⟩ ?_
              refine ro0 (by repeat (first | exact Take1.head | apply Take1.tail)) (by repeat (first | exact Take1.head | apply Take1.tail)) ?_
              refine WD.done (by kernel_rfl) ?_
              exact ⟨rfl, (b6, b7, (ao35, c35), (ao39, c39)), trivial, (by repeat (first | exact Sub.nil | refine Sub.cons rfl ?_)), (by repeat (first | exact Sub.nil | refine Sub.cons rfl ?_)), _, (by repeat (first | exact TakeL.nil | (apply TakeL.cons; · repeat (first | exact Take1.head | apply Take1.tail))))⟩
        · refine WO.to rfl rfl .no (To.alloc (cs := [.slice none 0 0]) zr22 rfl) rfl (fun _ => ⟨_, (by repeat (first | exact TakeL.nil | (apply TakeL.cons; · repeat (first | exact Take1.head | apply Take1.tail))))⟩) ?_ -- t6
          intro b6
          refine WD.two 0 9 (by kernel_rfl) ?_ ?_
          · refine WO.to rfl rfl .no (To.buildSlice (vs := []) un22 zs5 rfl rfl (by simp [Value.cells]) (by decide) (by decide)) rfl (fun _ => ⟨_, (by repeat (first | exact TakeL.nil | (apply TakeL.cons; · repeat (first | exact Take1.head | apply Take1.tail))))⟩) ?_ -- t32
            intro b32
            refine WD.view (fun w h => h.blkOwn (b := b32) (size := 1) (n := 0) (by repeat (first | exact Take1.head | apply Take1.tail)) (by unfold maxLen; omega) rfl) ?_
            refine WD.two 3 9 (by kernel_rfl) ?_ ?_
            · refine WO.to rfl rfl .no (app0 (xs := x) rfl rfl rfl (by repeat (first | exact Take1.head | apply Take1.tail)) (by repeat (first | exact Take1.head | apply Take1.tail)) (by omega)) rfl (fun _ => ⟨_, (by repeat (first | exact TakeL.nil | (apply TakeL.cons; · repeat (first | exact Take1.head | apply Take1.tail))))⟩) ?_
              rintro ⟨⟨ao35, c35⟩, hc35⟩
              dsimp only at hc35 ⊢
              refine WD.two 7 9 (by kernel_rfl) ?_ ?_
              · refine WO.to rfl rfl .no (app0 (xs := y) rfl rfl rfl (by repeat (first | exact Take1.head | apply Take1.tail)) (by repeat (first | exact Take1.head | apply Take1.tail)) (by omega)) rfl (fun _ => ⟨_, (by repeat (first | exact TakeL.nil | (apply TakeL.cons; · repeat (first | exact Take1.head | apply Take1.tail))))⟩) ?_
                rintro ⟨⟨ao39, c39⟩, hc39⟩
                dsimp only at hc39 ⊢
                refine WD.one 9 (by kernel_rfl) ?_
                refine WO.to rfl rfl .no (To.alloc (cs := [.slice none 0 0]) zr22 rfl) rfl (fun _ => ⟨_, (by repeat (first | exact TakeL.nil | (apply TakeL.cons; · repeat (first | exact Take1.head | apply Take1.tail))))⟩) ?_ -- t7
                intro b7
                refine WD.one 10 (by kernel_rfl) ?_
                refine WO.sto rfl rfl .no (sto0 (b := b6) rfl rfl rfl (by repeat (first | exact Take1.head | apply Take1.tail))) ⟨_, (by repeat (first | exact TakeL.nil | (apply TakeL.cons; · repeat (first | exact Take1.head | apply Take1.tail))))⟩ ?_
                refine WD.one 11 (by kernel_rfl) ?_
                refine WO.sto rfl rfl .no (sto0 (b := b7) rfl rfl rfl (by repeat (first | exact Take1.head | apply Take1.tail))) ⟨_, (by repeat (first | exact TakeL.nil | (apply TakeL.cons; · repeat (first | exact Take1.head | apply Take1.tail))))⟩ ?_
                refine ro0 (by repeat (first | exact Take1.head | apply Take1.tail)) (by repeat (first | exact Take1.head | apply Take1.tail)) ?_
                refine WD.done (by kernel_rfl) ?_
                exact ⟨rfl, (b6, b7, (ao35, c35), (ao39, c39)), trivial, (by repeat (first | exact Sub.nil | refine Sub.cons rfl ?_)), (by repeat (first | exact Sub.nil | refine Sub.cons rfl ?_)), _, (by repeat (first | exact TakeL.nil | (apply TakeL.cons; · repeat (first | exact Take1.head | apply Take1.tail))))⟩
              · refine WO.to rfl rfl .no (To.alloc (cs := [.slice none 0 0]) zr22 rfl) rfl (fun _ => ⟨_, (by repeat (first | exact TakeL.nil | (apply TakeL.cons; · repeat (first | exact Take1.head | apply Take1.tail))))⟩) ?_ -- t7
                intro b7
                refine WD.one 7 (by kernel_rfl) ?_
                refine WO.to rfl rfl .no (app0 (xs := y) rfl rfl rfl (by repeat (first | exact Take1.head | apply Take1.tail)) (by repeat (first | exact Take1.head | apply Take1.tail)) (by omega)) rfl (fun _ => ⟨_, (by repeat (first | exact TakeL.nil | (apply TakeL.cons; · repeat (first | exact Take1.head | apply Take1.tail))))⟩) ?_
                rintro ⟨⟨ao39, c39⟩, hc39⟩
                dsimp only at hc39 ⊢
                refine WD.one 10 (by kernel_rfl) ?_
                refine WO.sto rfl rfl .no (sto0 (b := b6) rfl rfl rfl (by repeat (first | exact Take1.head | apply Take1.tail))) ⟨_, (by repeat (first | exact TakeL.nil | (apply TakeL.cons; · repeat (first | exact Take1.head | apply Take1.tail))))⟩ ?_
                refine WD.one 11 (by kernel_rfl) ?_
                refine WO.sto rfl rfl .no (sto0 (b := b7) rfl rfl rfl (by repeat (first | exact Take1.head | apply Take1.tail))) ⟨_, (by repeat (first | exact TakeL.nil | (apply TakeL.cons; · repeat (first | exact Take1.head | apply Take1.tail))))⟩ ?_
                refine ro0 (by repeat (first | exact Take1.head | apply Take1.tail)) (by repeat (first | exact Take1.head | apply Take1.tail)) ?_
                refine WD.done (by kernel_rfl) ?_
                exact ⟨rfl, (b6, b7, (ao35, c35), (ao39, c39)), trivial, (by repeat (first | exact Sub.nil | refine Sub.cons rfl ?_)), (by repeat (first | exact Sub.nil | refine Sub.cons rfl ?_)), _, (by repeat (first | exact TakeL.nil | (apply TakeL.cons; · repeat (first | exact Take1.head | apply Take1.tail))))⟩
            · refine WO.to rfl rfl .no (To.alloc (cs := [.slice none 0 0]) zr22 rfl) rfl (fun _ => ⟨_, (by repeat (first | exact TakeL.nil | (apply TakeL.cons; · repeat (first | exact Take1.head | apply Take1.tail))))⟩) ?_ -- t7
              intro b7
              refine WD.one 3 (by kernel_rfl) ?_
              refine WO.to rfl rfl .no (app0 (xs := x) rfl rfl rfl (by repeat (first | exact Take1.head | apply Take1.tail)) (by repeat (first | exact Take1.head | apply Take1.tail)) (by omega)) rfl (fun _ => ⟨_, (by repeat (first | exact TakeL.nil | (apply TakeL.cons; · repeat (first | exact Take1.head | apply Take1.tail))))⟩) ?_
              rintro ⟨⟨ao35, c35⟩, hc35⟩
              dsimp only at hc35 ⊢
              refine WD.one 7 (by kernel_rfl) ?_
              refine WO.to rfl rfl .no (app0 (xs := y) rfl rfl rfl (by repeat (first | exact Take1.head | apply Take1.tail)) (by repeat (first | exact Take1.head | apply Take1.tail)) (by omega)) rfl (fun _ => ⟨_, (by repeat (first | exact TakeL.nil | (apply TakeL.cons; · repeat (first | exact Take1.head | apply Take1.tail))))⟩) ?_
              rintro ⟨⟨ao39, c39⟩, hc39⟩
              dsimp only at hc39 ⊢
              refine WD.one 10 (by kernel_rfl) ?_
              refine WO.sto rfl rfl .no (sto0 (b := b6) rfl rfl rfl (by repeat (first | exact Take1.head | apply Take1.tail))) ⟨_, (by repeat (first | exact TakeL.nil | (apply TakeL.cons; · repeat (first | exact Take1.head | apply Take1.tail))))⟩ ?_
              refine WD.one 11 (by kernel_rfl) ?_
              refine WO.sto rfl rfl .no (sto0 (b := b7) rfl rfl rfl (by repeat (first | exact Take1.head | apply Take1.tail))) ⟨_, (by repeat (first | exact TakeL.nil | (apply TakeL.cons; · repeat (first | exact Take1.head | apply Take1.tail))))⟩ ?_
              refine ro0 (by repeat (first | exact Take1.head | apply Take1.tail)) (by repeat (first | exact Take1.head | apply Take1.tail)) ?_
              refine WD.done (by kernel_rfl) ?_
              exact ⟨rfl, (b6, b7, (ao35, c35), (ao39, c39)), trivial, (by repeat (first | exact Sub.nil | refine Sub.cons rfl ?_)), (by repeat (first | exact Sub.nil | refine Sub.cons rfl ?_)), _, (by repeat (first | exact TakeL.nil | (apply TakeL.cons; · repeat (first | exact Take1.head | apply Take1.tail))))⟩
          · refine WO.to rfl rfl .no (To.alloc (cs := [.slice none 0 0]) zr22 rfl) rfl (fun _ => ⟨_, (by repeat (first | exact TakeL.nil | (apply TakeL.cons; · repeat (first | exact Take1.head | apply Take1.tail))))⟩) ?_ -- t7
            intro b7
            refine WD.one 0 (by kernel_rfl) ?_
            refine WO.to rfl rfl .no (To.buildSlice (vs := []) un22 zs5 rfl rfl (by simp [Value.cells]) (by decide) (by decide)) rfl (fun _ => ⟨_, (by repeat (first | exact TakeL.nil | (apply TakeL.cons; · repeat (first | exact Take1.head | apply Take1.tail))))⟩) ?_ -- t32
            intro b32
            refine WD.view (fun w h => h.blkOwn (b := b32) (size := 1) (n := 0) (by repeat (first | exact Take1.head | apply Take1.tail)) (by unfold maxLen; omega) rfl) ?_
            refine WD.one 3 (by kernel_rfl) ?_
            refine WO.to rfl rfl .no (app0 (xs := x) rfl rfl rfl (by repeat (first | exact Take1.head | apply Take1.tail)) (by repeat (first | exact Take1.head | apply Take1.tail)) (by omega)) rfl (fun _ => ⟨_, (by repeat (first | exact TakeL.nil | (apply TakeL.cons; · repeat (first | exact Take1.head | apply Take1.tail))))⟩) ?_
            rintro ⟨⟨ao35, c35⟩, hc35⟩
            dsimp only at hc35 ⊢
            refine WD.one 7 (by kernel_rfl) ?_
            refine WO.to rfl rfl .no (app0 (xs := y) rfl rfl rfl (by repeat (first | exact Take1.head | apply Take1.tail)) (by repeat (first | exact Take1.head | apply Take1.tail)) (by omega)) rfl (fun _ => ⟨_, (by repeat (first | exact TakeL.nil | (apply TakeL.cons; · repeat (first | exact Take1.head | apply Take1.tail))))⟩) ?_
            rintro ⟨⟨ao39, c39⟩, hc39⟩
            dsimp only at hc39 ⊢
            refine WD.one 10 (by kernel_rfl) ?_
            refine WO.sto rfl rfl .no (sto0 (b := b6) rfl rfl rfl (by repeat (first | exact Take1.head | apply Take1.tail))) ⟨_, (by repeat (first | exact TakeL.nil | (apply TakeL.cons; · repeat (first | exact Take1.head | apply Take1.tail))))⟩ ?_
            refine WD.one 11 (by kernel_rfl) ?_
            refine WO.sto rfl rfl .no (sto0 (b := b7) rfl rfl rfl (by repeat (first | exact Take1.head | apply Take1.tail))) ⟨_, (by repeat (first | exact TakeL.nil | (apply TakeL.cons; · repeat (first | exact Take1.head | apply Take1.tail))))⟩ ?_
            refine ro0 (by repeat (first | exact Take1.head | apply Take1.tail)) (by repeat (first | exact Take1.head | apply Take1.tail)) ?_
            refine WD.done (by kernel_rfl) ?_
            exact ⟨rfl, (b6, b7, (ao35, c35), (ao39, c39)), trivial, (by repeat (first | exact Sub.nil | refine Sub.cons rfl ?_)), (by repeat (first | exact Sub.nil | refine Sub.cons rfl ?_)), _, (by repeat (first | exact TakeL.nil | (apply TakeL.cons; · repeat (first | exact Take1.head | apply Take1.tail))))⟩
        · refine WO.to rfl rfl .no (To.alloc (cs := [.slice none 0 0]) zr22 rfl) rfl (fun _ => ⟨_, (by repeat (first | exact TakeL.nil | (apply TakeL.cons; · repeat (first | exact Take1.head | apply Take1.tail))))⟩) ?_ -- t7
          intro b7
          refine WD.two 0 8 (by kernel_rfl) ?_ ?_
          · refine WO.to rfl rfl .no (To.buildSlice (vs := []) un22 zs5 rfl rfl (by simp [Value.cells]) (by decide) (by decide)) rfl (fun _ => ⟨_, (by repeat (first | exact TakeL.nil | (apply TakeL.cons; · repeat (first | exact Take1.head | apply Take1.tail))))⟩) ?_ -- t32
            intro b32
            refine WD.view (fun w h => h.blkOwn (b := b32) (size := 1) (n := 0) (by repeat (first | exact Take1.head | apply Take1.tail)) (by unfold maxLen; omega) rfl) ?_
            refine WD.two 3 8 (by kernel_rfl) ?_ ?_
            · refine WO.to rfl rfl .no (app0 (xs := x) rfl rfl rfl (by repeat (first | exact Take1.head | apply Take1.tail)) (by repeat (first | exact Take1.head | apply Take1.tail)) (by omega)) rfl (fun _ => ⟨_, (by repeat (first | exact TakeL.nil | (apply TakeL.cons; · repeat (first | exact Take1.head | apply Take1.tail))))⟩) ?_
              rintro ⟨⟨ao35, c35⟩, hc35⟩
              dsimp only at hc35 ⊢
              refine WD.two 7 8 (by kernel_rfl) ?_ ?_
              · refine WO.to rfl rfl .no (app0 (xs := y) rfl rfl rfl (by repeat (first | exact Take1.head | apply Take1.tail)) (by repeat (first | exact Take1.head | apply Take1.tail)) (by omega)) rfl (fun _ => ⟨_, (by repeat (first | exact TakeL.nil | (apply TakeL.cons; · repeat (first | exact Take1.head | apply Take1.tail))))⟩) ?_
                rintro ⟨⟨ao39, c39⟩, hc39⟩
                dsimp only at hc39 ⊢
                refine WD.one 8 (by kernel_rfl) ?_
                refine WO.to rfl rfl .no (To.alloc (cs := [.slice none 0 0]) zr22 rfl) rfl (fun _ => ⟨_, (by repeat (first | exact TakeL.nil | (apply TakeL.cons; · repeat (first | exact Take1.head | apply Take1.tail))))⟩) ?_ -- t6
                intro b6
                refine WD.one 10 (by kernel_rfl) ?_
                refine WO.sto rfl rfl .no (sto0 (b := b6) rfl rfl rfl (by repeat (first | exact Take1.head | apply Take1.tail))) ⟨_, (by repeat (first | exact TakeL.nil | (apply TakeL.cons; · repeat (first | exact Take1.head | apply Take1.tail))))⟩ ?_
                refine WD.one 11 (by kernel_rfl) ?_
                refine WO.sto rfl rfl .no (sto0 (b := b7) rfl rfl rfl (by repeat (first | exact Take1.head | apply Take1.tail))) ⟨_, (by repeat (first | exact TakeL.nil | (apply TakeL.cons; · repeat (first | exact Take1.head | apply Take1.tail))))⟩ ?_
                refine ro0 (by repeat (first | exact Take1.head | apply Take1.tail)) (by repeat (first | exact Take1.head | apply Take1.tail)) ?_
                refine WD.done (by kernel_rfl) ?_
                exact ⟨rfl, (b6, b7, (ao35, c35), (ao39, c39)), trivial, (by repeat (first | exact Sub.nil | refine Sub.cons rfl ?_)), (by repeat (first | exact Sub.nil | refine Sub.cons rfl ?_)), _, (by repeat (first | exact TakeL.nil | (apply TakeL.cons; · repeat (first | exact Take1.head | apply Take1.tail))))⟩
              · refine WO.to rfl rfl .no (To.alloc (cs := [.slice none 0 0]) zr22 rfl) rfl (fun _ => ⟨_, (by repeat (first | exact TakeL.nil | (apply TakeL.cons; · repeat (first | exact Take1.head | apply Take1.tail))))⟩) ?_ -- t6
                intro b6
                refine WD.one 7 (by kernel_rfl) ?_
                refine WO.to rfl rfl .no (app0 (xs := y) rfl rfl rfl (by repeat (first | exact Take1.head | apply Take1.tail)) (by repeat (first | exact Take1.head | apply Take1.tail)) (by omega)) rfl (fun _ => ⟨_, (by repeat (first | exact TakeL.nil | (apply TakeL.cons; · repeat (first | exact Take1.head | apply Take1.tail))))⟩) ?_
                rintro ⟨⟨ao39, c39⟩, hc39⟩
                dsimp only at hc39 ⊢
                refine WD.one 10 (by kernel_rfl) ?_
                refine WO.sto rfl rfl .no (sto0 (b := b6) rfl rfl rfl (by repeat (first | exact Take1.head | apply Take1.tail))) ⟨_, (by repeat (first | exact TakeL.nil | (apply TakeL.cons; · repeat (first | exact Take1.head | apply Take1.tail))))⟩ ?_
                refine WD.one 11 (by kernel_rfl) ?_
                refine WO.sto rfl rfl .no (sto0 (b := b7) rfl rfl rfl (by repeat (first | exact Take1.head | apply Take1.tail))) ⟨_, (by repeat (first | exact TakeL.nil | (apply TakeL.cons; · repeat (first | exact Take1.head | apply Take1.tail))))⟩ ?_
                refine ro0 (by repeat (first | exact Take1.head | apply Take1.tail)) (by repeat (first | exact Take1.head | apply Take1.tail)) ?_
                refine WD.done (by kernel_rfl) ?_
                exact ⟨rfl, (b6, b7, (ao35, c35), (ao39, c39)), trivial, (by repeat (first | exact Sub.nil | refine Sub.cons rfl ?_)), (by repeat (first | exact Sub.nil | refine Sub.cons rfl ?_)), _, (by repeat (first | exact TakeL.nil | (apply TakeL.cons; · repeat (first | exact Take1.head | apply Take1.tail))))⟩
            · refine WO.to rfl rfl .no (To.alloc (cs := [.slice none 0 0]) zr22 rfl) rfl (fun _ => ⟨_, (by repeat (first | exact TakeL.nil | (apply TakeL.cons; · repeat (first | exact Take1.head | apply Take1.tail))))⟩) ?_ -- t6
              intro b6
              refine WD.one 3 (by kernel_rfl) ?_
              refine WO.to rfl rfl .no (app0 (xs := x) rfl rfl rfl (by repeat (first | exact Take1.head | apply Take1.tail)) (by repeat (first | exact Take1.head | apply Take1.tail)) (by omega)) rfl (fun _ => ⟨_, (by repeat (first | exact TakeL.nil | (apply TakeL.cons; · repeat (first | exact Take1.head | apply Take1.tail))))⟩) ?_
              rintro ⟨⟨ao35, c35⟩, hc35⟩
              dsimp only at hc35 ⊢
              refine WD.one 7 (by kernel_rfl) ?_
              refine WO.to rfl rfl .no (app0 (xs := y) rfl rfl rfl (by repeat (first | exact Take1.head | apply Take1.tail)) (by repeat (first | exact Take1.head | apply Take1.tail)) (by omega)) rfl (fun _ => ⟨_, (by repeat (first | exact TakeL.nil | (apply TakeL.cons; · repeat (first | exact Take1.head | apply Take1.tail))))⟩) ?_
              rintro ⟨⟨ao39, c39⟩, hc39⟩
              dsimp only at hc39 ⊢
              refine WD.one 10 (by kernel_rfl) ?_
              refine WO.sto rfl rfl .no (sto0 (b := b6) rfl rfl rfl (by repeat (first | exact Take1.head | apply Take1.tail))) ⟨_, (by repeat (first | exact TakeL.nil | (apply TakeL.cons; · repeat (first | exact Take1.head | apply Take1.tail))))⟩ ?_
              refine WD.one 11 (by kernel_rfl) ?_
              refine WO.sto rfl rfl .no (sto0 (b := b7) rfl rfl rfl (by repeat (first | exact Take1.head | apply Take1.tail))) ⟨_, (by repeat (first | exact TakeL.nil | (apply TakeL.cons; · repeat (first | exact Take1.head | apply Take1.tail))))⟩ ?_
              refine ro0 (by repeat (first | exact Take1.head | apply Take1.tail)) (by repeat (first | exact Take1.head | apply Take1.tail)) ?_
              refine WD.done (by kernel_rfl) ?_
              exact ⟨rfl, (b6, b7, (ao35, c35), (ao39, c39)), trivial, (by repeat (first | exact Sub.nil | refine Sub.cons rfl ?_)), (by repeat (first | exact Sub.nil | refine Sub.cons rfl ?_)), _, (by repeat (first | exact TakeL.nil | (apply TakeL.cons; · repeat (first | exact Take1.head | apply Take1.tail))))⟩
          · refine WO.to rfl rfl .no (To.alloc (cs := [.slice none 0 0]) zr22 rfl) rfl (fun _ => ⟨_, (by repeat (first | exact TakeL.nil | (apply TakeL.cons; · repeat (first | exact Take1.head | apply Take1.tail))))⟩) ?_ -- t6
            intro b6
            refine WD.one 0 (by kernel_rfl) ?_
            refine WO.to rfl rfl .no (To.buildSlice (vs := []) un22 zs5 rfl rfl (by simp [Value.cells]) (by decide) (by decide)) rfl (fun _ => ⟨_, (by repeat (first | exact TakeL.nil | (apply TakeL.cons; · repeat (first | exact Take1.head | apply Take1.tail))))⟩) ?_ -- t32
            intro b32
            refine WD.view (fun w h => h.blkOwn (b := b32) (size := 1) (n := 0) (by repeat (first | exact Take1.head | apply Take1.tail)) (by unfold maxLen; omega) rfl) ?_
            refine WD.one 3 (by kernel_rfl) ?_
            refine WO.to rfl rfl .no (app0 (xs := x) rfl rfl rfl (by repeat (first | exact Take1.head | apply Take1.tail)) (by repeat (first | exact Take1.head | apply Take1.tail)) (by omega)) rfl (fun _ => ⟨_, (by repeat (first | exact TakeL.nil | (apply TakeL.cons; · repeat (first | exact Take1.head | apply Take1.tail))))⟩) ?_
            rintro ⟨⟨ao35, c35⟩, hc35⟩
            dsimp only at hc35 ⊢
            refine WD.one 7 (by kernel_rfl) ?_
            refine WO.to rfl rfl .no (app0 (xs := y) rfl rfl rfl (by repeat (first | exact Take1.head | apply Take1.tail)) (by repeat (first | exact Take1.head | apply Take1.tail)) (by omega)) rfl (fun _ => ⟨_, (by repeat (first | exact TakeL.nil | (apply TakeL.cons; · repeat (first | exact Take1.head | apply Take1.tail))))⟩) ?_
            rintro ⟨⟨ao39, c39⟩, hc39⟩
            dsimp only at hc39 ⊢
            refine WD.one 10 (by kernel_rfl) ?_
            refine WO.sto rfl rfl .no (sto0 (b := b6) rfl rfl rfl (by repeat (first | exact Take1.head | apply Take1.tail))) ⟨_, (by repeat (first | exact TakeL.nil | (apply TakeL.cons; · repeat (first | exact Take1.head | apply Take1.tail))))⟩ ?_
            refine WD.one 11 (by kernel_rfl) ?_
            refine WO.sto rfl rfl .no (sto0 (b := b7) rfl rfl rfl (by repeat (first | exact Take1.head | apply Take1.tail))) ⟨_, (by repeat (first | exact TakeL.nil | (apply TakeL.cons; · repeat (first | exact Take1.head | apply Take1.tail))))⟩ ?_
            refine ro0 (by repeat (first | exact Take1.head | apply Take1.tail)) (by repeat (first | exact Take1.head | apply Take1.tail)) ?_
            refine WD.done (by kernel_rfl) ?_
            exact ⟨rfl, (b6, b7, (ao35, c35), (ao39, c39)), trivial, (by repeat (first | exact Sub.nil | refine Sub.cons rfl ?_)), (by repeat (first | exact Sub.nil | refine Sub.cons rfl ?_)), _, (by repeat (first | exact TakeL.nil | (apply TakeL.cons; · repeat (first | exact Take1.head | apply Take1.tail))))⟩
      · refine WO.to rfl rfl .no (To.alloc (cs := [.slice none 0 0]) zr22 rfl) rfl (fun _ => ⟨_, (by repeat (first | exact TakeL.nil | (apply TakeL.cons; · repeat (first | exact Take1.head | apply Take1.tail))))⟩) ?_ -- t6
        intro b6
        refine WD.three 0 4 9 (by kernel_rfl) ?_ ?_ ?_
        · refine WO.to rfl rfl .no (To.buildSlice (vs := []) un22 zs5 rfl rfl (by simp [Value.cells]) (by decide) (by decide)) rfl (fun _ => ⟨_, (by repeat (first | exact TakeL.nil | (apply TakeL.cons; · repeat (first | exact Take1.head | apply Take1.tail))))⟩) ?_ -- t32
          intro b32
          refine WD.view (fun w h => h.blkOwn (b := b32) (size := 1) (n := 0) (by repeat (first | exact Take1.head | apply Take1.tail)) (by unfold maxLen; omega) rfl) ?_
          refine WD.three 3 4 9 (by kernel_rfl) ?_ ?_ ?_
          · refine WO.to rfl rfl .no (app0 (xs := x) rfl rfl rfl (by repeat (first | exact Take1.head | apply Take1.tail)) (by repeat (first | exact Take1.head | apply Take1.tail)) (by omega)) rfl (fun _ => ⟨_, (by repeat (first | exact TakeL.nil | (apply TakeL.cons; · repeat (first | exact Take1.head | apply Take1.tail))))⟩) ?_
            rintro ⟨⟨ao35, c35⟩, hc35⟩
            dsimp only at hc35 ⊢
            refine WD.two 4 9 (by kernel_rfl) ?_ ?_
            · refine WO.to rfl rfl .no (To.buildSlice (vs := []) un22 zs5 rfl rfl (by simp [Value.cells]) (by decide) (by decide)) rfl (fun _ => ⟨_, (by repeat (first | exact TakeL.nil | (apply TakeL.cons; · repeat (first | exact Take1.head | apply Take1.tail))))⟩) ?_ -- t36
              intro b36
              refine WD.view (fun w h => h.blkOwn (b := b36) (size := 1) (n := 0) (by repeat (first | exact Take1.head | apply Take1.tail)) (by unfold maxLen; omega) rfl) ?_
              refine WD.two 7 9 (by kernel_rfl) ?_ ?_
              · refine WO.to rfl rfl .no (app0 (xs := y) rfl rfl rfl (by repeat (first | exact Take1.head | apply Take1.tail)) (by repeat (first | exact Take1.head | apply Take1.tail)) (by omega)) rfl (fun _ => ⟨_, (by repeat (first | exact TakeL.nil | (apply TakeL.cons; · repeat (first | exact Take1.head | apply Take1.tail))))⟩) ?_
                rintro ⟨⟨ao39, c39⟩, hc39⟩
                dsimp only at hc39 ⊢
                refine WD.one 9 (by kernel_rfl) ?_
                refine WO.to rfl rfl .no (To.alloc (cs := [.slice none 0 0]) zr22 rfl) rfl (fun _ => ⟨_, (by repeat (first | exact TakeL.nil | (apply TakeL.cons; · repeat (first | exact Take1.head | apply Take1.tail))))⟩) ?_ -- t7
                intro b7
                refine WD.one 10 (by kernel_rfl) ?_
                refine WO.sto rfl rfl .no (sto0 (b := b6) rfl rfl rfl (by repeat (first | exact Take1.head | apply Take1.tail))) ⟨_, (by repeat (first | exact TakeL.nil | (apply TakeL.cons; · repeat (first | exact Take1.head | apply Take1.tail))))⟩ ?_
                refine WD.one 11 (by kernel_rfl) ?_
                refine WO.sto rfl rfl .no (sto0 (b := b7) rfl rfl rfl (by repeat (first | exact Take1.head | apply Take1.tail))) ⟨_, (by repeat (first | exact TakeL.nil | (apply TakeL.cons; · repeat (first | exact Take1.head | apply Take1.tail))))⟩ ?_
                refine ro0 (by repeat (first | exact Take1.head | apply Take1.tail)) (by repeat (first | exact Take1.head | apply Take1.tail)) ?_
                refine WD.done (by kernel_rfl) ?_
                exact ⟨rfl, (b6, b7, (ao35, c35), (ao39, c39)), trivial, (by repeat (first | exact Sub.nil | refine Sub.cons rfl ?_)), (by repeat (first | exact Sub.nil | refine Sub.cons rfl ?_)), _, (by repeat (first | exact TakeL.nil | (apply TakeL.cons; · repeat (first | exact Take1.head | apply Take1.tail))))⟩
              · refine WO.to rfl rfl .no (To.alloc (cs := [.slice none 0 0]) zr22 rfl) rfl (fun _ => ⟨_, (by repeat (first | exact TakeL.nil | (apply TakeL.cons; · repeat (first | exact Take1.head | apply Take1.tail))))⟩) ?_ -- t7
                intro b7
                refine WD.one 7 (by kernel_rfl) ?_
                refine WO.to rfl rfl .no (app0 (xs := y) rfl rfl rfl (by repeat (first | exact Take1.head | apply Take1.tail)) (by repeat (first | exact Take1.head | apply Take1.tail)) (by omega)) rfl (fun _ => ⟨_, (by repeat (first | exact TakeL.nil | (apply TakeL.cons; · repeat (first | exact Take1.head | apply Take1.tail))))⟩) ?_
                rintro ⟨⟨ao39, c39⟩, hc39⟩
                dsimp only at hc39 ⊢
                refine WD.one 10 (by kernel_rfl) ?_
                refine WO.sto rfl rfl .no (sto0 (b := b6) rfl rfl rfl (by repeat (first | exact Take1.head | apply Take1.tail))) ⟨_, (by repeat (first | exact TakeL.nil | (apply TakeL.cons; · repeat (first | exact Take1.head | apply Take1.tail))))⟩ ?_
                refine WD.one 11 (by kernel_rfl) ?_
                refine WO.sto rfl rfl .no (sto0 (b := b7) rfl rfl rfl (by repeat (first | exact Take1.head | apply Take1.tail))) ⟨_, (by repeat (first | exact TakeL.nil | (apply TakeL.cons; · repeat (first | exact Take1.head | apply Take1.tail))))⟩ ?_
                refine ro0 (by repeat (first | exact Take1.head | apply Take1.tail)) (by repeat (first | exact Take1.head | apply Take1.tail)) ?_
                refine WD.done (by kernel_rfl) ?_
                exact ⟨rfl, (b6, b7, (ao35, c35), (ao39, c39)), trivial, (by repeat (first | exact Sub.nil | refine Sub.cons rfl ?_)), (by repeat (first | exact Sub.nil | refine Sub.cons rfl ?_)), _, (by repeat (first | exact TakeL.nil | (apply TakeL.cons; · repeat (first | exact Take1.head | apply Take1.tail))))⟩
            · refine WO.to rfl rfl .no (To.alloc (cs := [.slice none 0 0]) zr22 rfl) rfl (fun _ => ⟨_, (by repeat (first | exact TakeL.nil | (apply TakeL.cons; · repeat (first | exact Take1.head | apply Take1.tail))))⟩) ?_ -- t7
              intro b7
              refine WD.one 4 (by kernel_rfl) ?_
              refine WO.to rfl rfl .no (To.buildSlice (vs := []) un22 zs5 rfl rfl (by simp [Value.cells]) (by decide) (by decide)) rfl (fun _ => ⟨_, (by repeat (first | exact TakeL.nil | (apply TakeL.cons; · repeat (first | exact Take1.head | apply Take1.tail))))⟩) ?_ -- t36
              intro b36
              refine WD.view (fun w h => h.blkOwn (b := b36) (size := 1) (n := 0) (by repeat (first | exact Take1.head | apply Take1.tail)) (by unfold maxLen; omega) rfl) ?_
              refine WD.one 7 (by kernel_rfl) ?_
              refine WO.to rfl rfl .no (app0 (xs := y) rfl rfl rfl (by repeat (first | exact Take1.head | apply Take1.tail)) (by repeat (first | exact Take1.head | apply Take1.tail)) (by omega)) rfl (fun _ => ⟨_, (by repeat (first | exact TakeL.nil | (apply TakeL.cons; · repeat (first | exact Take1.head | apply Take1.tail))))⟩) ?_
              rintro ⟨⟨ao39, c39⟩, hc39⟩
              dsimp only at hc39 ⊢
              refine WD.one 10 (by kernel_rfl) ?_
              refine WO.sto rfl rfl .no (sto0 (b := b6) rfl rfl rfl (by repeat (first | exact Take1.head | apply Take1.tail))) ⟨_, (by repeat (first | exact TakeL.nil | (apply TakeL.cons; · repeat (first | exact Take1.head | apply Take1.tail))))⟩ ?_
              refine WD.one 11 (by kernel_rfl) ?_
              refine WO.sto rfl rfl .no (sto0 (b := b7) rfl rfl rfl (by repeat (first | exact Take1.head | apply Take1.tail))) ⟨_, (by repeat (first | exact TakeL.nil | (apply TakeL.cons; · repeat (first | exact Take1.head | apply Take1.tail))))⟩ ?_
              refine ro0 (by repeat (first | exact Take1.head | apply Take1.tail)) (by repeat (first | exact Take1.head | apply Take1.tail)) ?_
              refine WD.done (by kernel_rfl) ?_
              exact ⟨rfl, (b6, b7, (ao35, c35), (ao39, c39)), trivial, (by repeat (first | exact Sub.nil | refine Sub.cons rfl ?_)), (by repeat (first | exact Sub.nil | refine Sub.cons rfl ?_)), _, (by repeat (first | exact TakeL.nil | (apply TakeL.cons; · repeat (first | exact Take1.head | apply Take1.tail))))⟩
          · refine WO.to rfl rfl .no (To.buildSlice (vs := []) un22 zs5 rfl rfl (by simp [Value.cells]) (by decide) (by decide)) rfl (fun _ => ⟨_, (by repeat (first | exact TakeL.nil | (apply TakeL.cons; · repeat (first | exact Take1.head | apply Take1.tail))))⟩) ?_ -- t36
            intro b36
            refine WD.view (fun w h => h.blkOwn (b := b36) (size := 1) (n := 0) (by repeat (first | exact Take1.head | apply Take1.tail)) (by unfold maxLen; omega) rfl) ?_
            refine WD.two 3 9 (by kernel_rfl) ?_ ?_
            · refine WO.to rfl rfl .no (app0 (xs := x) rfl rfl rfl (by repeat (first | exact Take1.head | apply Take1.tail)) (by repeat (first | exact Take1.head | apply Take1.tail)) (by omega)) rfl (fun _ => ⟨_, (by repeat (first | exact TakeL.nil | (apply TakeL.cons; · repeat (first | exact Take1.head | apply Take1.tail))))⟩) ?_
              rintro ⟨⟨ao35, c35⟩, hc35⟩
              dsimp only at hc35 ⊢
              refine WD.two 7 9 (by kernel_rfl) ?_ ?_
              · refine WO.to rfl rfl .no (app0 (xs := y) rfl rfl rfl (by repeat (first | exact Take1.head | apply Take1.tail)) (by repeat (first | exact Take1.head | apply Take1.tail)) (by omega)) rfl (fun _ => ⟨_, (by repeat (first | exact TakeL.nil | (apply TakeL.cons; · repeat (first | exact Take1.head | apply Take1.tail))))⟩) ?_
                rintro ⟨⟨ao39, c39⟩, hc39⟩
                dsimp only at hc39 ⊢
                refine WD.one 9 (by kernel_rfl) ?_
                refine WO.to rfl rfl .no (To.alloc (cs := [.slice none 0 0]) zr22 rfl) rfl (fun _ => ⟨_, (by repeat (first | exact TakeL.nil | (apply TakeL.cons; · repeat (first | exact Take1.head | apply Take1.tail))))⟩) ?_ -- t7
                intro b7
                refine WD.one 10 (by kernel_rfl) ?_
                refine WO.sto rfl rfl .no (sto0 (b := b6) rfl rfl rfl (by repeat (first | exact Take1.head | apply Take1.tail))) ⟨_, (by repeat (first | exact TakeL.nil | (apply TakeL.cons; · repeat (first | exact Take1.head | apply Take1.tail))))⟩ ?_
                refine WD.one 11 (by kernel_rfl) ?_
                refine WO.sto rfl rfl .no (sto0 (b := b7) rfl rfl rfl (by repeat (first | exact Take1.head | apply Take1.tail))) ⟨_, (by repeat (first | exact TakeL.nil | (apply TakeL.cons; · repeat (first | exact Take1.head | apply Take1.tail))))⟩ ?_
                refine ro0 (by repeat (first | exact Take1.head | apply Take1.tail)) (by repeat (first | exact Take1.head | apply Take1.tail)) ?_
                refine WD.done (by kernel_rfl) ?_
                exact ⟨rfl, (b6, b7, (ao35, c35), (ao39, c39)), trivial, (by repeat (first | exact Sub.nil | refine Sub.cons rfl ?_)), (by repeat (first | exact Sub.nil | refine Sub.cons rfl ?_)), _, (by repeat (first | exact TakeL.nil | (apply TakeL.cons; · repeat (first | exact Take1.head | apply Take1.tail))))⟩
              · refine WO.to rfl rfl .no (To.alloc (cs := [.slice none 0 0]) zr22 rfl) rfl (fun _ => ⟨_, (by repeat (first | exact TakeL.nil | (apply TakeL.cons; · repeat (first | exact Take1.head | apply Take1.tail))))⟩) ?_ -- t7
                intro b7
                refine WD.one 7 (by kernel_rfl) ?_
                refine WO.to rfl rfl .no (app0 (xs := y) rfl rfl rfl (by repeat (first | exact Take1.head | apply Take1.tail)) (by repeat (first | exact Take1.head | apply Take1.tail)) (by omega)) rfl (fun _ => ⟨_, (by repeat (first | exact TakeL.nil | (apply TakeL.cons; · repeat (first | exact Take1.head | apply Take1.tail))))⟩) ?_
                rintro ⟨⟨ao39, c39⟩, hc39⟩
                dsimp only at hc39 ⊢
                refine WD.one 10 (by kernel_rfl) ?_
                refine WO.sto rfl rfl .no (sto0 (b := b6) rfl rfl rfl (by repeat (first | exact Take1.head | apply Take1.tail))) ⟨_, (by repeat (first | exact TakeL.nil | (apply TakeL.cons; · repeat (first | exact Take1.head | apply Take1.tail))))⟩ ?_
                refine WD.one 11 (by kernel_rfl) ?_
                refine WO.sto rfl rfl .no (sto0 (b := b7) rfl rfl rfl (by repeat (first | exact Take1.head | apply Take1.tail))) ⟨_, (by repeat (first | exact TakeL.nil | (apply TakeL.cons; · repeat (first | exact Take1.head | apply Take1.tail))))⟩ ?_
                refine ro0 (by repeat (first | exact Take1.head | apply Take1.tail)) (by repeat (first | exact Take1.head | apply Take1.tail)) ?_
                refine WD.done (by kernel_rfl) ?_
                exact ⟨rfl, (b6, b7, (ao35, c35), (ao39, c39)), trivial, (by repeat (first | exact Sub.nil | refine Sub.cons rfl ?_)), (by repeat (first | exact Sub.nil | refine Sub.cons rfl ?_)), _, (by repeat (first | exact TakeL.nil | (apply TakeL.cons; · repeat (first | exact Take1.head | apply Take1.tail))))⟩
            · refine WO.to rfl rfl .no (To.alloc (cs := [.slice none 0 0]) zr22 rfl) rfl (fun _ => ⟨_, (by repeat (first | exact TakeL.nil | (apply TakeL.cons; · repeat (first | exact Take1.head | apply Take1.tail))))⟩) ?_ -- t7
              intro b7
              refine WD.one 3 (by kernel_rfl) ?_
              refine WO.to rfl rfl .no (app0 (xs := x) rfl rfl rfl (by repeat (first | exact Take1.head | apply Take1.tail)) (by repeat (first | exact Take1.head | apply Take1.tail)) (by omega)) rfl (fun _ => ⟨_, (by repeat (first | exact TakeL.nil | (apply TakeL.cons; · repeat (first | exact Take1.head | apply Take1.tail))))⟩) ?_
              rintro ⟨⟨ao35, c35⟩, hc35⟩
              dsimp only at hc35 ⊢
              refine WD.one 7 (by kernel_rfl) ?_
              refine WO.to rfl rfl .no (app0 (xs := y) rfl rfl rfl (by repeat (first | exact Take1.head | apply Take1.tail)) (by repeat (first | exact Take1.head | apply Take1.tail)) (by omega)) rfl (fun _ => ⟨_, (by repeat (first | exact TakeL.nil | (apply TakeL.cons; · repeat (first | exact Take1.head | apply Take1.tail))))⟩) ?_
              rintro ⟨⟨ao39, c39⟩, hc39⟩
              dsimp only at hc39 ⊢
              refine WD.one 10 (by kernel_rfl) ?_
              refine WO.sto rfl rfl .no (sto0 (b := b6) rfl rfl rfl (by repeat (first | exact Take1.head | apply Take1.tail))) ⟨_, (by repeat (first | exact TakeL.nil | (apply TakeL.cons; · repeat (first | exact Take1.head | apply Take1.tail))))⟩ ?_
              refine WD.one 11 (by kernel_rfl) ?_
              refine WO.sto rfl rfl .no (sto0 (b := b7) rfl rfl rfl (by repeat (first | exact Take1.head | apply Take1.tail))) ⟨_, (by repeat (first | exact TakeL.nil | (apply TakeL.cons; · repeat (first | exact Take1.head | apply Take1.tail))))⟩ ?_
              refine ro0 (by repeat (first | exact Take1.head | apply Take1.tail)) (by repeat (first | exact Take1.head | apply Take1.tail)) ?_
              refine WD.done (by kernel_rfl) ?_
              exact ⟨rfl, (b6, b7, (ao35, c35), (ao39, c39)), trivial, (by repeat (first | exact Sub.nil | refine Sub.cons rfl ?_)), (by repeat (first | exact Sub.nil | refine Sub.cons rfl ?_)), _, (by repeat (first | exact TakeL.nil | (apply TakeL.cons; · repeat (first | exact Take1.head | apply Take1.tail))))⟩
          · refine WO.to rfl rfl .no (To.alloc (cs := [.slice none 0 0]) zr22 rfl) rfl (fun _ => ⟨_, (by repeat (first | exact TakeL.nil | (apply TakeL.cons; · repeat (first | exact Take1.head | apply Take1.tail))))⟩) ?_ -- t7
            intro b7
            refine WD.two 3 4 (by kernel_rfl) ?_ ?_
            · refine WO.to rfl rfl .no (app0 (xs := x) rfl rfl rfl (by repeat (first | exact Take1.head | apply Take1.tail)) (by repeat (first | exact Take1.head | apply Take1.tail)) (by omega)) rfl (fun _ => ⟨_, (by repeat (first | exact TakeL.nil | (apply TakeL.cons; · repeat (first | exact Take1.head | apply Take1.tail))))⟩) ?_
              rintro ⟨⟨ao35, c35⟩, hc35⟩
              dsimp only at hc35 ⊢
              refine WD.one 4 (by kernel_rfl) ?_
              refine WO.to rfl rfl .no (To.buildSlice (vs := []) un22 zs5 rfl rfl (by simp [Value.cells]) (by decide) (by decide)) rfl (fun _ => ⟨_, (by repeat (first | exact TakeL.nil | (apply TakeL.cons; · repeat (first | exact Take1.head | apply Take1.tail))))⟩) ?_ -- t36
              intro b36
              refine WD.view (fun w h => h.blkOwn (b := b36) (size := 1) (n := 0) (by repeat (first | exact Take1.head | apply Take1.tail)) (by unfold maxLen; omega) rfl) ?_
              refine WD.one 7 (by kernel_rfl) ?_
              refine WO.to rfl rfl .no (app0 (xs := y) rfl rfl rfl (by repeat (first | exact Take1.head | apply Take1.tail)) (by repeat (first | exact Take1.head | apply Take1.tail)) (by omega)) rfl (fun _ => ⟨_, (by repeat (first | exact TakeL.nil | (apply TakeL.cons; · repeat (first | exact Take1.head | apply Take1.tail))))⟩) ?_
              rintro ⟨⟨ao39, c39⟩, hc39⟩
              dsimp only at hc39 ⊢
              refine WD.one 10 (by kernel_rfl) ?_
              refine WO.sto rfl rfl .no (sto0 (b := b6) rfl rfl rfl (by repeat (first | exact Take1.head | apply Take1.tail))) ⟨_, (by repeat (first | exact TakeL.nil | (apply TakeL.cons; · repeat (first | exact Take1.head | apply Take1.tail))))⟩ ?_
              refine WD.one 11 (by kernel_rfl) ?_
              refine WO.sto rfl rfl .no (sto0 (b := b7) rfl rfl rfl (by repeat (first | exact Take1.head | apply Take1.tail))) ⟨_, (by repeat (first | exact TakeL.nil | (apply TakeL.cons; · repeat (first | exact Take1.head | apply Take1.tail))))⟩ ?_
              refine ro0 (by repeat (first | exact Take1.head | apply Take1.tail)) (by repeat (first | exact Take1.head | apply Take1.tail)) ?_
              refine WD.done (by kernel_rfl) ?_
              exact ⟨rfl, (b6, b7, (ao35, c35), (ao39, c39)), trivial, (by repeat (first | exact Sub.nil | refine Sub.cons rfl ?_)), (by repeat (first | exact Sub.nil | refine Sub.cons rfl ?_)), _, (by repeat (first | exact TakeL.nil | (apply TakeL.cons; · repeat (first | exact Take1.head | apply Take1.tail))))⟩
            · refine WO.to rfl rfl .no (To.buildSlice (vs := []) un22 zs5 rfl rfl (by simp [Value.cells]) (by decide) (by decide)) rfl (fun _ => ⟨_, (by repeat (first | exact TakeL.nil | (apply TakeL.cons; · repeat (first | exact Take1.head | apply Take1.tail))))⟩) ?_ -- t36
              intro b36
              refine WD.view (fun w h => h.blkOwn (b := b36) (size := 1) (n := 0) (by repeat (first | exact Take1.head | apply Take1.tail)) (by unfold maxLen; omega) rfl) ?_
              refine WD.one 3 (by kernel_rfl) ?_
              refine WO.to rfl rfl .no (app0 (xs := x) rfl rfl rfl (by repeat (first | exact Take1.head | apply Take1.tail)) (by repeat (first | exact Take1.head | apply Take1.tail)) (by omega)) rfl (fun _ => ⟨_, (by repeat (first | exact TakeL.nil | (apply TakeL.cons; · repeat (first | exact Take1.head | apply Take1.tail))))⟩) ?_
              rintro ⟨⟨ao35, c35⟩, hc35⟩
              dsimp only at hc35 ⊢
              refine WD.one 7 (by kernel_rfl) ?_
              refine WO.to rfl rfl .no (app0 (xs := y) rfl rfl rfl (by repeat (first | exact Take1.head | apply Take1.tail)) (by repeat (first | exact Take1.head | apply Take1.tail)) (by omega)) rfl (fun _ => ⟨_, (by repeat (first | exact TakeL.nil | (apply TakeL.cons; · repeat (first | exact Take1.head | apply Take1.tail))))⟩) ?_
              rintro ⟨⟨ao39, c39⟩, hc39⟩
              dsimp only at hc39 ⊢
              refine WD.one 10 (by kernel_rfl) ?_
              refine WO.sto rfl rfl .no (sto0 (b := b6) rfl rfl rfl (by repeat (first | exact Take1.head | apply Take1.tail))) ⟨_, (by repeat (first | exact TakeL.nil | (apply TakeL.cons; · repeat (first | exact Take1.head | apply Take1.tail))))⟩ ?_
              refine WD.one 11 (by kernel_rfl) ?_
              refine WO.sto rfl rfl .no (sto0 (b := b7) rfl rfl rfl (by repeat (first | exact Take1.head | apply Take1.tail))) ⟨_, (by repeat (first | exact TakeL.nil | (apply TakeL.cons; · repeat (first | exact Take1.head | apply Take1.tail))))⟩ ?_
              refine ro0 (by repeat (first | exact Take1.head | apply Take1.tail)) (by repeat (first | exact Take1.head | apply Take1.tail)) ?_
              refine WD.done (by kernel_rfl) ?_
              exact ⟨rfl, (b6, b7, (ao35, c35), (ao39, c39)), trivial, (by repeat (first | exact Sub.nil | refine Sub.cons rfl ?_)), (by repeat (first | exact Sub.nil | refine Sub.cons rfl ?_)), _, (by repeat (first | exact TakeL.nil | (apply TakeL.cons; · repeat (first | exact Take1.head | apply Take1.tail))))⟩
        · refine WO.to rfl rfl .no (To.buildSlice (vs := []) un22 zs5 rfl rfl (by simp [Value.cells]) (by decide) (by decide)) rfl (fun _ => ⟨_, (by repeat (first | exact TakeL.nil | (apply TakeL.cons; · repeat (first | exact Take1.head | apply Take1.tail))))⟩) ?_ -- t36
          intro b36
          refine WD.view (fun w h => h.blkOwn (b := b36) (size := 1) (n := 0) (by repeat (first | exact Take1.head | apply Take1.tail)) (by unfold maxLen; omega) rfl) ?_
          refine WD.two 0 9 (by kernel_rfl) ?_ ?_
          · refine WO.to rfl rfl .no (To.buildSlice (vs := []) un22 zs5 rfl rfl (by simp [Value.cells]) (by decide) (by decide)) rfl (fun _ => ⟨_, (by repeat (first | exact TakeL.nil | (apply TakeL.cons; · repeat (first | exact Take1.head | apply Take1.tail))))⟩) ?_ -- t32
            intro b32
            refine WD.view (fun w h => h.blkOwn (b := b32) (size := 1) (n := 0) (by repeat (first | exact Take1.head | apply Take1.tail)) (by unfold maxLen; omega) rfl) ?_
            refine WD.two 3 9 (by kernel_rfl) ?_ ?_
            · refine WO.to rfl rfl .no (app0 (xs := x) rfl rfl rfl (by repeat (first | exact Take1.head | apply Take1.tail)) (by repeat (first | exact Take1.head | apply Take1.tail)) (by omega)) rfl (fun _ => ⟨_, (by repeat (first | exact TakeL.nil | (apply TakeL.cons; · repeat (first | exact Take1.head | apply Take1.tail))))⟩) ?_
              rintro ⟨⟨ao35, c35⟩, hc35⟩
              dsimp only at hc35 ⊢
              refine WD.two 7 9 (by kernel_rfl) ?_ ?_
              · refine WO.to rfl rfl .no (app0 (xs := y) rfl rfl rfl (by repeat (first | exact Take1.head | apply Take1.tail)) (by repeat (first | exact Take1.head | apply Take1.tail)) (by omega)) rfl (fun _ => ⟨_, (by repeat (first | exact TakeL.nil | (apply TakeL.cons; · repeat (first | exact Take1.head | apply Take1.tail))))⟩) ?_
                rintro ⟨⟨ao39, c39⟩, hc39⟩
                dsimp only at hc39 ⊢
                refine WD.one 9 (by kernel_rfl) ?_
                refine WO.to rfl rfl .no (To.alloc (cs := [.slice none 0 0]) zr22 rfl) rfl (fun _ => ⟨_, (by repeat (first | exact TakeL.nil | (apply TakeL.cons; · repeat (first | exact Take1.head | apply Take1.tail))))⟩) ?_ -- t7
                intro b7
                refine WD.one 10 (by kernel_rfl) ?_
                refine WO.sto rfl rfl .no (sto0 (b := b6) rfl rfl rfl (by repeat (first | exact Take1.head | apply Take1.tail))) ⟨_, (by repeat (first | exact TakeL.nil | (apply TakeL.cons; · repeat (first | exact Take1.head | apply Take1.tail))))⟩ ?_
                refine WD.one 11 (by kernel_rfl) ?_
                refine WO.sto rfl rfl .no (sto0 (b := b7) rfl rfl rfl (by repeat (first | exact Take1.head | apply Take1.tail))) ⟨_, (by repeat (first | exact TakeL.nil | (apply TakeL.cons; · repeat (first | exact Take1.head | apply Take1.tail))))⟩ ?_
                refine ro0 (by repeat (first | exact Take1.head | apply Take1.tail)) (by repeat (first | exact Take1.head | apply Take1.tail)) ?_
                refine WD.done (by kernel_rfl) ?_
                exact ⟨rfl, (b6, b7, (ao35, c35), (ao39, c39)), trivial, (by repeat (first | exact Sub.nil | refine Sub.cons rfl ?_)), (by repeat (first | exact Sub.nil | refine Sub.cons rfl ?_)), _, (by repeat (first | exact TakeL.nil | (apply TakeL.cons; · repeat (first | exact Take1.head | apply Take1.tail))))⟩
              · refine WO.to rfl rfl .no (To.alloc (cs := [.slice none 0 0]) zr22 rfl) rfl (fun _ => ⟨_, (by repeat (first | exact TakeL.nil | (apply TakeL.cons; · repeat (first | exact Take1.head | apply Take1.tail))))⟩) ?_ -- t7
                intro b7
                refine WD.one 7 (by kernel_rfl) ?_
                refine WO.to rfl rfl .no (app0 (xs := y) rfl rfl rfl (by repeat (first | exact Take1.head | apply Take1.tail)) (by repeat (first | exact Take1.head | apply Take1.tail)) (by omega)) rfl (fun _ => ⟨_, (by repeat (first | exact TakeL.nil | (apply TakeL.cons; · repeat (first | exact Take1.head | apply Take1.tail))))⟩) ?_
                rintro ⟨⟨ao39, c39⟩, hc39⟩
                dsimp only at hc39 ⊢
                refine WD.one 10 (by kernel_rfl) ?_
                refine WO.sto rfl rfl .no (sto0 (b := b6) rfl rfl rfl (by repeat (first | exact Take1.head | apply Take1.tail))) ⟨_, (by repeat (first | exact TakeL.nil | (apply TakeL.cons; · repeat (first | exact Take1.head | apply Take1.tail))))⟩ ?_
                refine WD.one 11 (by kernel_rfl) ?_
                refine WO.sto rfl rfl .no (sto0 (b := b7) rfl rfl rfl (by repeat (first | exact Take1.head | apply Take1.tail))) ⟨_, (by repeat (first | exact TakeL.nil | (apply TakeL.cons; · repeat (first | exact Take1.head | apply Take1.tail))))⟩ ?_
                refine ro0 (by repeat (first | exact Take1.head | apply Take1.tail)) (by repeat (first | exact Take1.head | apply Take1.tail)) ?_
                refine WD.done (by kernel_rfl) ?_
                exact ⟨rfl, (b6, b7, (ao35, c35), (ao39, c39)), trivial, (by repeat (first | exact Sub.nil | refine Sub.cons rfl ?_)), (by repeat (first | exact Sub.nil | refine Sub.cons rfl ?_)), _, (by repeat (first | exact TakeL.nil | (apply TakeL.cons; · repeat (first | exact Take1.head | apply Take1.tail))))⟩
            · refine WO.to rfl rfl .no (To.alloc (cs := [.slice none 0 0]) zr22 rfl) rfl (fun _ => ⟨_, (by repeat (first | exact TakeL.nil | (apply TakeL.cons; · repeat (first | exact Take1.head | apply Take1.tail))))⟩) ?_ -- t7
              intro b7
              refine WD.one 3 (by kernel_rfl) ?_
              refine WO.to rfl rfl .no (app0 (xs := x) rfl rfl rfl (by repeat (first | exact Take1.head | apply Take1.tail)) (by repeat (first | exact Take1.head | apply Take1.tail)) (by omega)) rfl (fun _ => ⟨_, (by repeat (first | exact TakeL.nil | (apply TakeL.cons; · repeat (first | exact Take1.head | apply Take1.tail))))⟩) ?_
              rintro ⟨⟨ao35, c35⟩, hc35⟩
              dsimp only at hc35 ⊢
              refine WD.one 7 (by kernel_rfl) ?_
              refine WO.to rfl rfl .no (app0 (xs := y) rfl rfl rfl (by repeat (first | exact Take1.head | apply Take1.tail)) (by repeat (first | exact Take1.head | apply Take1.tail)) (by omega)) rfl (fun _ => ⟨_, (by repeat (first | exact TakeL.nil | (apply TakeL.cons; · repeat (first | exact Take1.head | apply Take1.tail))))⟩) ?_
              rintro ⟨⟨ao39, c39⟩, hc39⟩
              dsimp only at hc39 ⊢
              refine WD.one 10 (by kernel_rfl) ?_
              refine WO.sto rfl rfl .no (sto0 (b := b6) rfl rfl rfl (by repeat (first | exact Take1.head | apply Take1.tail))) ⟨_, (by repeat (first | exact TakeL.nil | (apply TakeL.cons; · repeat (first | exact Take1.head | apply Take1.tail))))⟩ ?_
              refine WD.one 11 (by kernel_rfl) ?_
              refine WO.sto rfl rfl .no (sto0 (b := b7) rfl rfl rfl (by repeat (first | exact Take1.head | apply Take1.tail))) ⟨_, (by repeat (first | exact TakeL.nil | (apply TakeL.cons; · repeat (first | exact Take1.head | apply Take1.tail))))⟩ ?_
              refine ro0 (by repeat (first | exact Take1.head | apply Take1.tail)) (by repeat (first | exact Take1.head | apply Take1.tail)) ?_
              refine WD.done (by kernel_rfl) ?_
              exact ⟨rfl, (b6, b7, (ao35, c35), (ao39, c39)), trivial, (by repeat (first | exact Sub.nil | refine Sub.cons rfl ?_)), (by repeat (first | exact Sub.nil | refine Sub.cons rfl ?_)), _, (by repeat (first | exact TakeL.nil | (apply TakeL.cons; · repeat (first | exact Take1.head | apply Take1.tail))))⟩
          · refine WO.to rfl rfl .no (To.alloc (cs := [.slice none 0 0]) zr22 rfl) rfl (fun _ => ⟨_, (by repeat (first | exact TakeL.nil | (apply TakeL.cons; · repeat (first | exact Take1.head | apply Take1.tail))))⟩) ?_ -- t7
            intro b7
            refine WD.one 0 (by kernel_rfl) ?_
            refine WO.to rfl rfl .no (To.buildSlice (vs := []) un22 zs5 rfl rfl (by simp [Value.cells]) (by decide) (by decide)) rfl (fun _ => ⟨_, (by repeat (first | exact TakeL.nil | (apply TakeL.cons; · repeat (first | exact Take1.head | apply Take1.tail))))⟩) ?_ -- t32
            intro b32
            refine WD.view (fun w h => h.blkOwn (b := b32) (size := 1) (n := 0) (by repeat (first | exact Take1.head | apply Take1.tail)) (by unfold maxLen; omega) rfl) ?_
            refine WD.one 3 (by kernel_rfl) ?_
            refine WO.to rfl rfl .no (app0 (xs := x) rfl rfl rfl (by repeat (first | exact Take1.head | apply Take1.tail)) (by repeat (first | exact Take1.head | apply Take1.tail)) (by omega)) rfl (fun _ => ⟨_, (by repeat (first | exact TakeL.nil | (apply TakeL.cons; · repeat (first | exact Take1.head | apply Take1.tail))))⟩) ?_
            rintro ⟨⟨ao35, c35⟩, hc35⟩
            dsimp only at hc35 ⊢
            refine WD.one 7 (by kernel_rfl) ?_
            refine WO.to rfl rfl .no (app0 (xs := y) rfl rfl rfl (by repeat (first | exact Take1.head | apply Take1.tail)) (by repeat (first | exact Take1.head | apply Take1.tail)) (by omega)) rfl (fun _ => ⟨_, (by repeat (first | exact TakeL.nil | (apply TakeL.cons; · repeat (first | exact Take1.head | apply Take1.tail))))⟩) ?_
            rintro ⟨⟨ao39, c39⟩, hc39⟩
            dsimp only at hc39 ⊢
            refine WD.one 10 (by kernel_rfl) ?_
            refine WO.sto rfl rfl .no (sto0 (b := b6) rfl rfl rfl (by repeat (first | exact Take1.head | apply Take1.tail))) ⟨_, (by repeat (first | exact TakeL.nil | (apply TakeL.cons; · repeat (first | exact Take1.head | apply Take1.tail))))⟩ ?_
            refine WD.one 11 (by kernel_rfl) ?_
            refine WO.sto rfl rfl .no (sto0 (b := b7) rfl rfl rfl (by repeat (first | exact Take1.head | apply Take1.tail))) ⟨_, (by repeat (first | exact TakeL.nil | (apply TakeL.cons; · repeat (first | exact Take1.head | apply Take1.tail))))⟩ ?_
            refine ro0 (by repeat (first | exact Take1.head | apply Take1.tail)) (by repeat (first | exact Take1.head | apply Take1.tail)) ?_
            refine WD.done (by kernel_rfl) ?_
            exact ⟨rfl, (b6, b7, (ao35, c35), (ao39, c39)), trivial, (by repeat (first | exact Sub.nil | refine Sub.cons rfl ?_)), (by repeat (first | exact Sub.nil | refine Sub.cons rfl ?_)), _, (by repeat (first | exact TakeL.nil | (apply TakeL.cons; · repeat (first | exact Take1.head | apply Take1.tail))))⟩
        · refine WO.to rfl rfl .no (To.alloc (cs := [.slice none 0 0]) zr22 rfl) rfl (fun _ => ⟨_, (by repeat (first | exact TakeL.nil | (apply TakeL.cons; · repeat (first | exact Take1.head | apply Take1.tail))))⟩) ?_ -- t7
          intro b7
          refine WD.two 0 4 (by kernel_rfl) ?_ ?_
          · refine WO.to rfl rfl .no (To.buildSlice (vs := []) un22 zs5 rfl rfl (by simp [Value.cells]) (by decide) (by decide)) rfl (fun _ => ⟨_, (by repeat (first | exact TakeL.nil | (apply TakeL.cons; · repeat (first | exact Take1.head | apply Take1.tail))))⟩) ?_ -- t32
            intro b32
            refine WD.view (fun w h => h.blkOwn (b := b32) (size := 1) (n := 0) (by repeat (first | exact Take1.head | apply Take1.tail)) (by unfold maxLen; omega) rfl) ?_
            refine WD.two 3 4 (by kernel_rfl) ?_ ?_
            · refine WO.to rfl rfl .no (app0 (xs := x) rfl rfl rfl (by repeat (first | exact Take1.head | apply Take1.tail)) (by repeat (first | exact Take1.head | apply Take1.tail)) (by omega)) rfl (fun _ => ⟨_, (by repeat (first | exact TakeL.nil | (apply TakeL.cons; · repeat (first | exact Take1.head | apply Take1.tail))))⟩) ?_
              rintro ⟨⟨ao35, c35⟩, hc35⟩
              dsimp only at hc35 ⊢
              refine WD.one 4 (by kernel_rfl) ?_
              refine WO.to rfl rfl .no (To.buildSlice (vs := []) un22 zs5 rfl rfl (by simp [Value.cells]) (by decide) (by decide)) rfl (fun _ => ⟨_, (by repeat (first | exact TakeL.nil | (apply TakeL.cons; · repeat (first | exact Take1.head | apply Take1.tail))))⟩) ?_ -- t36
              intro b36
              refine WD.view (fun w h => h.blkOwn (b := b36) (size := 1) (n := 0) (by repeat (first | exact Take1.head | apply Take1.tail)) (by unfold maxLen; omega) rfl) ?_
              refine WD.one 7 (by kernel_rfl) ?_
              refine WO.to rfl rfl .no (app0 (xs := y) rfl rfl rfl (by repeat (first | exact Take1.head | apply Take1.tail)) (by repeat (first | exact Take1.head | apply Take1.tail)) (by omega)) rfl (fun _ => ⟨_, (by repeat (first | exact TakeL.nil | (apply TakeL.cons; · repeat (first | exact Take1.head | apply Take1.tail))))⟩) ?_
              rintro ⟨⟨ao39, c39⟩, hc39⟩
              dsimp only at hc39 ⊢
              refine WD.one 10 (by kernel_rfl) ?_
              refine WO.sto rfl rfl .no (sto0 (b := b6) rfl rfl rfl (by repeat (first | exact Take1.head | apply Take1.tail))) ⟨_, (by repeat (first | exact TakeL.nil | (apply TakeL.cons; · repeat (first | exact Take1.head | apply Take1.tail))))⟩ ?_
              refine WD.one 11 (by kernel_rfl) ?_
              refine WO.sto rfl rfl .no (sto0 (b := b7) rfl rfl rfl (by repeat (first | exact Take1.head | apply Take1.tail))) ⟨_, (by repeat (first | exact TakeL.nil | (apply TakeL.cons; · repeat (first | exact Take1.head | apply Take1.tail))))⟩ ?_
              refine ro0 (by repeat (first | exact Take1.head | apply Take1.tail)) (by repeat (first | exact Take1.head | apply Take1.tail)) ?_
              refine WD.done (by kernel_rfl) ?_
              exact ⟨rfl, (b6, b7, (ao35, c35), (ao39, c39)), trivial, (by repeat (first | exact Sub.nil | refine Sub.cons rfl ?_)), (by repeat (first | exact Sub.nil | refine Sub.cons rfl ?_)), _, (by repeat (first | exact TakeL.nil | (apply TakeL.cons; · repeat (first | exact Take1.head | apply Take1.tail))))⟩
            · refine WO.to rfl rfl .no (To.buildSlice (vs := []) un22 zs5 rfl rfl (by simp [Value.cells]) (by decide) (by decide)) rfl (fun _ => ⟨_, (by repeat (first | exact TakeL.nil | (apply TakeL.cons; · repeat (first | exact Take1.head | apply Take1.tail))))⟩) ?_ -- t36
              intro b36
              refine WD.view (fun w h => h.blkOwn (b := b36) (size := 1) (n := 0) (by repeat (first | exact Take1.head | apply Take1.tail)) (by unfold maxLen; omega) rfl) ?_
              refine WD.one 3 (by kernel_rfl) ?_
              refine WO.to rfl rfl .no (app0 (xs := x) rfl rfl rfl (by repeat (first | exact Take1.head | apply Take1.tail)) (by repeat (first | exact Take1.head | apply Take1.tail)) (by omega)) rfl (fun _ => ⟨_, (by repeat (first | exact TakeL.nil | (apply TakeL.cons; · repeat (first | exact Take1.head | apply Take1.tail))))⟩) ?_
              rintro ⟨⟨ao35, c35⟩, hc35⟩
              dsimp only at hc35 ⊢
              refine WD.one 7 (by kernel_rfl) ?_
              refine WO.to rfl rfl .no (app0 (xs := y) rfl rfl rfl (by repeat (first | exact Take1.head | apply Take1.tail)) (by repeat (first | exact Take1.head | apply Take1.tail)) (by omega)) rfl (fun _ => ⟨_, (by repeat (first | exact TakeL.nil | (apply TakeL.cons; · repeat (first | exact Take1.head | apply Take1.tail))))⟩) ?_
              rintro ⟨⟨ao39, c39⟩, hc39⟩
              dsimp only at hc39 ⊢
              refine WD.one 10 (by kernel_rfl) ?_
              refine WO.sto rfl rfl .no (sto0 (b := b6) rfl rfl rfl (by repeat (first | exact Take1.head | apply Take1.tail))) ⟨_, (by repeat (first | exact TakeL.nil | (apply TakeL.cons; · repeat (first | exact Take1.head | apply Take1.tail))))⟩ ?_
              refine WD.one 11 (by kernel_rfl) ?_
              refine WO.sto rfl rfl .no (sto0 (b := b7) rfl rfl rfl (by repeat (first | exact Take1.head | apply Take1.tail))) ⟨_, (by repeat (first | exact TakeL.nil | (apply TakeL.cons; · repeat (first | exact Take1.head | apply Take1.tail))))⟩ ?_
              refine ro0 (by repeat (first | exact Take1.head | apply Take1.tail)) (by repeat (first | exact Take1.head | apply Take1.tail)) ?_
              refine WD.done (by kernel_rfl) ?_
              exact ⟨rfl, (b6, b7, (ao35, c35), (ao39, c39)), trivial, (by repeat (first | exact Sub.nil | refine Sub.cons rfl ?_)), (by repeat (first | exact Sub.nil | refine Sub.cons rfl ?_)), _, (by repeat (first | exact TakeL.nil | (apply TakeL.cons; · repeat (first | exact Take1.head | apply Take1.tail))))⟩
          · refine WO.to rfl rfl .no (To.buildSlice (vs := []) un22 zs5 rfl rfl (by simp [Value.cells]) (by decide) (by decide)) rfl (fun _ => ⟨_, (by repeat (first | exact TakeL.nil | (apply TakeL.cons; · repeat (first | exact Take1.head | apply Take1.tail))))⟩) ?_ -- t36
            intro b36
            refine WD.view (fun w h => h.blkOwn (b := b36) (size := 1) (n := 0) (by repeat (first | exact Take1.head | apply Take1.tail)) (by unfold maxLen; omega) rfl) ?_
            refine WD.one 0 (by kernel_rfl) ?_
            refine WO.to rfl rfl .no (To.buildSlice (vs := []) un22 zs5 rfl rfl (by simp [Value.cells]) (by decide) (by decide)) rfl (fun _ => ⟨_, (by repeat (first | exact TakeL.nil | (apply TakeL.cons; · repeat (first | exact Take1.head | apply Take1.tail))))⟩) ?_ -- t32
            intro b32
            refine WD.view (fun w h => h.blkOwn (b := b32) (size := 1) (n := 0) (by repeat (first | exact Take1.head | apply Take1.tail)) (by unfold maxLen; omega) rfl) ?_
            refine WD.one 3 (by kernel_rfl) ?_
            refine WO.to rfl rfl .no (app0 (xs := x) rfl rfl rfl (by repeat (first | exact Take1.head | apply Take1.tail)) (by repeat (first | exact Take1.head | apply Take1.tail)) (by omega)) rfl (fun _ => ⟨_, (by repeat (first | exact TakeL.nil | (apply TakeL.cons; · repeat (first | exact Take1.head | apply Take1.tail))))⟩) ?_
            rintro ⟨⟨ao35, c35⟩, hc35⟩
            dsimp only at hc35 ⊢
            refine WD.one 7 (by kernel_rfl) ?_
            refine WO.to rfl rfl .no (app0 (xs := y) rfl rfl rfl (by repeat (first | exact Take1.head | apply Take1.tail)) (by repeat (first | exact Take1.head | apply Take1.tail)) (by omega)) rfl (fun _ => ⟨_, (by repeat (first | exact TakeL.nil | (apply TakeL.cons; · repeat (first | exact Take1.head | apply Take1.tail))))⟩) ?_
            rintro ⟨⟨ao39, c39⟩, hc39⟩
            dsimp only at hc39 ⊢
            refine WD.one 10 (by kernel_rfl) ?_
            refine WO.sto rfl rfl .no (sto0 (b := b6) rfl rfl rfl (by repeat (first | exact Take1.head | apply Take1.tail))) ⟨_, (by repeat (first | exact TakeL.nil | (apply TakeL.cons; · repeat (first | exact Take1.head | apply Take1.tail))))⟩ ?_
            refine WD.one 11 (by kernel_rfl) ?_
            refine WO.sto rfl rfl .no (sto0 (b := b7) rfl rfl rfl (by repeat (first | exact Take1.head | apply Take1.tail))) ⟨_, (by repeat (first | exact TakeL.nil | (apply TakeL.cons; · repeat (first | exact Take1.head | apply Take1.tail))))⟩ ?_
            refine ro0 (by repeat (first | exact Take1.head | apply Take1.tail)) (by repeat (first | exact Take1.head | apply Take1.tail)) ?_
            refine WD.done (by kernel_rfl) ?_
            exact ⟨rfl, (b6, b7, (ao35, c35), (ao39, c39)), trivial, (by repeat (first | exact Sub.nil | refine Sub.cons rfl ?_)), (by repeat (first | exact Sub.nil | refine Sub.cons rfl ?_)), _, (by repeat (first | exact TakeL.nil | (apply TakeL.cons; · repeat (first | exact Take1.head | apply Take1.tail))))⟩
      · refine WO.to rfl rfl .no (To.alloc (cs := [.slice none 0 0]) zr22 rfl) rfl (fun _ => ⟨_, (by repeat (first | exact TakeL.nil | (apply TakeL.cons; · repeat (first | exact Take1.head | apply Take1.tail))))⟩) ?_ -- t7
        intro b7
        refine WD.three 0 4 8 (by kernel_rfl) ?_ ?_ ?_
        · refine WO.to rfl rfl .no (To.buildSlice (vs := []) un22 zs5 rfl rfl (by simp [Value.cells]) (by decide) (by decide)) rfl (fun _ => ⟨_, (by repeat (first | exact TakeL.nil | (apply TakeL.cons; · repeat (first | exact Take1.head | apply Take1.tail))))⟩) ?_ -- t32
          intro b32
          refine WD.view (fun w h => h.blkOwn (b := b32) (size := 1) (n := 0) (by repeat (first | exact Take1.head | apply Take1.tail)) (by unfold maxLen; omega) rfl) ?_
          refine WD.three 3 4 8 (by kernel_rfl) ?_ ?_ ?_
          · refine WO.to rfl rfl .no (app0 (xs := x) rfl rfl rfl (by repeat (first | exact Take1.head | apply Take1.tail)) (by repeat (first | exact Take1.head | apply Take1.tail)) (by omega)) rfl (fun _ => ⟨_, (by repeat (first | exact TakeL.nil | (apply TakeL.cons; · repeat (first | exact Take1.head | apply Take1.tail))))⟩) ?_
            rintro ⟨⟨ao35, c35⟩, hc35⟩
            dsimp only at hc35 ⊢
            refine WD.two 4 8 (by kernel_rfl) ?_ ?_
            · refine WO.to rfl rfl .no (To.buildSlice (vs := []) un22 zs5 rfl rfl (by simp [Value.cells]) (by decide) (by decide)) rfl (fun _ => ⟨_, (by repeat (first | exact TakeL.nil | (apply TakeL.cons; · repeat (first | exact Take1.head | apply Take1.tail))))⟩) ?_ -- t36
              intro b36
              refine WD.view (fun w h => h.blkOwn (b := b36) (size := 1) (n := 0) (by repeat (first | exact Take1.head | apply Take1.tail)) (by unfold maxLen; omega) rfl) ?_
              refine WD.two 7 8 (by kernel_rfl) ?_ ?_
              · refine WO.to rfl rfl .no (app0 (xs := y) rfl rfl rfl (by repeat (first | exact Take1.head | apply Take1.tail)) (by repeat (first | exact Take1.head | apply Take1.tail)) (by omega)) rfl (fun _ => ⟨_, (by repeat (first | exact TakeL.nil | (apply TakeL.cons; · repeat (first | exact Take1.head | apply Take1.tail))))⟩) ?_
                rintro ⟨⟨ao39, c39⟩, hc39⟩
                dsimp only at hc39 ⊢
                refine WD.one 8 (by kernel_rfl) ?_
                refine WO.to rfl rfl .no (To.alloc (cs := [.slice none 0 0]) zr22 rfl) rfl (fun _ => ⟨_, (by repeat (first | exact TakeL.nil | (apply TakeL.cons; · repeat (first | exact Take1.head | apply Take1.tail))))⟩) ?_ -- t6
                intro b6
                refine WD.one 10 (by kernel_rfl) ?_
                refine WO.sto rfl rfl .no (sto0 (b := b6) rfl rfl rfl (by repeat (first | exact Take1.head | apply Take1.tail))) ⟨_, (by repeat (first | exact TakeL.nil | (apply TakeL.cons; · repeat (first | exact Take1.head | apply Take1.tail))))⟩ ?_
                refine WD.one 11 (by kernel_rfl) ?_
                refine WO.sto rfl rfl .no (sto0 (b := b7) rfl rfl rfl (by repeat (first | exact Take1.head | apply Take1.tail))) ⟨_, (by repeat (first | exact TakeL.nil | (apply TakeL.cons; · repeat (first | exact Take1.head | apply Take1.tail))))⟩ ?_
                refine ro0 (by repeat (first | exact Take1.head | apply Take1.tail)) (by repeat (first | exact Take1.head | apply Take1.tail)) ?_
                refine WD.done (by kernel_rfl) ?_
                exact ⟨rfl, (b6, b7, (ao35, c35), (ao39, c39)), trivial, (by repeat (first | exact Sub.nil | refine Sub.cons rfl ?_)), (by repeat (first | exact Sub.nil | refine Sub.cons rfl ?_)), _, (by repeat (first | exact TakeL.nil | (apply TakeL.cons; · repeat (first | exact Take1.head | apply Take1.tail))))⟩
              · refine WO.to rfl rfl .no (To.alloc (cs := [.slice none 0 0]) zr22 rfl) rfl (fun _ => ⟨_, (by repeat (first | exact TakeL.nil | (apply TakeL.cons; · repeat (first | exact Take1.head | apply Take1.tail))))⟩) ?_ -- t6
                intro b6
                refine WD.one 7 (by kernel_rfl) ?_
                refine WO.to rfl rfl .no (app0 (xs := y) rfl rfl rfl (by repeat (first | exact Take1.head | apply Take1.tail)) (by repeat (first | exact Take1.head | apply Take1.tail)) (by omega)) rfl (fun _ => ⟨_, (by repeat (first | exact TakeL.nil | (apply TakeL.cons; · repeat (first | exact Take1.head | apply Take1.tail))))⟩) ?_
                rintro ⟨⟨ao39, c39⟩, hc39⟩
                dsimp only at hc39 ⊢
                refine WD.one 10 (by kernel_rfl) ?_
                refine WO.sto rfl rfl .no (sto0 (b := b6) rfl rfl rfl (by repeat (first | exact Take1.head | apply Take1.tail))) ⟨_, (by repeat (first | exact TakeL.nil | (apply TakeL.cons; · repeat (first | exact Take1.head | apply Take1.tail))))⟩ ?_
                refine WD.one 11 (by kernel_rfl) ?_
                refine WO.sto rfl rfl .no (sto0 (b := b7) rfl rfl rfl (by repeat (first | exact Take1.head | apply Take1.tail))) ⟨_, (by repeat (first | exact TakeL.nil | (apply TakeL.cons; · repeat (first | exact Take1.head | apply Take1.tail))))⟩ ?_
                refine ro0 (by repeat (first | exact Take1.head | apply Take1.tail)) (by repeat (first | exact Take1.head | apply Take1.tail)) ?_
                refine WD.done (by kernel_rfl) ?_
                exact ⟨rfl, (b6, b7, (ao35, c35), (ao39, c39)), trivial, (by repeat (first | exact Sub.nil | refine Sub.cons rfl ?_)), (by repeat (first | exact Sub.nil | refine Sub.cons rfl ?_)), _, (by repeat (first | exact TakeL.nil | (apply TakeL.cons; · repeat (first | exact Take1.head | apply Take1.tail))))⟩
            · refine WO.to rfl rfl .no (To.alloc (cs := [.slice none 0 0]) zr22 rfl) rfl (fun _ => ⟨_, (by repeat (first | exact TakeL.nil | (apply TakeL.cons; · repeat (first | exact Take1.head | apply Take1.tail))))⟩) ?_ -- t6
              intro b6
              refine WD.one 4 (by kernel_rfl) ?_
              refine WO.to rfl rfl .no (To.buildSlice (vs := []) un22 zs5 rfl rfl (by simp [Value.cells]) (by decide) (by decide)) rfl (fun _ => ⟨_, (by repeat (first | exact TakeL.nil | (apply TakeL.cons; · repeat (first | exact Take1.head | apply Take1.tail))))⟩) ?_ -- t36
              intro b36
              refine WD.view (fun w h => h.blkOwn (b := b36) (size := 1) (n := 0) (by repeat (first | exact Take1.head | apply Take1.tail)) (by unfold maxLen; omega) rfl) ?_
              refine WD.one 7 (by kernel_rfl) ?_
              refine WO.to rfl rfl .no (app0 (xs := y) rfl rfl rfl (by repeat (first | exact Take1.head | apply Take1.tail)) (by repeat (first | exact Take1.head | apply Take1.tail)) (by omega)) rfl (fun _ => ⟨_, (by repeat (first | exact TakeL.nil | (apply TakeL.cons; · repeat (first | exact Take1.head | apply Take1.tail))))⟩) ?_
              rintro ⟨⟨ao39, c39⟩, hc39⟩
              dsimp only at hc39 ⊢
              refine WD.one 10 (by kernel_rfl) ?_
              refine WO.sto rfl rfl .no (sto0 (b := b6) rfl rfl rfl (by repeat (first | exact Take1.head | apply Take1.tail))) ⟨_, (by repeat (first | exact TakeL.nil | (apply TakeL.cons; · repeat (first | exact Take1.head | apply Take1.tail))))⟩ ?_
              refine WD.one 11 (by kernel_rfl) ?_
              refine WO.sto rfl rfl .no (sto0 (b := b7) rfl rfl rfl (by repeat (first | exact Take1.head | apply Take1.tail))) ⟨_, (by repeat (first | exact TakeL.nil | (apply TakeL.cons; · repeat (first | exact Take1.head | apply Take1.tail))))⟩ ?_
              refine ro0 (by repeat (first | exact Take1.head | apply Take1.tail)) (by repeat (first | exact Take1.head | apply Take1.tail)) ?_
              refine WD.done (by kernel_rfl) ?_
              exact ⟨rfl, (b6, b7, (ao35, c35), (ao39, c39)), trivial, (by repeat (first | exact Sub.nil | refine Sub.cons rfl ?_)), (by repeat (first | exact Sub.nil | refine Sub.cons rfl ?_)), _, (by repeat (first | exact TakeL.nil | (apply TakeL.cons; · repeat (first | exact Take1.head | apply Take1.tail))))⟩
          · refine WO.to rfl rfl .no (To.buildSlice (vs := []) un22 zs5 rfl rfl (by simp [Value.cells]) (by decide) (by decide)) rfl (fun _ => ⟨_, (by repeat (first | exact TakeL.nil | (apply TakeL.cons; · repeat (first | exact Take1.head | apply Take1.tail))))⟩) ?_ -- t36
            intro b36
            refine WD.view (fun w h => h.blkOwn (b := b36) (size := 1) (n := 0) (by repeat (first | exact Take1.head | apply Take1.tail)) (by unfold maxLen; omega) rfl) ?_
            refine WD.two 3 8 (by kernel_rfl) ?_ ?_
            · refine WO.to rfl rfl .no (app0 (xs := x) rfl rfl rfl (by repeat (first | exact Take1.head | apply Take1.tail)) (by repeat (first | exact Take1.head | apply Take1.tail)) (by omega)) rfl (fun _ => ⟨_, (by repeat (first | exact TakeL.nil | (apply TakeL.cons; · repeat (first | exact Take1.head | apply Take1.tail))))⟩) ?_
              rintro ⟨⟨ao35, c35⟩, hc35⟩
              dsimp only at hc35 ⊢
              refine WD.two 7 8 (by kernel_rfl) ?_ ?_
              · refine WO.to rfl rfl .no (app0 (xs := y) rfl rfl rfl (by repeat (first | exact Take1.head | apply Take1.tail)) (by repeat (first | exact Take1.head | apply Take1.tail)) (by omega)) rfl (fun _ => ⟨_, (by repeat (first | exact TakeL.nil | (apply TakeL.cons; · repeat (first | exact Take1.head | apply Take1.tail))))⟩) ?_
                rintro ⟨⟨ao39, c39⟩, hc39⟩
                dsimp only at hc39 ⊢
                refine WD.one 8 (by kernel_rfl) ?_
                refine WO.to rfl rfl .no (To.alloc (cs := [.slice none 0 0]) zr22 rfl) rfl (fun _ => ⟨_, (by repeat (first | exact TakeL.nil | (apply TakeL.cons; · repeat (first | exact Take1.head | apply Take1.tail))))⟩) ?_ -- t6
                intro b6
                refine WD.one 10 (by kernel_rfl) ?_
                refine WO.sto rfl rfl .no (sto0 (b := b6) rfl rfl rfl (by repeat (first | exact Take1.head | apply Take1.tail))) ⟨_, (by repeat (first | exact TakeL.nil | (apply TakeL.cons; · repeat (first | exact Take1.head | apply Take1.tail))))⟩ ?_
                refine WD.one 11 (by kernel_rfl) ?_
                refine WO.sto rfl rfl .no (sto0 (b := b7) rfl rfl rfl (by repeat (first | exact Take1.head | apply Take1.tail))) ⟨_, (by repeat (first | exact TakeL.nil | (apply TakeL.cons; · repeat (first | exact Take1.head | apply Take1.tail))))⟩ ?_
                refine ro0 (by repeat (first | exact Take1.head | apply Take1.tail)) (by repeat (first | exact Take1.head | apply Take1.tail)) ?_
                refine WD.done (by kernel_rfl) ?_
                exact ⟨rfl, (b6, b7, (ao35, c35), (ao39, c39)), trivial, (by repeat (first | exact Sub.nil | refine Sub.cons rfl ?_)), (by repeat (first | exact Sub.nil | refine Sub.cons rfl ?_)), _, (by repeat (first | exact TakeL.nil | (apply TakeL.cons; · repeat (first | exact Take1.head | apply Take1.tail))))⟩
              · refine WO.to rfl rfl .no (To.alloc (cs := [.slice none 0 0]) zr22 rfl) rfl (fun _ => ⟨_, (by repeat (first | exact TakeL.nil | (apply TakeL.cons; · repeat (first | exact Take1.head | apply Take1.tail))))⟩) ?_ -- t6
                intro b6
                refine WD.one 7 (by kernel_rfl) ?_
                refine WO.to rfl rfl .no (app0 (xs := y) rfl rfl rfl (by repeat (first | exact Take1.head | apply Take1.tail)) (by repeat (first | exact Take1.head | apply Take1.tail)) (by omega)) rfl (fun _ => ⟨_, (by repeat (first | exact TakeL.nil | (apply TakeL.cons; · repeat (first | exact Take1.head | apply Take1.tail))))⟩) ?_
                rintro ⟨⟨ao39, c39⟩, hc39⟩
                dsimp only at hc39 ⊢
                refine WD.one 10 (by kernel_rfl) ?_
                refine WO.sto rfl rfl .no (sto0 (b := b6) rfl rfl rfl (by repeat (first | exact Take1.head | apply Take1.tail))) ⟨_, (by repeat (first | exact TakeL.nil | (apply TakeL.cons; · repeat (first | exact Take1.head | apply Take1.tail))))⟩ ?_
                refine WD.one 11 (by kernel_rfl) ?_
                refine WO.sto rfl rfl .no (sto0 (b := b7) rfl rfl rfl (by repeat (first | exact Take1.head | apply Take1.tail))) ⟨_, (by repeat (first | exact TakeL.nil | (apply TakeL.cons; · repeat (first | exact Take1.head | apply Take1.tail))))⟩ ?_
                refine ro0 (by repeat (first | exact Take1.head | apply Take1.tail)) (by repeat (first | exact Take1.head | apply Take1.tail)) ?_
                refine WD.done (by kernel_rfl) ?_
                exact ⟨rfl, (b6, b7, (ao35, c35), (ao39, c39)), trivial, (by repeat (first | exact Sub.nil | refine Sub.cons rfl ?_)), (by repeat (first | exact Sub.nil | refine Sub.cons rfl ?_)), _, (by repeat (first | exact TakeL.nil | (apply TakeL.cons; · repeat (first | exact Take1.head | apply Take1.tail))))⟩
            · refine WO.to rfl rfl .no (To.alloc (cs := [.slice none 0 0]) zr22 rfl) rfl (fun _ => ⟨_, (by repeat (first | exact TakeL.nil | (apply TakeL.cons; · repeat (first | exact Take1.head | apply Take1.tail))))⟩) ?_ -- t6
              intro b6
              refine WD.one 3 (by kernel_rfl) ?_
              refine WO.to rfl rfl .no (app0 (xs := x) rfl rfl rfl (by repeat (first | exact Take1.head | apply Take1.tail)) (by repeat (first | exact Take1.head | apply Take1.tail)) (by omega)) rfl (fun _ => ⟨_, (by repeat (first | exact TakeL.nil | (apply TakeL.cons; · repeat (first | exact Take1.head | apply Take1.tail))))⟩) ?_
              rintro ⟨⟨ao35, c35⟩, hc35⟩
              dsimp only at hc35 ⊢
              refine WD.one 7 (by kernel_rfl) ?_
              refine WO.to rfl rfl .no (app0 (xs := y) rfl rfl rfl (by repeat (first | exact Take1.head | apply Take1.tail)) (by repeat (first | exact Take1.head | apply Take1.tail)) (by omega)) rfl (fun _ => ⟨_, (by repeat (first | exact TakeL.nil | (apply TakeL.cons; · repeat (first | exact Take1.head | apply Take1.tail))))⟩) ?_
              rintro ⟨⟨ao39, c39⟩, hc39⟩
              dsimp only at hc39 ⊢
              refine WD.one 10 (by kernel_rfl) ?_
              refine WO.sto rfl rfl .no (sto0 (b := b6) rfl rfl rfl (by repeat (first | exact Take1.head | apply Take1.tail))) ⟨_, (by repeat (first | exact TakeL.nil | (apply TakeL.cons; · repeat (first | exact Take1.head | apply Take1.tail))))⟩ ?_
              refine WD.one 11 (by kernel_rfl) ?_
              refine WO.sto rfl rfl .no (sto0 (b := b7) rfl rfl rfl (by repeat (first | exact Take1.head | apply Take1.tail))) ⟨_, (by repeat (first | exact TakeL.nil | (apply TakeL.cons; · repeat (first | exact Take1.head | apply Take1.tail))))⟩ ?_
              refine ro0 (by repeat (first | exact Take1.head | apply Take1.tail)) (by repeat (first | exact Take1.head | apply Take1.tail)) ?_
              refine WD.done (by kernel_rfl) ?_
              exact ⟨rfl, (b6, b7, (ao35, c35), (ao39, c39)), trivial, (by repeat (first | exact Sub.nil | refine Sub.cons rfl ?_)), (by repeat (first | exact Sub.nil | refine Sub.cons rfl ?_)), _, (by repeat (first | exact TakeL.nil | (apply TakeL.cons; · repeat (first | exact Take1.head | apply Take1.tail))))⟩
          · refine WO.to rfl rfl .no (To.alloc (cs := [.slice none 0 0]) zr22 rfl) rfl (fun _ => ⟨_, (by repeat (first | exact TakeL.nil | (apply TakeL.cons; · repeat (first | exact Take1.head | apply Take1.tail))))⟩) ?_ -- t6
            intro b6
            refine WD.two 3 4 (by kernel_rfl) ?_ ?_
            · refine WO.to rfl rfl .no (app0 (xs := x) rfl rfl rfl (by repeat (first | exact Take1.head | apply Take1.tail)) (by repeat (first | exact Take1.head | apply Take1.tail)) (by omega)) rfl (fun _ => ⟨_, (by repeat (first | exact TakeL.nil | (apply TakeL.cons; · repeat (first | exact Take1.head | apply Take1.tail))))⟩) ?_
              rintro ⟨⟨ao35, c35⟩, hc35⟩
              dsimp only at hc35 ⊢
              refine WD.one 4 (by kernel_rfl) ?_
              refine WO.to rfl rfl .no (To.buildSlice (vs := []) un22 zs5 rfl rfl (by simp [Value.cells]) (by decide) (by decide)) rfl (fun _ => ⟨_, (by repeat (first | exact TakeL.nil | (apply TakeL.cons; · repeat (first | exact Take1.head | apply Take1.tail))))⟩) ?_ -- t36
              intro b36
              refine WD.view (fun w h => h.blkOwn (b := b36) (size := 1) (n := 0) (by repeat (first | exact Take1.head | apply Take1.tail)) (by unfold maxLen; omega) rfl) ?_
              refine WD.one 7 (by kernel_rfl) ?_
              refine WO.to rfl rfl .no (app0 (xs := y) rfl rfl rfl (by repeat (first | exact Take1.head | apply Take1.tail)) (by repeat (first | exact Take1.head | apply Take1.tail)) (by omega)) rfl (fun _ => ⟨_, (by repeat (first | exact TakeL.nil | (apply TakeL.cons; · repeat (first | exact Take1.head | apply Take1.tail))))⟩) ?_
              rintro ⟨⟨ao39, c39⟩, hc39⟩
              dsimp only at hc39 ⊢
              refine WD.one 10 (by kernel_rfl) ?_
              refine WO.sto rfl rfl .no (sto0 (b := b6) rfl rfl rfl (by repeat (first | exact Take1.head | apply Take1.tail))) ⟨_, (by repeat (first | exact TakeL.nil | (apply TakeL.cons; · repeat (first | exact Take1.head | apply Take1.tail))))⟩ ?_
              refine WD.one 11 (by kernel_rfl) ?_
              refine WO.sto rfl rfl .no (sto0 (b := b7) rfl rfl rfl (by repeat (first | exact Take1.head | apply Take1.tail))) ⟨_, (by repeat (first | exact TakeL.nil | (apply TakeL.cons; · repeat (first | exact Take1.head | apply Take1.tail))))⟩ ?_
              refine ro0 (by repeat (first | exact Take1.head | apply Take1.tail)) (by repeat (first | exact Take1.head | apply Take1.tail)) ?_
              refine WD.done (by kernel_rfl) ?_
              exact ⟨rfl, (b6, b7, (ao35, c35), (ao39, c39)), trivial, (by repeat (first | exact Sub.nil | refine Sub.cons rfl ?_)), (by repeat (first | exact Sub.nil | refine Sub.cons rfl ?_)), _, (by repeat (first | exact TakeL.nil | (apply TakeL.cons; · repeat (first | exact Take1.head | apply Take1.tail))))⟩
            · refine WO.to rfl rfl .no (To.buildSlice (vs := []) un22 zs5 rfl rfl (by simp [Value.cells]) (by decide) (by decide)) rfl (fun _ => ⟨_, (by repeat (first | exact TakeL.nil | (apply TakeL.cons; · repeat (first | exact Take1.head | apply Take1.tail))))⟩) ?_ -- t36
              intro b36
              refine WD.view (fun w h => h.blkOwn (b := b36) (size := 1) (n := 0) (by repeat (first | exact Take1.head | apply Take1.tail)) (by unfold maxLen; omega) rfl) ?_
              refine WD.one 3 (by kernel_rfl) ?_
              refine WO.to rfl rfl .no (app0 (xs := x) rfl rfl rfl (by repeat (first | exact Take1.head | apply Take1.tail)) (by repeat (first | exact Take1.head | apply Take1.tail)) (by omega)) rfl (fun _ => ⟨_, (by repeat (first | exact TakeL.nil | (apply TakeL.cons; · repeat (first | exact Take1.head | apply Take1.tail))))⟩) ?_
              rintro ⟨⟨ao35, c35⟩, hc35⟩
              dsimp only at hc35 ⊢
              refine WD.one 7 (by kernel_rfl) ?_
              refine WO.to rfl rfl .no (app0 (xs := y) rfl rfl rfl (by repeat (first | exact Take1.head | apply Take1.tail)) (by repeat (first | exact Take1.head | apply Take1.tail)) (by omega)) rfl (fun _ => ⟨_, (by repeat (first | exact TakeL.nil | (apply TakeL.cons; · repeat (first | exact Take1.head | apply Take1.tail))))⟩) ?_
              rintro ⟨⟨ao39, c39⟩, hc39⟩
              dsimp only at hc39 ⊢
              refine WD.one 10 (by kernel_rfl) ?_
              refine WO.sto rfl rfl .no (sto0 (b := b6) rfl rfl rfl (by repeat (first | exact Take1.head | apply Take1.tail))) ⟨_, (by repeat (first | exact TakeL.nil | (apply TakeL.cons; · repeat (first | exact Take1.head | apply Take1.tail))))⟩ ?_
              refine WD.one 11 (by kernel_rfl) ?_
              refine WO.sto rfl rfl .no (sto0 (b := b7) rfl rfl rfl (by repeat (first | exact Take1.head | apply Take1.tail))) ⟨_, (by repeat (first | exact TakeL.nil | (apply TakeL.cons; · repeat (first | exact Take1.head | apply Take1.tail))))⟩ ?_
              refine ro0 (by repeat (first | exact Take1.head | apply Take1.tail)) (by repeat (first | exact Take1.head | apply Take1.tail)) ?_
              refine WD.done (by kernel_rfl) ?_
              exact ⟨rfl, (b6, b7, (ao35, c35), (ao39, c39)), trivial, (by repeat (first | exact Sub.nil | refine Sub.cons rfl ?_)), (by repeat (first | exact Sub.nil | refine Sub.cons rfl ?_)), _, (by repeat (first | exact TakeL.nil | (apply TakeL.cons; · repeat (first | exact Take1.head | apply Take1.tail))))⟩
        · refine WO.to rfl rfl .no (To.buildSlice (vs := []) un22 zs5 rfl rfl (by simp [Value.cells]) (by decide) (by decide)) rfl (fun _ => ⟨_, (by repeat (first | exact TakeL.nil | (apply TakeL.cons; · repeat (first | exact Take1.head | apply Take1.tail))))⟩) ?_ -- t36
          intro b36
          refine WD.view (fun w h => h.blkOwn (b := b36) (size := 1) (n := 0) (by repeat (first | exact Take1.head | apply Take1.tail)) (by unfold maxLen; omega) rfl) ?_
          refine WD.two 0 8 (by kernel_rfl) ?_ ?_
          · refine WO.to rfl rfl .no (To.buildSlice (vs := []) un22 zs5 rfl rfl (by simp [Value.cells]) (by decide) (by decide)) rfl (fun _ => ⟨_, (by repeat (first | exact TakeL.nil | (apply TakeL.cons; · repeat (first | exact Take1.head | apply Take1.tail))))⟩) ?_ -- t32
            intro b32
            refine WD.view (fun w h => h.blkOwn (b := b32) (size := 1) (n := 0) (by repeat (first | exact Take1.head | apply Take1.tail)) (by unfold maxLen; omega) rfl) ?_
            refine WD.two 3 8 (by kernel_rfl) ?_ ?_
            · refine WO.to rfl rfl .no (app0 (xs := x) rfl rfl rfl (by repeat (first | exact Take1.head | apply Take1.tail)) (by repeat (first | exact Take1.head | apply Take1.tail)) (by omega)) rfl (fun _ => ⟨_, (by repeat (first | exact TakeL.nil | (apply TakeL.cons; · repeat (first | exact Take1.head | apply Take1.tail))))⟩) ?_
              rintro ⟨⟨ao35, c35⟩, hc35⟩
              dsimp only at hc35 ⊢
              refine WD.two 7 8 (by kernel_rfl) ?_ ?_
              · refine WO.to rfl rfl .no (app0 (xs := y) rfl rfl rfl (by repeat (first | exact Take1.head | apply Take1.tail)) (by repeat (first | exact Take1.head | apply Take1.tail)) (by omega)) rfl (fun _ => ⟨_, (by repeat (first | exact TakeL.nil | (apply TakeL.cons; · repeat (first | exact Take1.head | apply Take1.tail))))⟩) ?_
                rintro ⟨⟨ao39, c39⟩, hc39⟩
                dsimp only at hc39 ⊢
                refine WD.one 8 (by kernel_rfl) ?_
                refine WO.to rfl rfl .no (To.alloc (cs := [.slice none 0 0]) zr22 rfl) rfl (fun _ => ⟨_, (by repeat (first | exact TakeL.nil | (apply TakeL.cons; · repeat (first | exact Take1.head | apply Take1.tail))))⟩) ?_ -- t6
                intro b6
                refine WD.one 10 (by kernel_rfl) ?_
                refine WO.sto rfl rfl .no (sto0 (b := b6) rfl rfl rfl (by repeat (first | exact Take1.head | apply Take1.tail))) ⟨_, (by repeat (first | exact TakeL.nil | (apply TakeL.cons; · repeat (first | exact Take1.head | apply Take1.tail))))⟩ ?_
                refine WD.one 11 (by kernel_rfl) ?_
                refine WO.sto rfl rfl .no (sto0 (b := b7) rfl rfl rfl (by repeat (first | exact Take1.head | apply Take1.tail))) ⟨_, (by repeat (first | exact TakeL.nil | (apply TakeL.cons; · repeat (first | exact Take1.head | apply Take1.tail))))⟩ ?_
                refine ro0 (by repeat (first | exact Take1.head | apply Take1.tail)) (by repeat (first | exact Take1.head | apply Take1.tail)) ?_
                refine WD.done (by kernel_rfl) ?_
                exact ⟨rfl, (b6, b7, (ao35, c35), (ao39, c39)), trivial, (by repeat (first | exact Sub.nil | refine Sub.cons rfl ?_)), (by repeat (first | exact Sub.nil | refine Sub.cons rfl ?_)), _, (by repeat (first | exact TakeL.nil | (apply TakeL.cons; · repeat (first | exact Take1.head | apply Take1.tail))))⟩
              · refine WO.to rfl rfl .no (To.alloc (cs := [.slice none 0 0]) zr22 rfl) rfl (fun _ => ⟨_, (by repeat (first | exact TakeL.nil | (apply TakeL.cons; · repeat (first | exact Take1.head | apply Take1.tail))))⟩) ?_ -- t6
                intro b6
                refine WD.one 7 (by kernel_rfl) ?_
                refine WO.to rfl rfl .no (app0 (xs := y) rfl rfl rfl (by repeat (first | exact Take1.head | apply Take1.tail)) (by repeat (first | exact Take1.head | apply Take1.tail)) (by omega)) rfl (fun _ => ⟨_, (by repeat (first | exact TakeL.nil | (apply TakeL.cons; · repeat (first | exact Take1.head | apply Take1.tail))))⟩) ?_
                rintro ⟨⟨ao39, c39⟩, hc39⟩
                dsimp only at hc39 ⊢
                refine WD.one 10 (by kernel_rfl) ?_
                refine WO.sto rfl rfl .no (sto0 (b := b6) rfl rfl rfl (by repeat (first | exact Take1.head | apply Take1.tail))) ⟨_, (by repeat (first | exact TakeL.nil | (apply TakeL.cons; · repeat (first | exact Take1.head | apply Take1.tail))))⟩ ?_
                refine WD.one 11 (by kernel_rfl) ?_
                refine WO.sto rfl rfl .no (sto0 (b := b7) rfl rfl rfl (by repeat (first | exact Take1.head | apply Take1.tail))) ⟨_, (by repeat (first | exact TakeL.nil | (apply TakeL.cons; · repeat (first | exact Take1.head | apply Take1.tail))))⟩ ?_
                refine ro0 (by repeat (first | exact Take1.head | apply Take1.tail)) (by repeat (first | exact Take1.head | apply Take1.tail)) ?_
                refine WD.done (by kernel_rfl) ?_
                exact ⟨rfl, (b6, b7, (ao35, c35), (ao39, c39)), trivial, (by repeat (first | exact Sub.nil | refine Sub.cons rfl ?_)), (by repeat (first | exact Sub.nil | refine Sub.cons rfl ?_)), _, (by repeat (first | exact TakeL.nil | (apply TakeL.cons; · repeat (first | exact Take1.head | apply Take1.tail))))⟩
            · refine WO.to rfl rfl .no (To.alloc (cs := [.slice none 0 0]) zr22 rfl) rfl (fun _ => ⟨_, (by repeat (first | exact TakeL.nil | (apply TakeL.cons; · repeat (first | exact Take1.head | apply Take1.tail))))⟩) ?_ -- t6
              intro b6
              refine WD.one 3 (by kernel_rfl) ?_
              refine WO.to rfl rfl .no (app0 (xs := x) rfl rfl rfl (by repeat (first | exact Take1.head | apply Take1.tail)) (by repeat (first | exact Take1.head | apply Take1.tail)) (by omega)) rfl (fun _ => ⟨_, (by repeat (first | exact TakeL.nil | (apply TakeL.cons; · repeat (first | exact Take1.head | apply Take1.tail))))⟩) ?_
              rintro ⟨⟨ao35, c35⟩, hc35⟩
              dsimp only at hc35 ⊢
              refine WD.one 7 (by kernel_rfl) ?_
              refine WO.to rfl rfl .no (app0 (xs := y) rfl rfl rfl (by repeat (first | exact Take1.head | apply Take1.tail)) (by repeat (first | exact Take1.head | apply Take1.tail)) (by omega)) rfl (fun _ => ⟨_, (by repeat (first | exact TakeL.nil | (apply TakeL.cons; · repeat (first | exact Take1.head | apply Take1.tail))))⟩) ?_
              rintro ⟨⟨ao39, c39⟩, hc39⟩
              dsimp only at hc39 ⊢
              refine WD.one 10 (by kernel_rfl) ?_
              refine WO.sto rfl rfl .no (sto0 (b := b6) rfl rfl rfl (by repeat (first | exact Take1.head | apply Take1.tail))) ⟨_, (by repeat (first | exact TakeL.nil | (apply TakeL.cons; · repeat (first | exact Take1.head | apply Take1.tail))))⟩ ?_
              refine WD.one 11 (by kernel_rfl) ?_
              refine WO.sto rfl rfl .no (sto0 (b := b7) rfl rfl rfl (by repeat (first | exact Take1.head | apply Take1.tail))) ⟨_, (by repeat (first | exact TakeL.nil | (apply TakeL.cons; · repeat (first | exact Take1.head | apply Take1.tail))))⟩ ?_
              refine ro0 (by repeat (first | exact Take1.head | apply Take1.tail)) (by repeat (first | exact Take1.head | apply Take1.tail)) ?_
              refine WD.done (by kernel_rfl) ?_
              exact ⟨rfl, (b6, b7, (ao35, c35), (ao39, c39)), trivial, (by repeat (first | exact Sub.nil | refine Sub.cons rfl ?_)), (by repeat (first | exact Sub.nil | refine Sub.cons rfl ?_)), _, (by repeat (first | exact TakeL.nil | (apply TakeL.cons; · repeat (first | exact Take1.head | apply Take1.tail))))⟩
          · refine WO.to rfl rfl .no (To.alloc (cs := [.slice none 0 0]) zr22 rfl) rfl (fun _ => ⟨_, (by repeat (first | exact TakeL.nil | (apply TakeL.cons; · repeat (first | exact Take1.head | apply Take1.tail))))⟩) ?_ -- t6
            intro b6
            refine WD.one 0 (by kernel_rfl) ?_
            refine WO.to rfl rfl .no (To.buildSlice (vs := []) un22 zs5 rfl rfl (by simp [Value.cells]) (by decide) (by decide)) rfl (fun _ => ⟨_, (by repeat (first | exact TakeL.nil | (apply TakeL.cons; · repeat (first | exact Take1.head | apply Take1.tail))))⟩) ?_ -- t32
            intro b32
            refine WD.view (fun w h => h.blkOwn (b := b32) (size := 1) (n := 0) (by repeat (first | exact Take1.head | apply Take1.tail)) (by unfold maxLen; omega) rfl) ?_
            refine WD.one 3 (by kernel_rfl) ?_
            refine WO.to rfl rfl .no (app0 (xs := x) rfl rfl rfl (by repeat (first | exact Take1.head | apply Take1.tail)) (by repeat (first | exact Take1.head | apply Take1.tail)) (by omega)) rfl (fun _ => ⟨_, (by repeat (first | exact TakeL.nil | (apply TakeL.cons; · repeat (first | exact Take1.head | apply Take1.tail))))⟩) ?_
            rintro ⟨⟨ao35, c35⟩, hc35⟩
            dsimp only at hc35 ⊢
            refine WD.one 7 (by kernel_rfl) ?_
            refine WO.to rfl rfl .no (app0 (xs := y) rfl rfl rfl (by repeat (first | exact Take1.head | apply Take1.tail)) (by repeat (first | exact Take1.head | apply Take1.tail)) (by omega)) rfl (fun _ => ⟨_, (by repeat (first | exact TakeL.nil | (apply TakeL.cons; · repeat (first | exact Take1.head | apply Take1.tail))))⟩) ?_
            rintro ⟨⟨ao39, c39⟩, hc39⟩
            dsimp only at hc39 ⊢
            refine WD.one 10 (by kernel_rfl) ?_
            refine WO.sto rfl rfl .no (sto0 (b := b6) rfl rfl rfl (by repeat (first | exact Take1.head | apply Take1.tail))) ⟨_, (by repeat (first | exact TakeL.nil | (apply TakeL.cons; · repeat (first | exact Take1.head | apply Take1.tail))))⟩ ?_
            refine WD.one 11 (by kernel_rfl) ?_
            refine WO.sto rfl rfl .no (sto0 (b := b7) rfl rfl rfl (by repeat (first | exact Take1.head | apply Take1.tail))) ⟨_, (by repeat (first | exact TakeL.nil | (apply TakeL.cons; · repeat (first | exact Take1.head | apply Take1.tail))))⟩ ?_
            refine ro0 (by repeat (first | exact Take1.head | apply Take1.tail)) (by repeat (first | exact Take1.head | apply Take1.tail)) ?_
            refine WD.done (by kernel_rfl) ?_
            exact ⟨rfl, (b6, b7, (ao35, c35), (ao39, c39)), trivial, (by repeat (first | exact Sub.nil | refine Sub.cons rfl ?_)), (by repeat (first | exact Sub.nil | refine Sub.cons rfl ?_)), _, (by repeat (first | exact TakeL.nil | (apply TakeL.cons; · repeat (first | exact Take1.head | apply Take1.tail))))⟩
        · refine WO.to rfl rfl .no (To.alloc (cs := [.slice none 0 0]) zr22 rfl) rfl (fun _ => ⟨_, (by repeat (first | exact TakeL.nil | (apply TakeL.cons; · repeat (first | exact Take1.head | apply Take1.tail))))⟩) ?_ -- t6
          intro b6
          refine WD.two 0 4 (by kernel_rfl) ?_ ?_
          · refine WO.to rfl rfl .no (To.buildSlice (vs := []) un22 zs5 rfl rfl (by simp [Value.cells]) (by decide) (by decide)) rfl (fun _ => ⟨_, (by repeat (first | exact TakeL.nil | (apply TakeL.cons; · repeat (first | exact Take1.head | apply Take1.tail))))⟩) ?_ -- t32
            intro b32
            refine WD.view (fun w h => h.blkOwn (b := b32) (size := 1) (n := 0) (by repeat (first | exact Take1.head | apply Take1.tail)) (by unfold maxLen; omega) rfl) ?_
            refine WD.two 3 4 (by kernel_rfl) ?_ ?_
            · refine WO.to rfl rfl .no (app0 (xs := x) rfl rfl rfl (by repeat (first | exact Take1.head | apply Take1.tail)) (by repeat (first | exact Take1.head | apply Take1.tail)) (by omega)) rfl (fun _ => ⟨_, (by repeat (first | exact TakeL.nil | (apply TakeL.cons; · repeat (first | exact Take1.head | apply Take1.tail))))⟩) ?_
              rintro ⟨⟨ao35, c35⟩, hc35⟩
              dsimp only at hc35 ⊢
              refine WD.one 4 (by kernel_rfl) ?_
              refine WO.to rfl rfl .no (To.buildSlice (vs := []) un22 zs5 rfl rfl (by simp [Value.cells]) (by decide) (by decide)) rfl (fun _ => ⟨_, (by repeat (first | exact TakeL.nil | (apply TakeL.cons; · repeat (first | exact Take1.head | apply Take1.tail))))⟩) ?_ -- t36
              intro b36
              refine WD.view (fun w h => h.blkOwn (b := b36) (size := 1) (n := 0) (by repeat (first | exact Take1.head | apply Take1.tail)) (by unfold maxLen; omega) rfl) ?_
              refine WD.one 7 (by kernel_rfl) ?_
              refine WO.to rfl rfl .no (app0 (xs := y) rfl rfl rfl (by repeat (first | exact Take1.head | apply Take1.tail)) (by repeat (first | exact Take1.head | apply Take1.tail)) (by omega)) rfl (fun _ => ⟨_, (by repeat (first | exact TakeL.nil | (apply TakeL.cons; · repeat (first | exact Take1.head | apply Take1.tail))))⟩) ?_
              rintro ⟨⟨ao39, c39⟩, hc39⟩
              dsimp only at hc39 ⊢
              refine WD.one 10 (by kernel_rfl) ?_
              refine WO.sto rfl rfl .no (sto0 (b := b6) rfl rfl rfl (by repeat (first | exact Take1.head | apply Take1.tail))) ⟨_, (by repeat (first | exact TakeL.nil | (apply TakeL.cons; · repeat (first | exact Take1.head | apply Take1.tail))))⟩ ?_
              refine WD.one 11 (by kernel_rfl) ?_
              refine WO.sto rfl rfl .no (sto0 (b := b7) rfl rfl rfl (by repeat (first | exact Take1.head | apply Take1.tail))) ⟨_, (by repeat (first | exact TakeL.nil | (apply TakeL.cons; · repeat (first | exact Take1.head | apply Take1.tail))))⟩ ?_
              refine ro0 (by repeat (first | exact Take1.head | apply Take1.tail)) (by repeat (first | exact Take1.head | apply Take1.tail)) ?_
              refine WD.done (by kernel_rfl) ?_
              exact ⟨rfl, (b6, b7, (ao35, c35), (ao39, c39)), trivial, (by repeat (first | exact Sub.nil | refine Sub.cons rfl ?_)), (by repeat (first | exact Sub.nil | refine Sub.cons rfl ?_)), _, (by repeat (first | exact TakeL.nil | (apply TakeL.cons; · repeat (first | exact Take1.head | apply Take1.tail))))⟩
            · refine WO.to rfl rfl .no (To.buildSlice (vs := []) un22 zs5 rfl rfl (by simp [Value.cells]) (by decide) (by decide)) rfl (fun _ => ⟨_, (by repeat (first | exact TakeL.nil | (apply TakeL.cons; · repeat (first | exact Take1.head | apply Take1.tail))))⟩) ?_ -- t36
              intro b36
              refine WD.view (fun w h => h.blkOwn (b := b36) (size := 1) (n := 0) (by repeat (first | exact Take1.head | apply Take1.tail)) (by unfold maxLen; omega) rfl) ?_
              refine WD.one 3 (by kernel_rfl) ?_
              refine WO.to rfl rfl .no (app0 (xs := x) rfl rfl rfl (by repeat (first | exact Take1.head | apply Take1.tail)) (by repeat (first | exact Take1.head | apply Take1.tail)) (by omega)) rfl (fun _ => ⟨_, (by repeat (first | exact TakeL.nil | (apply TakeL.cons; · repeat (first | exact Take1.head | apply Take1.tail))))⟩) ?_
              rintro ⟨⟨ao35, c35⟩, hc35⟩
              dsimp only at hc35 ⊢
              refine WD.one 7 (by kernel_rfl) ?_
              refine WO.to rfl rfl .no (app0 (xs := y) rfl rfl rfl (by repeat (first | exact Take1.head | apply Take1.tail)) (by repeat (first | exact Take1.head | apply Take1.tail)) (by omega)) rfl (fun _ => ⟨_, (by repeat (first | exact TakeL.nil | (apply TakeL.cons; · repeat (first | exact Take1.head | apply Take1.tail))))⟩) ?_
              rintro ⟨⟨ao39, c39⟩, hc39⟩
              dsimp only at hc39 ⊢
              refine WD.one 10 (by kernel_rfl) ?_
              refine WO.sto rfl rfl .no (sto0 (b := b6) rfl rfl rfl (by repeat (first | exact Take1.head | apply Take1.tail))) ⟨_, (by repeat (first | exact TakeL.nil | (apply TakeL.cons; · repeat (first | exact Take1.head | apply Take1.tail))))⟩ ?_
              refine WD.one 11 (by kernel_rfl) ?_
              refine WO.sto rfl rfl .no (sto0 (b := b7) rfl rfl rfl (by repeat (first | exact Take1.head | apply Take1.tail))) ⟨_, (by repeat (first | exact TakeL.nil | (apply TakeL.cons; · repeat (first | exact Take1.head | apply Take1.tail))))⟩ ?_
              refine ro0 (by repeat (first | exact Take1.head | apply Take1.tail)) (by repeat (first | exact Take1.head | apply Take1.tail)) ?_
              refine WD.done (by kernel_rfl) ?_
              exact ⟨rfl, (b6, b7, (ao35, c35), (ao39, c39)), trivial, (by repeat (first | exact Sub.nil | refine Sub.cons rfl ?_)), (by repeat (first | exact Sub.nil | refine Sub.cons rfl ?_)), _, (by repeat (first | exact TakeL.nil | (apply TakeL.cons; · repeat (first | exact Take1.head | apply Take1.tail))))⟩
          · refine WO.to rfl rfl .no (To.buildSlice (vs := []) un22 zs5 rfl rfl (by simp [Value.cells]) (by decide) (by decide)) rfl (fun _ => ⟨_, (by repeat (first | exact TakeL.nil | (apply TakeL.cons; · repeat (first | exact Take1.head | apply Take1.tail))))⟩) ?_ -- t36
            intro b36
            refine WD.view (fun w h => h.blkOwn (b := b36) (size := 1) (n := 0) (by repeat (first | exact Take1.head | apply Take1.tail)) (by unfold maxLen; omega) rfl) ?_
            refine WD.one 0 (by kernel_rfl) ?_
            refine WO.to rfl rfl .no (To.buildSlice (vs := []) un22 zs5 rfl rfl (by simp [Value.cells]) (by decide) (by decide)) rfl (fun _ => ⟨_, (by repeat (first | exact TakeL.nil | (apply TakeL.cons; · repeat (first | exact Take1.head | apply Take1.tail))))⟩) ?_ -- t32
            intro b32
            refine WD.view (fun w h => h.blkOwn (b := b32) (size := 1) (n := 0) (by repeat (first | exact Take1.head | apply Take1.tail)) (by unfold maxLen; omega) rfl) ?_
            refine WD.one 3 (by kernel_rfl) ?_
            refine WO.to rfl rfl .no (app0 (xs := x) rfl rfl rfl (by repeat (first | exact Take1.head | apply Take1.tail)) (by repeat (first | exact Take1.head | apply Take1.tail)) (by omega)) rfl (fun _ => ⟨_, (by repeat (first | exact TakeL.nil | (apply TakeL.cons; · repeat (first | exact Take1.head | apply Take1.tail))))⟩) ?_
            rintro ⟨⟨ao35, c35⟩, hc35⟩
            dsimp only at hc35 ⊢
            refine WD.one 7 (by kernel_rfl) ?_
            refine WO.to rfl rfl .no (app0 (xs := y) rfl rfl rfl (by repeat (first | exact Take1.head | apply Take1.tail)) (by repeat (first | exact Take1.head | apply Take1.tail)) (by omega)) rfl (fun _ => ⟨_, (by repeat (first | exact TakeL.nil | (apply TakeL.cons; · repeat (first | exact Take1.head | apply Take1.tail))))⟩) ?_
            rintro ⟨⟨ao39, c39⟩, hc39⟩
            dsimp only at hc39 ⊢
            refine WD.one 10 (by kernel_rfl) ?_
            refine WO.sto rfl rfl .no (sto0 (b := b6) rfl rfl rfl (by repeat (first | exact Take1.head | apply Take1.tail))) ⟨_, (by repeat (first | exact TakeL.nil | (apply TakeL.cons; · repeat (first | exact Take1.head | apply Take1.tail))))⟩ ?_
            refine WD.one 11 (by kernel_rfl) ?_
            refine WO.sto rfl rfl .no (sto0 (b := b7) rfl rfl rfl (by repeat (first | exact Take1.head | apply Take1.tail))) ⟨_, (by repeat (first | exact TakeL.nil | (apply TakeL.cons; · repeat (first | exact Take1.head | apply Take1.tail))))⟩ ?_
            refine ro0 (by repeat (first | exact Take1.head | apply Take1.tail)) (by repeat (first | exact Take1.head | apply Take1.tail)) ?_
            refine WD.done (by kernel_rfl) ?_
            exact ⟨rfl, (b6, b7, (ao35, c35), (ao39, c39)), trivial, (by repeat (first | exact Sub.nil | refine Sub.cons rfl ?_)), (by repeat (first | exact Sub.nil | refine Sub.cons rfl ?_)), _, (by repeat (first | exact TakeL.nil | (apply TakeL.cons; · repeat (first | exact Take1.head | apply Take1.tail))))⟩
    · rintro ⟨b6, b7, ⟨p2, q2⟩, ⟨p3, q3⟩⟩ _
      dsimp only [gR]
      refine WC.seq ?_
      refine WC.seq ?_
      refine WC.region ?_
      refine WL.y (Yl.move rfl) rfl ?_ -- t40
      refine WL.y (Yl.len un24 rfl) rfl ?_ -- t41
      refine WL.y (Yl.move rfl) rfl ?_ -- t42
      refine WL.nil ?_
      refine WC.block ?_
      refine WC.loop (α := Nat × List Int × List Int × (Nat × (Option Addr × Nat) × (Option Addr × Nat) × (Option Addr × Nat) × (Option Addr × Nat))) (fun p => [(1, .slice al fs.length cl), (5, .pointer (some ⟨p.2.2.2.1, 0, none⟩)), (6, .pointer (some ⟨b6, 0, none⟩)), (7, .pointer (some ⟨b7, 0, none⟩)), (40, .slice al fs.length cl), (41, .int .i64 (fs.length : Int)), (42, .int .i64 (p.1 : Int))]) (fun p => gR fs (.slice al fs.length cl) b6 b7 p.2.1 p.2.2.1 p.2.2.2) (fun p => p.1 ≤ fs.length ∧ Bytes p.2.1 ∧ Bytes p.2.2.1 ∧ p.2.1.length ≤ 5000 ∧ p.2.2.1.length ≤ 5000) (fun p => fs.length - p.1) (0, x, y, bd, (p0, q0), (p1, q1), (p2, q2), (p3, q3)) ⟨Nat.zero_le _, hX, hY, by dsimp only; omega, by dsimp only; omega⟩ ⟨(by repeat (first | exact Sub.nil | refine Sub.cons rfl ?_)), _, (by repeat (first | exact TakeL.nil | (apply TakeL.cons; · repeat (first | exact Take1.head | apply Take1.tail))))⟩ ?_
      clear hX hY hxl hyl
      rintro ⟨j, X, Y, bd, ⟨p0, q0⟩, ⟨p1, q1⟩, ⟨p2, q2⟩, ⟨p3, q3⟩⟩ ⟨hj, hX, hY, hXl, hYl⟩
      dsimp only [gR] at hj hX hY hXl hYl ⊢
      refine WC.seq ?_
      refine WC.region ?_
      refine WL.y (Yl.lss rfl rfl) rfl ?_ -- t43
      refine WL.nil ?_
      refine WC.seq ?_
      refine WC.condD rfl (fun g43 => ?_) (fun g43 => ?_)
      · refine WC.skip ?_
        refine WC.seq ?_
        refine WC.block ?_
        refine WC.seq ?_
        refine WC.region ?_
        have hjl : j < fs.length := by omega
        obtain ⟨f, hfj⟩ : ∃ f, fs[j]? = some f := ⟨_, List.getElem?_eq_getElem hjl⟩
        have hfm := List.mem_of_getElem? hfj
        have hfo := hok f hfm
        have hfb : f.b.length ≤ 4000 := by have := tot_mem hfj; omega
        refine WL.y (Yl.index un24 sz30 rfl rfl (Reads.of hD.rows (by repeat (first | exact Take1.head | apply Take1.tail))) rfl (by omega)) rfl ?_ -- t44
        refine WL.y (Yl.loadV (j := j) (u := f) dwV dwAll rfl (Reads.of hD.rows (by repeat (first | exact Take1.head | apply Take1.tail))) rfl hfj) rfl ?_
        refine WL.to (To.alloc (cs := [.int .u8 0, .slice none 0 0, .int .i64 0, .int .i64 0, .int .i64 0, .int .u8 0]) zr30 rfl) rfl ?_ -- t9
        intro b9
        refine WL.sto (Sto.agg sz30 rfl rfl (by repeat (first | exact Take1.head | apply Take1.tail)) (Dw.ones f) rfl (by rfl) (show _ = f.cells from rfl)) (fun _ h => nomatch h) ?_ -- st 3
        refine WL.nil ?_
        refine WC.midX (α := Nat × (Option Addr × Nat) × (Option Addr × Nat) × (Option Addr × Nat) × (Option Addr × Nat)) (fun z => [(5, .pointer (some ⟨z.1, 0, none⟩)), (1, .slice al fs.length cl), (6, .pointer (some ⟨b6, 0, none⟩)), (7, .pointer (some ⟨b7, 0, none⟩)), (40, .slice al fs.length cl), (41, .int .i64 (fs.length : Int)), (42, .int .i64 (j : Int))]) (fun z => gR fs (.slice al fs.length cl) b6 b7 (stX f X Y) (stY f X Y) z) (fun _ => True) ?_ ?_
        · refine WC.seq ?_
          refine WC.region ?_
          refine WL.y (Yl.field fo30_0 rfl) rfl ?_ -- t46
          refine WL.y (Yl.load on5 rfl (by repeat (first | exact Take1.head | apply Take1.tail)) (by rfl)) rfl ?_ -- t47
          refine WL.nil ?_
          refine WC.block ?_
          refine WC.seq ?_
          refine WC.region ?_
          refine WL.y (Yl.eql rfl rfl) rfl ?_ -- t52
          refine WL.y (Yl.assign rfl) rfl ?_ -- t51
          refine WL.nil ?_
          refine WC.condD rfl (fun g51 => ?_) (fun g51 => ?_)
          · refine WC.seq ?_
            refine WC.region ?_
            refine WL.y (Yl.move rfl) rfl ?_ -- t54
            refine WL.y (Yl.field fo30_1 rfl) rfl ?_ -- t55
            refine WL.y (Yl.load on22 rfl (by repeat (first | exact Take1.head | apply Take1.tail)) (by rfl)) rfl ?_ -- t56
            refine WL.y (Yl.field fo30_2 rfl) rfl ?_ -- t57
            refine WL.y (Yl.load on3 rfl (by repeat (first | exact Take1.head | apply Take1.tail)) (by rfl)) rfl ?_ -- t58
            refine WL.callC (xs := [.tmp 54, .tmp 56, .tmp 58]) (cap := []) rfl rfl en7 (by repeat (first | exact TakeL.nil | (apply TakeL.cons; · repeat (first | exact Take1.head | apply Take1.tail)))) (fun w hw => write_any bd (.slice p0 X.length q0) (.slice p1 Y.length q1) X Y f.b (.slice f.ba f.b.length f.bc) f.torn hX hY (by omega) (by omega) (by omega) w (hw.src (hD.b f hfm) (by repeat (first | exact Take1.head | apply Take1.tail))) hw.left.here) rfl ?_ -- t59 (*hailer/disk.Disk).Write
            rintro ⟨⟨w0, u0⟩, ⟨w1, u1⟩⟩ -
            dsimp only [dskR, List.cons_append, List.nil_append]
            refine WL.y (Yl.move rfl) rfl ?_ -- t53
            refine WL.y (Yl.extract rfl rfl) rfl ?_ -- t60
            refine WL.y (Yl.extract rfl rfl) rfl ?_ -- t61
            refine WL.y (Yl.assign rfl) rfl ?_ -- t10
            refine WL.y (Yl.assign rfl) rfl ?_ -- t11
            refine WL.nil ?_
            refine WC.seq ?_
            refine WC.region ?_
            refine WL.y (Yl.load on22 rfl (by repeat (first | exact Take1.head | apply Take1.tail)) (by rfl)) rfl ?_ -- t63
            refine WL.y (Yl.load on22 rfl (by repeat (first | exact Take1.head | apply Take1.tail)) (by rfl)) rfl ?_ -- t64
            refine WL.y (Yl.field fo30_1 rfl) rfl ?_ -- t65
            refine WL.y (Yl.load on22 rfl (by repeat (first | exact Take1.head | apply Take1.tail)) (by rfl)) rfl ?_ -- t66
            refine WL.y (Yl.field fo30_2 rfl) rfl ?_ -- t67
            refine WL.y (Yl.load on3 rfl (by repeat (first | exact Take1.head | apply Take1.tail)) (by rfl)) rfl ?_ -- t68
            refine WL.callC (xs := [.tmp 63, .tmp 64, .tmp 66, .tmp 68]) (cap := []) rfl rfl en8 (by repeat (first | exact TakeL.nil | (apply TakeL.cons; · repeat (first | exact Take1.head | apply Take1.tail)))) (fun w hw => rwrite_any X Y f.b (.slice p2 X.length q2) (.slice p3 Y.length q3) (.slice f.ba f.b.length f.bc) f.torn hX hY hfo.b (by omega) (by omega) (by omega) w (hw.src (hD.b f hfm) (by repeat (first | exact Take1.head | apply Take1.tail))) hw.left.here) rfl ?_ -- t69 hailer/hailerref34.Write
            rintro ⟨⟨w2, u2⟩, ⟨w3, u3⟩⟩ -
            dsimp only [pairR, List.cons_append, List.nil_append]
            refine WL.y (Yl.move rfl) rfl ?_ -- t62
            refine WL.y (Yl.extract rfl rfl) rfl ?_ -- t70
            refine WL.y (Yl.extract rfl rfl) rfl ?_ -- t71
            refine WL.y (Yl.extract rfl rfl) rfl ?_ -- t72
            refine WL.y (Yl.extract rfl rfl) rfl ?_ -- t73
            refine WL.y (Yl.assign rfl) rfl ?_ -- t12
            refine WL.y (Yl.assign rfl) rfl ?_ -- t13
            refine WL.y (Yl.assign rfl) rfl ?_ -- t14
            refine WL.y (Yl.assign rfl) rfl ?_ -- t15
            refine WL.nil ?_
            refine WC.seq ?_
            refine WC.region ?_
            refine WL.y (Yl.move rfl) rfl ?_ -- t74
            refine WL.y (Yl.move rfl) rfl ?_ -- t75
            refine WL.sto (Sto.one sz22 rfl rfl (by repeat (first | exact Take1.head | apply Take1.tail)) rfl (by rfl) (by rfl)) (fun _ h => nomatch h) ?_ -- st 4
            refine WL.sto (Sto.one sz22 rfl rfl (by repeat (first | exact Take1.head | apply Take1.tail)) rfl (by rfl) (by rfl)) (fun _ h => nomatch h) ?_ -- st 5
            refine WL.nil ?_
            refine WC.seq ?_
            refine WC.region ?_
            refine WL.y (Yl.move rfl) rfl ?_ -- t76
            refine WL.y (Yl.move rfl) rfl ?_ -- t77
            refine WL.y (Yl.neq rfl rfl) rfl ?_ -- t78
            refine WL.know (t := 78) (b' := false) rfl (by first | rfl | (simp; done) | (simp; omega)) ?_
            refine WL.y (Yl.move rfl) rfl ?_ -- t79
            refine WL.on rfl rfl ?_
            refine WL.y (Yl.move rfl) rfl ?_ -- t80
            refine WL.on rfl rfl ?_
            refine WL.y (Yl.move rfl) rfl ?_ -- t81
            refine WL.on rfl rfl ?_
            refine WL.y (Yl.neq rfl rfl) rfl ?_ -- t82
            refine WL.know (t := 82) (b' := false) rfl (by first | rfl | (simp; done) | (simp; omega)) ?_
            refine WL.y (Yl.pickF rfl rfl) rfl ?_ -- t83
            refine WL.nil ?_
            refine WC.condF rfl (by first | rfl | (simp; done) | (simp; omega)) ?_
            refine WC.skip ?_
            have e1 : stX f X Y = wrX X Y f.b f.torn := by unfold stX; rw [if_pos g51]
            have e2 : stY f X Y = wrY X Y f.b f.torn := by unfold stY; rw [if_pos g51]
            rw [e1, e2]
            exact ⟨rfl, (bd, (w0, u0), (w1, u1), (w2, u2), (w3, u3)), trivial, (by repeat (first | exact Sub.nil | refine Sub.cons rfl ?_)), _, (by repeat (first | exact TakeL.nil | (apply TakeL.cons; · repeat (first | exact Take1.head | apply Take1.tail))))⟩
          · refine WC.seq ?_
            refine WC.region ?_
            refine WL.y (Yl.eql rfl rfl) rfl ?_ -- t85
            refine WL.y (Yl.assign rfl) rfl ?_ -- t84
            refine WL.nil ?_
            refine WC.condD rfl (fun g84 => ?_) (fun g84 => ?_)
            · refine WC.seq ?_
              refine WC.region ?_
              refine WL.y (Yl.assign rfl) rfl ?_ -- t16
              refine WL.nil ?_
              refine WC.seq ?_
              refine WC.region ?_
              refine WL.y (Yl.assign rfl) rfl ?_ -- t17
              refine WL.nil ?_
              refine WC.seq ?_
              refine WC.seq ?_
              refine WC.region ?_
              refine WL.y (Yl.field fo30_3 rfl) rfl ?_ -- t86
              refine WL.y (Yl.load on3 rfl (by repeat (first | exact Take1.head | apply Take1.tail)) (by rfl)) rfl ?_ -- t87
              refine WL.y (Yl.eql rfl rfl) rfl ?_ -- t88
              refine WL.nil ?_
              refine WC.condD rfl (fun g88 => ?_) (fun g88 => ?_)
              · refine WC.region ?_
                refine WL.y (Yl.assign rfl) rfl ?_ -- t17
                refine WL.nil ?_
                refine WC.midX (α := (Option Addr × Nat) × (Option Addr × Nat)) (fun _ => [(16, .int .i64 (spE X Y f.slot f.at')), (5, .pointer (some ⟨bd, 0, none⟩)), (9, .pointer (some ⟨b9, 0, none⟩)), (1, .slice al fs.length cl), (6, .pointer (some ⟨b6, 0, none⟩)), (7, .pointer (some ⟨b7, 0, none⟩)), (40, .slice al fs.length cl), (41, .int .i64 (fs.length : Int)), (42, .int .i64 (j : Int))]) (fun z => [blkR bd 49 [.slice p0 X.length q0, .slice p1 Y.length q1], rdR (.slice p0 X.length q0) 1 X.length (ints .u8 X), rdR (.slice p1 Y.length q1) 1 Y.length (ints .u8 Y), blkR b6 22 [.slice z.1.1 (spX X Y f.slot f.at' f.wv).length z.1.2], blkR b7 22 [.slice z.2.1 (spY X Y f.slot f.at' f.wv).length z.2.2], rdR (.slice z.1.1 (spX X Y f.slot f.at' f.wv).length z.1.2) 1 (spX X Y f.slot f.at' f.wv).length (ints .u8 (spX X Y f.slot f.at' f.wv)), rdR (.slice z.2.1 (spY X Y f.slot f.at' f.wv).length z.2.2) 1 (spY X Y f.slot f.at' f.wv).length (ints .u8 (spY X Y f.slot f.at' f.wv)), blkR b9 30 f.cells, dwR (.slice al fs.length cl) fs]) (fun _ => True) ?_ ?_
                · refine WC.seq ?_
                  refine WC.drawAny (Hs := [blkR b9 30 f.cells, blkR b6 22 [.slice p2 X.length q2], blkR b7 22 [.slice p3 Y.length q3]]) mixed (by kernel_rfl) ⟨_, (by repeat (first | exact TakeL.nil | (apply TakeL.cons; · repeat (first | exact Take1.head | apply Take1.tail))))⟩ ?_
                  refine WD.take 0 rfl (by kernel_rfl) (by kernel_rfl) (by kernel_rfl) rfl rfl (Yl.field fo30_3 rfl) rfl ?_ -- t89
                  refine WD.take 1 rfl (by kernel_rfl) (by kernel_rfl) (by kernel_rfl) rfl rfl (Yl.load on3 rfl (by repeat (first | exact Take1.head | apply Take1.tail)) (by rfl)) rfl ?_ -- t90
                  refine WD.take 2 rfl (by kernel_rfl) (by kernel_rfl) (by kernel_rfl) rfl rfl (Yl.geq rfl rfl) rfl ?_ -- t91
                  refine WD.take 3 rfl (by kernel_rfl) (by kernel_rfl) (by kernel_rfl) rfl rfl (Yl.move rfl) rfl ?_ -- t92
                  refine WD.both (t := 92) rfl (fun g92 => ?_) (fun g92 => ?_)
                  · refine WD.takeOn 4 rfl (by kernel_rfl) (by kernel_rfl) (by kernel_rfl) rfl rfl rfl rfl (Yl.field fo30_3 rfl) rfl ?_ -- t93
                    refine WD.takeOn 5 rfl (by kernel_rfl) (by kernel_rfl) (by kernel_rfl) rfl rfl rfl rfl (Yl.load on3 rfl (by repeat (first | exact Take1.head | apply Take1.tail)) (by rfl)) rfl ?_ -- t94
                    refine WD.takeOn 6 rfl (by kernel_rfl) (by kernel_rfl) (by kernel_rfl) rfl rfl rfl rfl (Yl.leq rfl rfl) rfl ?_ -- t95
                    refine WD.take 7 rfl (by kernel_rfl) (by kernel_rfl) (by kernel_rfl) rfl rfl (Yl.pickT rfl rfl) rfl ?_ -- t96
                    refine WD.take 8 rfl (by kernel_rfl) (by kernel_rfl) (by kernel_rfl) rfl rfl (Yl.move rfl) rfl ?_ -- t97
                    refine WD.both (t := 97) rfl (fun g97 => ?_) (fun g97 => ?_)
                    · refine WD.takeOn 9 rfl (by kernel_rfl) (by kernel_rfl) (by kernel_rfl) rfl rfl rfl rfl (Yl.field fo30_4 rfl) rfl ?_ -- t98
                      refine WD.takeOn 10 rfl (by kernel_rfl) (by kernel_rfl) (by kernel_rfl) rfl rfl rfl rfl (Yl.load on3 rfl (by repeat (first | exact Take1.head | apply Take1.tail)) (by rfl)) rfl ?_ -- t99
                      refine WD.takeOn 11 rfl (by kernel_rfl) (by kernel_rfl) (by kernel_rfl) rfl rfl rfl rfl (Yl.geq rfl rfl) rfl ?_ -- t100
                      refine WD.take 12 rfl (by kernel_rfl) (by kernel_rfl) (by kernel_rfl) rfl rfl (Yl.pickT rfl rfl) rfl ?_ -- t101
                      refine WD.take 13 rfl (by kernel_rfl) (by kernel_rfl) (by kernel_rfl) rfl rfl (Yl.move rfl) rfl ?_ -- t102
                      refine WD.both (t := 102) rfl (fun g102 => ?_) (fun g102 => ?_)
                      · refine WD.takeOn 14 rfl (by kernel_rfl) (by kernel_rfl) (by kernel_rfl) rfl rfl rfl rfl (Yl.field fo30_4 rfl) rfl ?_ -- t103
                        refine WD.takeOn 15 rfl (by kernel_rfl) (by kernel_rfl) (by kernel_rfl) rfl rfl rfl rfl (Yl.load on3 rfl (by repeat (first | exact Take1.head | apply Take1.tail)) (by rfl)) rfl ?_ -- t104
                        refine WD.takeOn 16 rfl (by kernel_rfl) (by kernel_rfl) (by kernel_rfl) rfl rfl rfl rfl (Yl.move rfl) rfl ?_ -- t105
                        refine WD.takeOn 17 rfl (by kernel_rfl) (by kernel_rfl) (by kernel_rfl) rfl rfl rfl rfl (Yl.nilCheck rfl) rfl ?_ -- t106
                        refine WD.takeOn 18 rfl (by kernel_rfl) (by kernel_rfl) (by kernel_rfl) rfl rfl rfl rfl (Yl.load on22 rfl (by repeat (first | exact Take1.head | apply Take1.tail)) (by rfl)) rfl ?_ -- t107
                        refine WD.takeOn 19 rfl (by kernel_rfl) (by kernel_rfl) (by kernel_rfl) rfl rfl rfl rfl (Yl.len un22 rfl) rfl ?_ -- t108
                        refine WD.takeOn 20 rfl (by kernel_rfl) (by kernel_rfl) (by kernel_rfl) rfl rfl rfl rfl (Yl.lss rfl rfl) rfl ?_ -- t109
                        refine WD.take 21 rfl (by kernel_rfl) (by kernel_rfl) (by kernel_rfl) rfl rfl (Yl.pickT rfl rfl) rfl ?_ -- t110
                        refine WD.done (by kernel_rfl) ?_
                        refine WC.condD rfl (fun g110 => ?_) (fun g110 => ?_)
                        · refine WC.seq ?_
                          have s0 := of_decide_eq_true g92
                          have s1 := of_decide_eq_true g97
                          have s2 := of_decide_eq_true g102
                          have hgood : spOk X Y f.slot f.at' = true := spOk_iff.2 ⟨⟨s0, s1⟩, s2, by rw [if_pos g88]; exact g110⟩
                          obtain ⟨a, ha⟩ : ∃ a : Nat, f.at' = (a : Int) := ⟨f.at'.toNat, by omega⟩
                          have haz : a < Y.length := by omega
                          refine WC.region ?_
                          refine WL.y (Yl.assign rfl) rfl ?_ -- t16
                          refine WL.nil ?_
                          refine WC.seq ?_
                          refine WC.region ?_
                          refine WL.y (Yl.move rfl) rfl ?_ -- t111
                          refine WL.to (To.buildSlice (vs := []) un22 zs5 rfl rfl (by simp [Value.cells]) (by decide) (by decide)) rfl ?_ -- t112
                          intro b112
                          refine WL.view (fun w h => h.blkOwn (b := b112) (size := 1) (n := 0) (by repeat (first | exact Take1.head | apply Take1.tail)) (by unfold maxLen; omega) rfl) ?_
                          refine WL.y (Yl.move rfl) rfl ?_ -- t113
                          refine WL.y (Yl.nilCheck rfl) rfl ?_ -- t114
                          refine WL.y (Yl.load on22 rfl (by repeat (first | exact Take1.head | apply Take1.tail)) (by rfl)) rfl ?_ -- t115
                          refine WL.to (To.append (xs := []) (v := .slice (some ⟨b112, 0, none⟩) 0 0) (n := 0) sl22 rfl rfl (by repeat (first | exact Take1.head | apply Take1.tail)) (Reads.of (r := rdR (.slice p3 Y.length q3) 1 Y.length (ints .u8 Y)) RdOf.rd' (by repeat (first | exact Take1.head | apply Take1.tail))) (ints_one _ _) (N := Y.length) (Nat.zero_add _) (List.nil_append _) (by unfold maxLen; omega) (by omega)) rfl ?_
                          rintro ⟨⟨ao116, c116⟩, hc116⟩
                          dsimp only at hc116 ⊢
                          refine WL.y (Yl.nilCheck rfl) rfl ?_ -- t117
                          refine WL.sto (Sto.one sz22 rfl rfl (by repeat (first | exact Take1.head | apply Take1.tail)) rfl (by rfl) (by rfl)) (fun _ h => nomatch h) ?_ -- st 6
                          refine WL.nil ?_
                          refine WC.drawAny (Hs := [blkR b9 30 f.cells, blkR b7 22 [.slice ao116 Y.length c116]]) mixed (by kernel_rfl) ⟨_, (by repeat (first | exact TakeL.nil | (apply TakeL.cons; · repeat (first | exact Take1.head | apply Take1.tail))))⟩ ?_
                          refine WD.take 0 rfl (by kernel_rfl) (by kernel_rfl) (by kernel_rfl) rfl rfl (Yl.move rfl) rfl ?_ -- t118
                          refine WD.take 1 rfl (by kernel_rfl) (by kernel_rfl) (by kernel_rfl) rfl rfl (Yl.nilCheck rfl) rfl ?_ -- t119
                          refine WD.take 2 rfl (by kernel_rfl) (by kernel_rfl) (by kernel_rfl) rfl rfl (Yl.load on22 rfl (by repeat (first | exact Take1.head | apply Take1.tail)) (by rfl)) rfl ?_ -- t120
                          refine WD.take 3 rfl (by kernel_rfl) (by kernel_rfl) (by kernel_rfl) rfl rfl (Yl.field fo30_4 rfl) rfl ?_ -- t121
                          refine WD.take 4 rfl (by kernel_rfl) (by kernel_rfl) (by kernel_rfl) rfl rfl (Yl.load on3 rfl (by repeat (first | exact Take1.head | apply Take1.tail)) (by rfl)) rfl ?_ -- t122
                          refine WD.take 7 rfl (by kernel_rfl) (by kernel_rfl) (by kernel_rfl) rfl rfl (Yl.field fo30_5 rfl) rfl ?_ -- t125
                          refine WD.take 8 rfl (by kernel_rfl) (by kernel_rfl) (by kernel_rfl) rfl rfl (Yl.load on5 rfl (by repeat (first | exact Take1.head | apply Take1.tail)) (by rfl)) rfl ?_ -- t126
                          refine WD.one 5 (by kernel_rfl) ?_
                          refine WO.y rfl rfl .no (Yl.index un22 sz5 rfl rfl (Reads.of (r := ownR (.slice ao116 Y.length c116) 5 1 Y.length (ints .u8 Y)) RdOf.own (by repeat (first | exact Take1.head | apply Take1.tail))) ha (by omega)) rfl ?_ -- t123
                          refine WD.one 6 (by kernel_rfl) ?_
                          refine WO.y rfl rfl .no (Yl.loadE (u := .int .u8 (Y.getD a 0)) on5 rfl (Reads.of (r := ownR (.slice ao116 Y.length c116) 5 1 Y.length (ints .u8 Y)) RdOf.own (by repeat (first | exact Take1.head | apply Take1.tail))) (ints_get _ _ _ haz)) rfl ?_
                          refine WD.take 9 rfl (by kernel_rfl) (by kernel_rfl) (by kernel_rfl) rfl rfl (Yl.xor rfl rfl) rfl ?_ -- t127
                          refine WD.one 10 (by kernel_rfl) ?_
                          refine WO.y rfl rfl .no (Yl.index un22 sz5 rfl rfl (Reads.of (r := ownR (.slice ao116 Y.length c116) 5 1 Y.length (ints .u8 Y)) RdOf.own (by repeat (first | exact Take1.head | apply Take1.tail))) ha (by omega)) rfl ?_ -- t128
                          refine WD.one 11 (by kernel_rfl) ?_
                          refine WO.sto rfl rfl .no (Sto.elem (v := .slice ao116 Y.length c116) (j := a) (cs' := ints .u8 (spB Y f.at' f.wv)) sz5 rfl rfl (by repeat (first | exact Take1.head | apply Take1.tail)) rfl haz (by unfold spB; rw [ha, Int.toNat_natCast, ints_set])) ⟨_, (by repeat (first | exact TakeL.nil | (apply TakeL.cons; · repeat (first | exact Take1.head | apply Take1.tail))))⟩ ?_
                          refine WD.view (fun w h => OK.readOnly (v := .slice ao116 Y.length c116) h (by repeat (first | exact Take1.head | apply Take1.tail))) ?_
                          refine WD.done (by kernel_rfl) ?_
                          have e1 : spX X Y f.slot f.at' f.wv = X := by unfold spX; rw [if_neg (by omega)]
                          have e2 : spY X Y f.slot f.at' f.wv = spB Y f.at' f.wv := by unfold spY; rw [if_pos ⟨hgood, g88⟩]
                          have e3 : spE X Y f.slot f.at' = 0 := by unfold spE; rw [hgood]; rfl
                          have el : (spB Y f.at' f.wv).length = Y.length := by simp [spB]
                          rw [e1, e2, e3, el]
                          exact ⟨rfl, ((p2, q2), (ao116, c116)), trivial, (by repeat (first | exact Sub.nil | refine Sub.cons rfl ?_)), _, (by repeat (first | exact TakeL.nil | (apply TakeL.cons; · repeat (first | exact Take1.head | apply Take1.tail))))⟩
                        · refine WC.skip ?_
                          have hb : spOk X Y f.slot f.at' = false := spOk_not (fun h => by rw [if_pos g88] at h; omega)
                          obtain ⟨e1, e2, e3⟩ := sp_no (wv := f.wv) hb
                          rw [e1, e2, e3]
                          exact ⟨rfl, ((p2, q2), (p3, q3)), trivial, (by repeat (first | exact Sub.nil | refine Sub.cons rfl ?_)), _, (by repeat (first | exact TakeL.nil | (apply TakeL.cons; · repeat (first | exact Take1.head | apply Take1.tail))))⟩
                      · refine WD.takeOff 14 rfl (by kernel_rfl) (by kernel_rfl) (by kernel_rfl) rfl rfl rfl rfl rfl rfl ?_ -- t103
                        refine WD.takeOff 15 rfl (by kernel_rfl) (by kernel_rfl) (by kernel_rfl) rfl rfl rfl rfl rfl rfl ?_ -- t104
                        refine WD.takeOff 16 rfl (by kernel_rfl) (by kernel_rfl) (by kernel_rfl) rfl rfl rfl rfl rfl rfl ?_ -- t105
                        refine WD.takeOff 17 rfl (by kernel_rfl) (by kernel_rfl) (by kernel_rfl) rfl rfl rfl rfl rfl rfl ?_ -- t106
                        refine WD.takeOff 18 rfl (by kernel_rfl) (by kernel_rfl) (by kernel_rfl) rfl rfl rfl rfl rfl rfl ?_ -- t107
                        refine WD.takeOff 19 rfl (by kernel_rfl) (by kernel_rfl) (by kernel_rfl) rfl rfl rfl rfl rfl rfl ?_ -- t108
                        refine WD.takeOff 20 rfl (by kernel_rfl) (by kernel_rfl) (by kernel_rfl) rfl rfl rfl rfl rfl rfl ?_ -- t109
                        refine WD.take 21 rfl (by kernel_rfl) (by kernel_rfl) (by kernel_rfl) rfl rfl (Yl.pickF rfl rfl) rfl ?_ -- t110
                        refine WD.done (by kernel_rfl) ?_
                        refine WC.condF rfl (by first | rfl | (simp; done) | (simp; omega)) ?_
                        refine WC.skip ?_
                        have hb : spOk X Y f.slot f.at' = false := spOk_not (fun h => by have := of_decide_eq_false g102; omega)
                        obtain ⟨e1, e2, e3⟩ := sp_no (wv := f.wv) hb
                        rw [e1, e2, e3]
                        exact ⟨rfl, ((p2, q2), (p3, q3)), trivial, (by repeat (first | exact Sub.nil | refine Sub.cons rfl ?_)), _, (by repeat (first | exact TakeL.nil | (apply TakeL.cons; · repeat (first | exact Take1.head | apply Take1.tail))))⟩
                    · refine WD.takeOff 9 rfl (by kernel_rfl) (by kernel_rfl) (by kernel_rfl) rfl rfl rfl rfl rfl rfl ?_ -- t98
                      refine WD.takeOff 10 rfl (by kernel_rfl) (by kernel_rfl) (by kernel_rfl) rfl rfl rfl rfl rfl rfl ?_ -- t99
                      refine WD.takeOff 11 rfl (by kernel_rfl) (by kernel_rfl) (by kernel_rfl) rfl rfl rfl rfl rfl rfl ?_ -- t100
                      refine WD.take 12 rfl (by kernel_rfl) (by kernel_rfl) (by kernel_rfl) rfl rfl (Yl.pickF rfl rfl) rfl ?_ -- t101
                      refine WD.take 13 rfl (by kernel_rfl) (by kernel_rfl) (by kernel_rfl) rfl rfl (Yl.move rfl) rfl ?_ -- t102
                      refine WD.takeOff 14 rfl (by kernel_rfl) (by kernel_rfl) (by kernel_rfl) rfl rfl rfl rfl rfl rfl ?_ -- t103
                      refine WD.takeOff 15 rfl (by kernel_rfl) (by kernel_rfl) (by kernel_rfl) rfl rfl rfl rfl rfl rfl ?_ -- t104
                      refine WD.takeOff 16 rfl (by kernel_rfl) (by kernel_rfl) (by kernel_rfl) rfl rfl rfl rfl rfl rfl ?_ -- t105
                      refine WD.takeOff 17 rfl (by kernel_rfl) (by kernel_rfl) (by kernel_rfl) rfl rfl rfl rfl rfl rfl ?_ -- t106
                      refine WD.takeOff 18 rfl (by kernel_rfl) (by kernel_rfl) (by kernel_rfl) rfl rfl rfl rfl rfl rfl ?_ -- t107
                      refine WD.takeOff 19 rfl (by kernel_rfl) (by kernel_rfl) (by kernel_rfl) rfl rfl rfl rfl rfl rfl ?_ -- t108
                      refine WD.takeOff 20 rfl (by kernel_rfl) (by kernel_rfl) (by kernel_rfl) rfl rfl rfl rfl rfl rfl ?_ -- t109
                      refine WD.take 21 rfl (by kernel_rfl) (by kernel_rfl) (by kernel_rfl) rfl rfl (Yl.pickF rfl rfl) rfl ?_ -- t110
                      refine WD.done (by kernel_rfl) ?_
                      refine WC.condF rfl (by first | rfl | (simp; done) | (simp; omega)) ?_
                      refine WC.skip ?_
                      have hb : spOk X Y f.slot f.at' = false := spOk_not (fun h => by have := of_decide_eq_false g97; omega)
                      obtain ⟨e1, e2, e3⟩ := sp_no (wv := f.wv) hb
                      rw [e1, e2, e3]
                      exact ⟨rfl, ((p2, q2), (p3, q3)), trivial, (by repeat (first | exact Sub.nil | refine Sub.cons rfl ?_)), _, (by repeat (first | exact TakeL.nil | (apply TakeL.cons; · repeat (first | exact Take1.head | apply Take1.tail))))⟩
                  · refine WD.takeOff 4 rfl (by kernel_rfl) (by kernel_rfl) (by kernel_rfl) rfl rfl rfl rfl rfl rfl ?_ -- t93
                    refine WD.takeOff 5 rfl (by kernel_rfl) (by kernel_rfl) (by kernel_rfl) rfl rfl rfl rfl rfl rfl ?_ -- t94
                    refine WD.takeOff 6 rfl (by kernel_rfl) (by kernel_rfl) (by kernel_rfl) rfl rfl rfl rfl rfl rfl ?_ -- t95
                    refine WD.take 7 rfl (by kernel_rfl) (by kernel_rfl) (by kernel_rfl) rfl rfl (Yl.pickF rfl rfl) rfl ?_ -- t96
                    refine WD.take 8 rfl (by kernel_rfl) (by kernel_rfl) (by kernel_rfl) rfl rfl (Yl.move rfl) rfl ?_ -- t97
                    refine WD.takeOff 9 rfl (by kernel_rfl) (by kernel_rfl) (by kernel_rfl) rfl rfl rfl rfl rfl rfl ?_ -- t98
                    refine WD.takeOff 10 rfl (by kernel_rfl) (by kernel_rfl) (by kernel_rfl) rfl rfl rfl rfl rfl rfl ?_ -- t99
                    refine WD.takeOff 11 rfl (by kernel_rfl) (by kernel_rfl) (by kernel_rfl) rfl rfl rfl rfl rfl rfl ?_ -- t100
                    refine WD.take 12 rfl (by kernel_rfl) (by kernel_rfl) (by kernel_rfl) rfl rfl (Yl.pickF rfl rfl) rfl ?_ -- t101
                    refine WD.take 13 rfl (by kernel_rfl) (by kernel_rfl) (by kernel_rfl) rfl rfl (Yl.move rfl) rfl ?_ -- t102
                    refine WD.takeOff 14 rfl (by kernel_rfl) (by kernel_rfl) (by kernel_rfl) rfl rfl rfl rfl rfl rfl ?_ -- t103
                    refine WD.takeOff 15 rfl (by kernel_rfl) (by kernel_rfl) (by kernel_rfl) rfl rfl rfl rfl rfl rfl ?_ -- t104
                    refine WD.takeOff 16 rfl (by kernel_rfl) (by kernel_rfl) (by kernel_rfl) rfl rfl rfl rfl rfl rfl ?_ -- t105
                    refine WD.takeOff 17 rfl (by kernel_rfl) (by kernel_rfl) (by kernel_rfl) rfl rfl rfl rfl rfl rfl ?_ -- t106
                    refine WD.takeOff 18 rfl (by kernel_rfl) (by kernel_rfl) (by kernel_rfl) rfl rfl rfl rfl rfl rfl ?_ -- t107
                    refine WD.takeOff 19 rfl (by kernel_rfl) (by kernel_rfl) (by kernel_rfl) rfl rfl rfl rfl rfl rfl ?_ -- t108
                    refine WD.takeOff 20 rfl (by kernel_rfl) (by kernel_rfl) (by kernel_rfl) rfl rfl rfl rfl rfl rfl ?_ -- t109
                    refine WD.take 21 rfl (by kernel_rfl) (by kernel_rfl) (by kernel_rfl) rfl rfl (Yl.pickF rfl rfl) rfl ?_ -- t110
                    refine WD.done (by kernel_rfl) ?_
                    refine WC.condF rfl (by first | rfl | (simp; done) | (simp; omega)) ?_
                    refine WC.skip ?_
                    have hb : spOk X Y f.slot f.at' = false := spOk_not (fun h => by have := of_decide_eq_false g92; omega)
                    obtain ⟨e1, e2, e3⟩ := sp_no (wv := f.wv) hb
                    rw [e1, e2, e3]
                    exact ⟨rfl, ((p2, q2), (p3, q3)), trivial, (by repeat (first | exact Sub.nil | refine Sub.cons rfl ?_)), _, (by repeat (first | exact TakeL.nil | (apply TakeL.cons; · repeat (first | exact Take1.head | apply Take1.tail))))⟩
                · rintro ⟨⟨w2, u2⟩, ⟨w3, u3⟩⟩ _
                  dsimp only
                  refine WC.seq ?_
                  refine WC.region ?_
                  refine WL.y (Yl.move rfl) rfl ?_ -- t129
                  refine WL.y (Yl.field fo30_3 rfl) rfl ?_ -- t130
                  refine WL.y (Yl.load on3 rfl (by repeat (first | exact Take1.head | apply Take1.tail)) (by rfl)) rfl ?_ -- t131
                  refine WL.y (Yl.field fo30_4 rfl) rfl ?_ -- t132
                  refine WL.y (Yl.load on3 rfl (by repeat (first | exact Take1.head | apply Take1.tail)) (by rfl)) rfl ?_ -- t133
                  refine WL.y (Yl.field fo30_5 rfl) rfl ?_ -- t134
                  refine WL.y (Yl.load on5 rfl (by repeat (first | exact Take1.head | apply Take1.tail)) (by rfl)) rfl ?_ -- t135
                  refine WL.callC (xs := [.tmp 129, .tmp 131, .tmp 133, .tmp 135]) (cap := []) rfl rfl en9 (by repeat (first | exact TakeL.nil | (apply TakeL.cons; · repeat (first | exact Take1.head | apply Take1.tail)))) (fun w hw => spoil_any bd (.slice p0 X.length q0) (.slice p1 Y.length q1) X Y f.slot f.at' f.wv (by omega) (by omega) w hw.left.here) rfl ?_ -- t136 (*hailer/disk.Disk).Spoil
                  rintro ⟨⟨w0, u0⟩, ⟨w1, u1⟩⟩ -
                  dsimp only [dskR, List.cons_append, List.nil_append]
                  refine WL.y (Yl.move rfl) rfl ?_ -- t137
                  refine WL.y (Yl.neq rfl rfl) rfl ?_ -- t138
                  refine WL.know (t := 138) (b' := false) rfl (by first | rfl | (simp; done) | (simp; omega)) ?_
                  refine WL.nil ?_
                  refine WC.condF rfl (by first | rfl | (simp; done) | (simp; omega)) ?_
                  refine WC.skip ?_
                  have e1 : stX f X Y = spX X Y f.slot f.at' f.wv := by unfold stX; rw [if_neg g51, if_pos g84]
                  have e2 : stY f X Y = spY X Y f.slot f.at' f.wv := by unfold stY; rw [if_neg g51, if_pos g84]
                  rw [e1, e2]
                  exact ⟨rfl, (bd, (w0, u0), (w1, u1), (w2, u2), (w3, u3)), trivial, (by repeat (first | exact Sub.nil | refine Sub.cons rfl ?_)), _, (by repeat (first | exact TakeL.nil | (apply TakeL.cons; · repeat (first | exact Take1.head | apply Take1.tail))))⟩
              · refine WC.skip ?_
                refine WC.midX (α := (Option Addr × Nat) × (Option Addr × Nat)) (fun _ => [(16, .int .i64 (spE X Y f.slot f.at')), (5, .pointer (some ⟨bd, 0, none⟩)), (9, .pointer (some ⟨b9, 0, none⟩)), (1, .slice al fs.length cl), (6, .pointer (some ⟨b6, 0, none⟩)), (7, .pointer (some ⟨b7, 0, none⟩)), (40, .slice al fs.length cl), (41, .int .i64 (fs.length : Int)), (42, .int .i64 (j : Int))]) (fun z => [blkR bd 49 [.slice p0 X.length q0, .slice p1 Y.length q1], rdR (.slice p0 X.length q0) 1 X.length (ints .u8 X), rdR (.slice p1 Y.length q1) 1 Y.length (ints .u8 Y), blkR b6 22 [.slice z.1.1 (spX X Y f.slot f.at' f.wv).length z.1.2], blkR b7 22 [.slice z.2.1 (spY X Y f.slot f.at' f.wv).length z.2.2], rdR (.slice z.1.1 (spX X Y f.slot f.at' f.wv).length z.1.2) 1 (spX X Y f.slot f.at' f.wv).length (ints .u8 (spX X Y f.slot f.at' f.wv)), rdR (.slice z.2.1 (spY X Y f.slot f.at' f.wv).length z.2.2) 1 (spY X Y f.slot f.at' f.wv).length (ints .u8 (spY X Y f.slot f.at' f.wv)), blkR b9 30 f.cells, dwR (.slice al fs.length cl) fs]) (fun _ => True) ?_ ?_
                · refine WC.seq ?_
                  refine WC.drawAny (Hs := [blkR b9 30 f.cells, blkR b6 22 [.slice p2 X.length q2], blkR b7 22 [.slice p3 Y.length q3]]) mixed (by kernel_rfl) ⟨_, (by repeat (first | exact TakeL.nil | (apply TakeL.cons; · repeat (first | exact Take1.head | apply Take1.tail))))⟩ ?_
                  refine WD.take 0 rfl (by kernel_rfl) (by kernel_rfl) (by kernel_rfl) rfl rfl (Yl.field fo30_3 rfl) rfl ?_ -- t89
                  refine WD.take 1 rfl (by kernel_rfl) (by kernel_rfl) (by kernel_rfl) rfl rfl (Yl.load on3 rfl (by repeat (first | exact Take1.head | apply Take1.tail)) (by rfl)) rfl ?_ -- t90
                  refine WD.take 2 rfl (by kernel_rfl) (by kernel_rfl) (by kernel_rfl) rfl rfl (Yl.geq rfl rfl) rfl ?_ -- t91
                  refine WD.take 3 rfl (by kernel_rfl) (by kernel_rfl) (by kernel_rfl) rfl rfl (Yl.move rfl) rfl ?_ -- t92
                  refine WD.both (t := 92) rfl (fun g92 => ?_) (fun g92 => ?_)
                  · refine WD.takeOn 4 rfl (by kernel_rfl) (by kernel_rfl) (by kernel_rfl) rfl rfl rfl rfl (Yl.field fo30_3 rfl) rfl ?_ -- t93
                    refine WD.takeOn 5 rfl (by kernel_rfl) (by kernel_rfl) (by kernel_rfl) rfl rfl rfl rfl (Yl.load on3 rfl (by repeat (first | exact Take1.head | apply Take1.tail)) (by rfl)) rfl ?_ -- t94
                    refine WD.takeOn 6 rfl (by kernel_rfl) (by kernel_rfl) (by kernel_rfl) rfl rfl rfl rfl (Yl.leq rfl rfl) rfl ?_ -- t95
                    refine WD.take 7 rfl (by kernel_rfl) (by kernel_rfl) (by kernel_rfl) rfl rfl (Yl.pickT rfl rfl) rfl ?_ -- t96
                    refine WD.take 8 rfl (by kernel_rfl) (by kernel_rfl) (by kernel_rfl) rfl rfl (Yl.move rfl) rfl ?_ -- t97
                    refine WD.both (t := 97) rfl (fun g97 => ?_) (fun g97 => ?_)
                    · refine WD.takeOn 9 rfl (by kernel_rfl) (by kernel_rfl) (by kernel_rfl) rfl rfl rfl rfl (Yl.field fo30_4 rfl) rfl ?_ -- t98
                      refine WD.takeOn 10 rfl (by kernel_rfl) (by kernel_rfl) (by kernel_rfl) rfl rfl rfl rfl (Yl.load on3 rfl (by repeat (first | exact Take1.head | apply Take1.tail)) (by rfl)) rfl ?_ -- t99
                      refine WD.takeOn 11 rfl (by kernel_rfl) (by kernel_rfl) (by kernel_rfl) rfl rfl rfl rfl (Yl.geq rfl rfl) rfl ?_ -- t100
                      refine WD.take 12 rfl (by kernel_rfl) (by kernel_rfl) (by kernel_rfl) rfl rfl (Yl.pickT rfl rfl) rfl ?_ -- t101
                      refine WD.take 13 rfl (by kernel_rfl) (by kernel_rfl) (by kernel_rfl) rfl rfl (Yl.move rfl) rfl ?_ -- t102
                      refine WD.both (t := 102) rfl (fun g102 => ?_) (fun g102 => ?_)
                      · refine WD.takeOn 14 rfl (by kernel_rfl) (by kernel_rfl) (by kernel_rfl) rfl rfl rfl rfl (Yl.field fo30_4 rfl) rfl ?_ -- t103
                        refine WD.takeOn 15 rfl (by kernel_rfl) (by kernel_rfl) (by kernel_rfl) rfl rfl rfl rfl (Yl.load on3 rfl (by repeat (first | exact Take1.head | apply Take1.tail)) (by rfl)) rfl ?_ -- t104
                        refine WD.takeOn 16 rfl (by kernel_rfl) (by kernel_rfl) (by kernel_rfl) rfl rfl rfl rfl (Yl.move rfl) rfl ?_ -- t105
                        refine WD.takeOn 17 rfl (by kernel_rfl) (by kernel_rfl) (by kernel_rfl) rfl rfl rfl rfl (Yl.nilCheck rfl) rfl ?_ -- t106
                        refine WD.takeOn 18 rfl (by kernel_rfl) (by kernel_rfl) (by kernel_rfl) rfl rfl rfl rfl (Yl.load on22 rfl (by repeat (first | exact Take1.head | apply Take1.tail)) (by rfl)) rfl ?_ -- t107
                        refine WD.takeOn 19 rfl (by kernel_rfl) (by kernel_rfl) (by kernel_rfl) rfl rfl rfl rfl (Yl.len un22 rfl) rfl ?_ -- t108
                        refine WD.takeOn 20 rfl (by kernel_rfl) (by kernel_rfl) (by kernel_rfl) rfl rfl rfl rfl (Yl.lss rfl rfl) rfl ?_ -- t109
                        refine WD.take 21 rfl (by kernel_rfl) (by kernel_rfl) (by kernel_rfl) rfl rfl (Yl.pickT rfl rfl) rfl ?_ -- t110
                        refine WD.done (by kernel_rfl) ?_
                        refine WC.condD rfl (fun g110 => ?_) (fun g110 => ?_)
                        · refine WC.seq ?_
                          have s0 := of_decide_eq_true g92
                          have s1 := of_decide_eq_true g97
                          have s2 := of_decide_eq_true g102
                          have hgood : spOk X Y f.slot f.at' = true := spOk_iff.2 ⟨⟨s0, s1⟩, s2, by rw [if_neg g88]; exact g110⟩
                          obtain ⟨a, ha⟩ : ∃ a : Nat, f.at' = (a : Int) := ⟨f.at'.toNat, by omega⟩
                          have haz : a < X.length := by omega
                          refine WC.region ?_
                          refine WL.y (Yl.assign rfl) rfl ?_ -- t16
                          refine WL.nil ?_
                          refine WC.seq ?_
                          refine WC.region ?_
                          refine WL.y (Yl.move rfl) rfl ?_ -- t111
                          refine WL.to (To.buildSlice (vs := []) un22 zs5 rfl rfl (by simp [Value.cells]) (by decide) (by decide)) rfl ?_ -- t112
                          intro b112
                          refine WL.view (fun w h => h.blkOwn (b := b112) (size := 1) (n := 0) (by repeat (first | exact Take1.head | apply Take1.tail)) (by unfold maxLen; omega) rfl) ?_
                          refine WL.y (Yl.move rfl) rfl ?_ -- t113
                          refine WL.y (Yl.nilCheck rfl) rfl ?_ -- t114
                          refine WL.y (Yl.load on22 rfl (by repeat (first | exact Take1.head | apply Take1.tail)) (by rfl)) rfl ?_ -- t115
                          refine WL.to (To.append (xs := []) (v := .slice (some ⟨b112, 0, none⟩) 0 0) (n := 0) sl22 rfl rfl (by repeat (first | exact Take1.head | apply Take1.tail)) (Reads.of (r := rdR (.slice p2 X.length q2) 1 X.length (ints .u8 X)) RdOf.rd' (by repeat (first | exact Take1.head | apply Take1.tail))) (ints_one _ _) (N := X.length) (Nat.zero_add _) (List.nil_append _) (by unfold maxLen; omega) (by omega)) rfl ?_
                          rintro ⟨⟨ao116, c116⟩, hc116⟩
                          dsimp only at hc116 ⊢
                          refine WL.y (Yl.nilCheck rfl) rfl ?_ -- t117
                          refine WL.sto (Sto.one sz22 rfl rfl (by repeat (first | exact Take1.head | apply Take1.tail)) rfl (by rfl) (by rfl)) (fun _ h => nomatch h) ?_ -- st 6
                          refine WL.nil ?_
                          refine WC.drawAny (Hs := [blkR b9 30 f.cells, blkR b6 22 [.slice ao116 X.length c116]]) mixed (by kernel_rfl) ⟨_, (by repeat (first | exact TakeL.nil | (apply TakeL.cons; · repeat (first | exact Take1.head | apply Take1.tail))))⟩ ?_
                          refine WD.take 0 rfl (by kernel_rfl) (by kernel_rfl) (by kernel_rfl) rfl rfl (Yl.move rfl) rfl ?_ -- t118
                          refine WD.take 1 rfl (by kernel_rfl) (by kernel_rfl) (by kernel_rfl) rfl rfl (Yl.nilCheck rfl) rfl ?_ -- t119
                          refine WD.take 2 rfl (by kernel_rfl) (by kernel_rfl) (by kernel_rfl) rfl rfl (Yl.load on22 rfl (by repeat (first | exact Take1.head | apply Take1.tail)) (by rfl)) rfl ?_ -- t120
                          refine WD.take 3 rfl (by kernel_rfl) (by kernel_rfl) (by kernel_rfl) rfl rfl (Yl.field fo30_4 rfl) rfl ?_ -- t121
                          refine WD.take 4 rfl (by kernel_rfl) (by kernel_rfl) (by kernel_rfl) rfl rfl (Yl.load on3 rfl (by repeat (first | exact Take1.head | apply Take1.tail)) (by rfl)) rfl ?_ -- t122
                          refine WD.take 7 rfl (by kernel_rfl) (by kernel_rfl) (by kernel_rfl) rfl rfl (Yl.field fo30_5 rfl) rfl ?_ -- t125
                          refine WD.take 8 rfl (by kernel_rfl) (by kernel_rfl) (by kernel_rfl) rfl rfl (Yl.load on5 rfl (by repeat (first | exact Take1.head | apply Take1.tail)) (by rfl)) rfl ?_ -- t126
                          refine WD.one 5 (by kernel_rfl) ?_
                          refine WO.y rfl rfl .no (Yl.index un22 sz5 rfl rfl (Reads.of (r := ownR (.slice ao116 X.length c116) 5 1 X.length (ints .u8 X)) RdOf.own (by repeat (first | exact Take1.head | apply Take1.tail))) ha (by omega)) rfl ?_ -- t123
                          refine WD.one 6 (by kernel_rfl) ?_
                          refine WO.y rfl rfl .no (Yl.loadE (u := .int .u8 (X.getD a 0)) on5 rfl (Reads.of (r := ownR (.slice ao116 X.length c116) 5 1 X.length (ints .u8 X)) RdOf.own (by repeat (first | exact Take1.head | apply Take1.tail))) (ints_get _ _ _ haz)) rfl ?_
                          refine WD.take 9 rfl (by kernel_rfl) (by kernel_rfl) (by kernel_rfl) rfl rfl (Yl.xor rfl rfl) rfl ?_ -- t127
                          refine WD.one 10 (by kernel_rfl) ?_
                          refine WO.y rfl rfl .no (Yl.index un22 sz5 rfl rfl (Reads.of (r := ownR (.slice ao116 X.length c116) 5 1 X.length (ints .u8 X)) RdOf.own (by repeat (first | exact Take1.head | apply Take1.tail))) ha (by omega)) rfl ?_ -- t128
                          refine WD.one 11 (by kernel_rfl) ?_
                          refine WO.sto rfl rfl .no (Sto.elem (v := .slice ao116 X.length c116) (j := a) (cs' := ints .u8 (spB X f.at' f.wv)) sz5 rfl rfl (by repeat (first | exact Take1.head | apply Take1.tail)) rfl haz (by unfold spB; rw [ha, Int.toNat_natCast, ints_set])) ⟨_, (by repeat (first | exact TakeL.nil | (apply TakeL.cons; · repeat (first | exact Take1.head | apply Take1.tail))))⟩ ?_
                          refine WD.view (fun w h => OK.readOnly (v := .slice ao116 X.length c116) h (by repeat (first | exact Take1.head | apply Take1.tail))) ?_
                          refine WD.done (by kernel_rfl) ?_
                          have e1 : spX X Y f.slot f.at' f.wv = spB X f.at' f.wv := by unfold spX; rw [if_pos ⟨hgood, by omega⟩]
                          have e2 : spY X Y f.slot f.at' f.wv = Y := by unfold spY; rw [if_neg (by omega)]
                          have e3 : spE X Y f.slot f.at' = 0 := by unfold spE; rw [hgood]; rfl
                          have el : (spB X f.at' f.wv).length = X.length := by simp [spB]
                          rw [e1, e2, e3, el]
                          exact ⟨rfl, ((ao116, c116), (p3, q3)), trivial, (by repeat (first | exact Sub.nil | refine Sub.cons rfl ?_)), _, (by repeat (first | exact TakeL.nil | (apply TakeL.cons; · repeat (first | exact Take1.head | apply Take1.tail))))⟩
                        · refine WC.skip ?_
                          have hb : spOk X Y f.slot f.at' = false := spOk_not (fun h => by rw [if_neg g88] at h; omega)
                          obtain ⟨e1, e2, e3⟩ := sp_no (wv := f.wv) hb
                          rw [e1, e2, e3]
                          exact ⟨rfl, ((p2, q2), (p3, q3)), trivial, (by repeat (first | exact Sub.nil | refine Sub.cons rfl ?_)), _, (by repeat (first | exact TakeL.nil | (apply TakeL.cons; · repeat (first | exact Take1.head | apply Take1.tail))))⟩
                      · refine WD.takeOff 14 rfl (by kernel_rfl) (by kernel_rfl) (by kernel_rfl) rfl rfl rfl rfl rfl rfl ?_ -- t103
                        refine WD.takeOff 15 rfl (by kernel_rfl) (by kernel_rfl) (by kernel_rfl) rfl rfl rfl rfl rfl rfl ?_ -- t104
                        refine WD.takeOff 16 rfl (by kernel_rfl) (by kernel_rfl) (by kernel_rfl) rfl rfl rfl rfl rfl rfl ?_ -- t105
                        refine WD.takeOff 17 rfl (by kernel_rfl) (by kernel_rfl) (by kernel_rfl) rfl rfl rfl rfl rfl rfl ?_ -- t106
                        refine WD.takeOff 18 rfl (by kernel_rfl) (by kernel_rfl) (by kernel_rfl) rfl rfl rfl rfl rfl rfl ?_ -- t107
                        refine WD.takeOff 19 rfl (by kernel_rfl) (by kernel_rfl) (by kernel_rfl) rfl rfl rfl rfl rfl rfl ?_ -- t108
                        refine WD.takeOff 20 rfl (by kernel_rfl) (by kernel_rfl) (by kernel_rfl) rfl rfl rfl rfl rfl rfl ?_ -- t109
                        refine WD.take 21 rfl (by kernel_rfl) (by kernel_rfl) (by kernel_rfl) rfl rfl (Yl.pickF rfl rfl) rfl ?_ -- t110
                        refine WD.done (by kernel_rfl) ?_
                        refine WC.condF rfl (by first | rfl | (simp; done) | (simp; omega)) ?_
                        refine WC.skip ?_
                        have hb : spOk X Y f.slot f.at' = false := spOk_not (fun h => by have := of_decide_eq_false g102; omega)
                        obtain ⟨e1, e2, e3⟩ := sp_no (wv := f.wv) hb
                        rw [e1, e2, e3]
                        exact ⟨rfl, ((p2, q2), (p3, q3)), trivial, (by repeat (first | exact Sub.nil | refine Sub.cons rfl ?_)), _, (by repeat (first | exact TakeL.nil | (apply TakeL.cons; · repeat (first | exact Take1.head | apply Take1.tail))))⟩
                    · refine WD.takeOff 9 rfl (by kernel_rfl) (by kernel_rfl) (by kernel_rfl) rfl rfl rfl rfl rfl rfl ?_ -- t98
                      refine WD.takeOff 10 rfl (by kernel_rfl) (by kernel_rfl) (by kernel_rfl) rfl rfl rfl rfl rfl rfl ?_ -- t99
                      refine WD.takeOff 11 rfl (by kernel_rfl) (by kernel_rfl) (by kernel_rfl) rfl rfl rfl rfl rfl rfl ?_ -- t100
                      refine WD.take 12 rfl (by kernel_rfl) (by kernel_rfl) (by kernel_rfl) rfl rfl (Yl.pickF rfl rfl) rfl ?_ -- t101
                      refine WD.take 13 rfl (by kernel_rfl) (by kernel_rfl) (by kernel_rfl) rfl rfl (Yl.move rfl) rfl ?_ -- t102
                      refine WD.takeOff 14 rfl (by kernel_rfl) (by kernel_rfl) (by kernel_rfl) rfl rfl rfl rfl rfl rfl ?_ -- t103
                      refine WD.takeOff 15 rfl (by kernel_rfl) (by kernel_rfl) (by kernel_rfl) rfl rfl rfl rfl rfl rfl ?_ -- t104
                      refine WD.takeOff 16 rfl (by kernel_rfl) (by kernel_rfl) (by kernel_rfl) rfl rfl rfl rfl rfl rfl ?_ -- t105
                      refine WD.takeOff 17 rfl (by kernel_rfl) (by kernel_rfl) (by kernel_rfl) rfl rfl rfl rfl rfl rfl ?_ -- t106
                      refine WD.takeOff 18 rfl (by kernel_rfl) (by kernel_rfl) (by kernel_rfl) rfl rfl rfl rfl rfl rfl ?_ -- t107
                      refine WD.takeOff 19 rfl (by kernel_rfl) (by kernel_rfl) (by kernel_rfl) rfl rfl rfl rfl rfl rfl ?_ -- t108
                      refine WD.takeOff 20 rfl (by kernel_rfl) (by kernel_rfl) (by kernel_rfl) rfl rfl rfl rfl rfl rfl ?_ -- t109
                      refine WD.take 21 rfl (by kernel_rfl) (by kernel_rfl) (by kernel_rfl) rfl rfl (Yl.pickF rfl rfl) rfl ?_ -- t110
                      refine WD.done (by kernel_rfl) ?_
                      refine WC.condF rfl (by first | rfl | (simp; done) | (simp; omega)) ?_
                      refine WC.skip ?_
                      have hb : spOk X Y f.slot f.at' = false := spOk_not (fun h => by have := of_decide_eq_false g97; omega)
                      obtain ⟨e1, e2, e3⟩ := sp_no (wv := f.wv) hb
                      rw [e1, e2, e3]
                      exact ⟨rfl, ((p2, q2), (p3, q3)), trivial, (by repeat (first | exact Sub.nil | refine Sub.cons rfl ?_)), _, (by repeat (first | exact TakeL.nil | (apply TakeL.cons; · repeat (first | exact Take1.head | apply Take1.tail))))⟩
                  · refine WD.takeOff 4 rfl (by kernel_rfl) (by kernel_rfl) (by kernel_rfl) rfl rfl rfl rfl rfl rfl ?_ -- t93
                    refine WD.takeOff 5 rfl (by kernel_rfl) (by kernel_rfl) (by kernel_rfl) rfl rfl rfl rfl rfl rfl ?_ -- t94
                    refine WD.takeOff 6 rfl (by kernel_rfl) (by kernel_rfl) (by kernel_rfl) rfl rfl rfl rfl rfl rfl ?_ -- t95
                    refine WD.take 7 rfl (by kernel_rfl) (by kernel_rfl) (by kernel_rfl) rfl rfl (Yl.pickF rfl rfl) rfl ?_ -- t96
                    refine WD.take 8 rfl (by kernel_rfl) (by kernel_rfl) (by kernel_rfl) rfl rfl (Yl.move rfl) rfl ?_ -- t97
                    refine WD.takeOff 9 rfl (by kernel_rfl) (by kernel_rfl) (by kernel_rfl) rfl rfl rfl rfl rfl rfl ?_ -- t98
                    refine WD.takeOff 10 rfl (by kernel_rfl) (by kernel_rfl) (by kernel_rfl) rfl rfl rfl rfl rfl rfl ?_ -- t99
                    refine WD.takeOff 11 rfl (by kernel_rfl) (by kernel_rfl) (by kernel_rfl) rfl rfl rfl rfl rfl rfl ?_ -- t100
                    refine WD.take 12 rfl (by kernel_rfl) (by kernel_rfl) (by kernel_rfl) rfl rfl (Yl.pickF rfl rfl) rfl ?_ -- t101
                    refine WD.take 13 rfl (by kernel_rfl) (by kernel_rfl) (by kernel_rfl) rfl rfl (Yl.move rfl) rfl ?_ -- t102
                    refine WD.takeOff 14 rfl (by kernel_rfl) (by kernel_rfl) (by kernel_rfl) rfl rfl rfl rfl rfl rfl ?_ -- t103
                    refine WD.takeOff 15 rfl (by kernel_rfl) (by kernel_rfl) (by kernel_rfl) rfl rfl rfl rfl rfl rfl ?_ -- t104
                    refine WD.takeOff 16 rfl (by kernel_rfl) (by kernel_rfl) (by kernel_rfl) rfl rfl rfl rfl rfl rfl ?_ -- t105
                    refine WD.takeOff 17 rfl (by kernel_rfl) (by kernel_rfl) (by kernel_rfl) rfl rfl rfl rfl rfl rfl ?_ -- t106
                    refine WD.takeOff 18 rfl (by kernel_rfl) (by kernel_rfl) (by kernel_rfl) rfl rfl rfl rfl rfl rfl ?_ -- t107
                    refine WD.takeOff 19 rfl (by kernel_rfl) (by kernel_rfl) (by kernel_rfl) rfl rfl rfl rfl rfl rfl ?_ -- t108
                    refine WD.takeOff 20 rfl (by kernel_rfl) (by kernel_rfl) (by kernel_rfl) rfl rfl rfl rfl rfl rfl ?_ -- t109
                    refine WD.take 21 rfl (by kernel_rfl) (by kernel_rfl) (by kernel_rfl) rfl rfl (Yl.pickF rfl rfl) rfl ?_ -- t110
                    refine WD.done (by kernel_rfl) ?_
                    refine WC.condF rfl (by first | rfl | (simp; done) | (simp; omega)) ?_
                    refine WC.skip ?_
                    have hb : spOk X Y f.slot f.at' = false := spOk_not (fun h => by have := of_decide_eq_false g92; omega)
                    obtain ⟨e1, e2, e3⟩ := sp_no (wv := f.wv) hb
                    rw [e1, e2, e3]
                    exact ⟨rfl, ((p2, q2), (p3, q3)), trivial, (by repeat (first | exact Sub.nil | refine Sub.cons rfl ?_)), _, (by repeat (first | exact TakeL.nil | (apply TakeL.cons; · repeat (first | exact Take1.head | apply Take1.tail))))⟩
                · rintro ⟨⟨w2, u2⟩, ⟨w3, u3⟩⟩ _
                  dsimp only
                  refine WC.seq ?_
                  refine WC.region ?_
                  refine WL.y (Yl.move rfl) rfl ?_ -- t129
                  refine WL.y (Yl.field fo30_3 rfl) rfl ?_ -- t130
                  refine WL.y (Yl.load on3 rfl (by repeat (first | exact Take1.head | apply Take1.tail)) (by rfl)) rfl ?_ -- t131
                  refine WL.y (Yl.field fo30_4 rfl) rfl ?_ -- t132
                  refine WL.y (Yl.load on3 rfl (by repeat (first | exact Take1.head | apply Take1.tail)) (by rfl)) rfl ?_ -- t133
                  refine WL.y (Yl.field fo30_5 rfl) rfl ?_ -- t134
                  refine WL.y (Yl.load on5 rfl (by repeat (first | exact Take1.head | apply Take1.tail)) (by rfl)) rfl ?_ -- t135
                  refine WL.callC (xs := [.tmp 129, .tmp 131, .tmp 133, .tmp 135]) (cap := []) rfl rfl en9 (by repeat (first | exact TakeL.nil | (apply TakeL.cons; · repeat (first | exact Take1.head | apply Take1.tail)))) (fun w hw => spoil_any bd (.slice p0 X.length q0) (.slice p1 Y.length q1) X Y f.slot f.at' f.wv (by omega) (by omega) w hw.left.here) rfl ?_ -- t136 (*hailer/disk.Disk).Spoil
                  rintro ⟨⟨w0, u0⟩, ⟨w1, u1⟩⟩ -
                  dsimp only [dskR, List.cons_append, List.nil_append]
                  refine WL.y (Yl.move rfl) rfl ?_ -- t137
                  refine WL.y (Yl.neq rfl rfl) rfl ?_ -- t138
                  refine WL.know (t := 138) (b' := false) rfl (by first | rfl | (simp; done) | (simp; omega)) ?_
                  refine WL.nil ?_
                  refine WC.condF rfl (by first | rfl | (simp; done) | (simp; omega)) ?_
                  refine WC.skip ?_
                  have e1 : stX f X Y = spX X Y f.slot f.at' f.wv := by unfold stX; rw [if_neg g51, if_pos g84]
                  have e2 : stY f X Y = spY X Y f.slot f.at' f.wv := by unfold stY; rw [if_neg g51, if_pos g84]
                  rw [e1, e2]
                  exact ⟨rfl, (bd, (w0, u0), (w1, u1), (w2, u2), (w3, u3)), trivial, (by repeat (first | exact Sub.nil | refine Sub.cons rfl ?_)), _, (by repeat (first | exact TakeL.nil | (apply TakeL.cons; · repeat (first | exact Take1.head | apply Take1.tail))))⟩
            · refine WC.region ?_
              refine WL.y (Yl.move rfl) rfl ?_ -- t48
              refine WL.callC (xs := [.tmp 48]) (cap := []) rfl rfl en10 (by repeat (first | exact TakeL.nil | (apply TakeL.cons; · repeat (first | exact Take1.head | apply Take1.tail)))) (fun w hw => slots_any bd (.slice p0 X.length q0) (.slice p1 Y.length q1) X Y (by omega) (by omega) w hw.left.here) rfl ?_ -- t49 (*hailer/disk.Disk).Slots
              rintro ⟨⟨s0, m0⟩, ⟨s1, m1⟩⟩ -
              dsimp only [dskR, List.cons_append, List.nil_append]
              refine WL.callC (xs := [.tmp 49]) (cap := []) rfl rfl en6 (by repeat (first | exact TakeL.nil | (apply TakeL.cons; · repeat (first | exact Take1.head | apply Take1.tail)))) (fun w hw => of_any (.slice s0 X.length m0) (.slice s1 Y.length m1) X Y (by omega) (by omega) w (hw.src (A := []) (r := rdR (.slice s0 X.length m0) 1 X.length (ints .u8 X)) RdOf.rd' (by repeat (first | exact Take1.head | apply Take1.tail))) (hw.src (A := []) (r := rdR (.slice s1 Y.length m1) 1 Y.length (ints .u8 Y)) RdOf.rd' (by repeat (first | exact Take1.head | apply Take1.tail))) hw.left.here) rfl ?_ -- t50 hailer/disk.Of
              rintro ⟨be, ⟨w0, u0⟩, ⟨w1, u1⟩⟩ -
              dsimp only [dskR, List.cons_append, List.nil_append]
              refine WL.y (Yl.assign rfl) rfl ?_ -- t5
              refine WL.nil ?_
              have e1 : stX f X Y = X := by unfold stX; rw [if_neg g51, if_neg g84]
              have e2 : stY f X Y = Y := by unfold stY; rw [if_neg g51, if_neg g84]
              rw [e1, e2]
              exact ⟨rfl, (be, (w0, u0), (w1, u1), (p2, q2), (p3, q3)), trivial, (by repeat (first | exact Sub.nil | refine Sub.cons rfl ?_)), _, (by repeat (first | exact TakeL.nil | (apply TakeL.cons; · repeat (first | exact Take1.head | apply Take1.tail))))⟩
        · have hn := st_by hX hY hfo
          have hnl := st_len hXl hYl hfb
          obtain ⟨X2, hX2⟩ : ∃ X2, stX f X Y = X2 := ⟨_, rfl⟩
          obtain ⟨Y2, hY2⟩ : ∃ Y2, stY f X Y = Y2 := ⟨_, rfl⟩
          rw [hX2, hY2] at hn hnl ⊢
          obtain ⟨hnX, hnY⟩ := hn
          obtain ⟨hnXl, hnYl⟩ := hnl
          rintro ⟨bd, ⟨p0, q0⟩, ⟨p1, q1⟩, ⟨p2, q2⟩, ⟨p3, q3⟩⟩ _
          dsimp only [gR]
          refine WC.seq ?_
          refine WC.region ?_
          refine WL.y (Yl.move rfl) rfl ?_ -- t139
          refine WL.callC (xs := [.tmp 139]) (cap := []) rfl rfl en10 (by repeat (first | exact TakeL.nil | (apply TakeL.cons; · repeat (first | exact Take1.head | apply Take1.tail)))) (fun w hw => slots_any bd (.slice p0 X2.length q0) (.slice p1 Y2.length q1) X2 Y2 (by omega) (by omega) w hw.left.here) rfl ?_ -- t140 (*hailer/disk.Disk).Slots
          rintro ⟨⟨s0, m0⟩, ⟨s1, m1⟩⟩ -
          dsimp only [dskR, List.cons_append, List.nil_append]
          refine WL.to (To.alloc (cs := [.slice none 0 0, .slice none 0 0]) zr23 rfl) rfl ?_ -- t18
          intro b18
          refine WL.sto (Sto.agg sz23 rfl rfl (by repeat (first | exact Take1.head | apply Take1.tail)) two_one rfl (by rfl) (by rfl)) (fun _ h => nomatch h) ?_ -- st 8
          refine WL.nil ?_
          refine WC.seq ?_
          refine WC.region ?_
          refine WL.y (Yl.move rfl) rfl ?_ -- t142
          refine WL.callC (xs := [.tmp 142]) (cap := []) rfl rfl en11 (by repeat (first | exact TakeL.nil | (apply TakeL.cons; · repeat (first | exact Take1.head | apply Take1.tail)))) (fun w hw => read_any bd (.slice p0 X2.length q0) (.slice p1 Y2.length q1) X2 Y2 hnX hnY (by omega) (by omega) w hw.left.here) rfl ?_ -- t143 (*hailer/disk.Disk).Read
          rintro ⟨r0, k0⟩ -
          dsimp only [dskR, List.cons_append, List.nil_append]
          refine WL.y (Yl.move rfl) rfl ?_ -- t141
          refine WL.y (Yl.extract rfl rfl) rfl ?_ -- t144
          refine WL.say (t := 144) (v' := .int .u64 (nwN X2 Y2)) rfl (by rfl) ?_
          refine WL.y (Yl.extract rfl rfl) rfl ?_ -- t145
          refine WL.say (t := 145) (v' := .slice r0 (nwB X2 Y2).length k0) rfl (by rfl) ?_
          refine WL.y (Yl.extract rfl rfl) rfl ?_ -- t146
          refine WL.say (t := 146) (v' := .int .i64 (rdE X2 Y2)) rfl (by rfl) ?_
          refine WL.y (Yl.assign rfl) rfl ?_ -- t19
          refine WL.y (Yl.assign rfl) rfl ?_ -- t20
          refine WL.y (Yl.assign rfl) rfl ?_ -- t21
          refine WL.nil ?_
          refine WC.seq ?_
          refine WC.region ?_
          refine WL.y (Yl.load on22 rfl (by repeat (first | exact Take1.head | apply Take1.tail)) (by rfl)) rfl ?_ -- t148
          refine WL.y (Yl.load on22 rfl (by repeat (first | exact Take1.head | apply Take1.tail)) (by rfl)) rfl ?_ -- t149
          refine WL.callC (xs := [.tmp 148, .tmp 149]) (cap := []) rfl rfl en12 (by repeat (first | exact TakeL.nil | (apply TakeL.cons; · repeat (first | exact Take1.head | apply Take1.tail)))) (fun w hw => rnewest_any X2 Y2 (.slice p2 X2.length q2) (.slice p3 Y2.length q3) hnX hnY (by omega) (by omega) w (hw.src (A := []) (r := rdR (.slice p2 X2.length q2) 1 X2.length (ints .u8 X2)) RdOf.rd' (by repeat (first | exact Take1.head | apply Take1.tail))) (hw.src (A := []) (r := rdR (.slice p3 Y2.length q3) 1 Y2.length (ints .u8 Y2)) RdOf.rd' (by repeat (first | exact Take1.head | apply Take1.tail))) hw.left.here) rfl ?_ -- t150 hailer/hailerref34.Newest
          rintro ⟨⟩ -
          refine WL.y (Yl.move rfl) rfl ?_ -- t147
          refine WL.y (Yl.extract rfl rfl) rfl ?_ -- t151
          refine WL.say (t := 151) (v' := .int .i64 (nwS X2 Y2)) rfl (by rfl) ?_
          refine WL.y (Yl.extract rfl rfl) rfl ?_ -- t152
          refine WL.say (t := 152) (v' := .int .u64 (nwN X2 Y2)) rfl (by rfl) ?_
          refine WL.y (Yl.extract rfl rfl) rfl ?_ -- t153
          refine WL.say (t := 153) (v' := nwV (.slice p2 X2.length q2) (.slice p3 Y2.length q3) X2 Y2) rfl (by rfl) ?_
          refine WL.y (Yl.assign rfl) rfl ?_ -- t22
          refine WL.y (Yl.assign rfl) rfl ?_ -- t23
          refine WL.y (Yl.assign rfl) rfl ?_ -- t24
          refine WL.nil ?_
          refine WC.seq ?_
          refine WC.region ?_
          refine WL.y (Yl.indexA (j := 0) un23 sz22 rfl rfl rfl (by omega)) rfl ?_ -- t154
          refine WL.y (Yl.load on22 rfl (by repeat (first | exact Take1.head | apply Take1.tail)) (by rfl)) rfl ?_ -- t155
          refine WL.y (Yl.toStr un22 un5 un9 rfl (Reads.of (r := rdR (.slice s0 X2.length m0) 1 X2.length (ints .u8 X2)) RdOf.rd' (by repeat (first | exact Take1.head | apply Take1.tail)))) rfl ?_ -- t156
          refine WL.y (Yl.load on22 rfl (by repeat (first | exact Take1.head | apply Take1.tail)) (by rfl)) rfl ?_ -- t157
          refine WL.y (Yl.toStr un22 un5 un9 rfl (Reads.of (r := rdR (.slice p2 X2.length q2) 1 X2.length (ints .u8 X2)) RdOf.rd' (by repeat (first | exact Take1.head | apply Take1.tail)))) rfl ?_ -- t158
          refine WL.y (Yl.sNe rfl rfl) rfl ?_ -- t159
          refine WL.know (t := 159) (b' := false) rfl (by simp) ?_
          refine WL.y (Yl.move rfl) rfl ?_ -- t160
          refine WL.on rfl rfl ?_
          refine WL.y (Yl.indexA (j := 1) un23 sz22 rfl rfl rfl (by omega)) rfl ?_ -- t161
          refine WL.on rfl rfl ?_
          refine WL.y (Yl.load on22 rfl (by repeat (first | exact Take1.head | apply Take1.tail)) (by rfl)) rfl ?_ -- t162
          refine WL.on rfl rfl ?_
          refine WL.y (Yl.toStr un22 un5 un9 rfl (Reads.of (r := rdR (.slice s1 Y2.length m1) 1 Y2.length (ints .u8 Y2)) RdOf.rd' (by repeat (first | exact Take1.head | apply Take1.tail)))) rfl ?_ -- t163
          refine WL.on rfl rfl ?_
          refine WL.y (Yl.load on22 rfl (by repeat (first | exact Take1.head | apply Take1.tail)) (by rfl)) rfl ?_ -- t164
          refine WL.on rfl rfl ?_
          refine WL.y (Yl.toStr un22 un5 un9 rfl (Reads.of (r := rdR (.slice p3 Y2.length q3) 1 Y2.length (ints .u8 Y2)) RdOf.rd' (by repeat (first | exact Take1.head | apply Take1.tail)))) rfl ?_ -- t165
          refine WL.on rfl rfl ?_
          refine WL.y (Yl.sNe rfl rfl) rfl ?_ -- t166
          refine WL.know (t := 166) (b' := false) rfl (by simp) ?_
          refine WL.y (Yl.pickF rfl rfl) rfl ?_ -- t167
          refine WL.y (Yl.move rfl) rfl ?_ -- t168
          refine WL.on rfl rfl ?_
          refine WL.y (Yl.move rfl) rfl ?_ -- t169
          refine WL.on rfl rfl ?_
          refine WL.y (Yl.move rfl) rfl ?_ -- t170
          refine WL.on rfl rfl ?_
          refine WL.y (Yl.neq rfl rfl) rfl ?_ -- t171
          refine WL.know (t := 171) (b' := false) rfl (by simp) ?_
          refine WL.y (Yl.pickF rfl rfl) rfl ?_ -- t172
          refine WL.y (Yl.move rfl) rfl ?_ -- t173
          refine WL.on rfl rfl ?_
          refine WL.y (Yl.move rfl) rfl ?_ -- t174
          refine WL.on rfl rfl ?_
          refine WL.y (Yl.toStr un22 un5 un9 rfl (Reads.of (r := rdR (.slice r0 (nwB X2 Y2).length k0) 1 (nwB X2 Y2).length (ints .u8 (nwB X2 Y2))) RdOf.rd' (by repeat (first | exact Take1.head | apply Take1.tail)))) rfl ?_ -- t175
          refine WL.on rfl rfl ?_
          refine WL.y (Yl.move rfl) rfl ?_ -- t176
          refine WL.on rfl rfl ?_
          refine WL.y (Yl.toStr un22 un5 un9 rfl (fun w hw => Rd.nwV (x := X2) (y := Y2) (hw.get (r := rdR (.slice p2 X2.length q2) 1 X2.length (ints .u8 X2)) (by repeat (first | exact Take1.head | apply Take1.tail))) (hw.get (r := rdR (.slice p3 Y2.length q3) 1 Y2.length (ints .u8 Y2)) (by repeat (first | exact Take1.head | apply Take1.tail))))) rfl ?_ -- t177
          refine WL.on rfl rfl ?_
          refine WL.y (Yl.sNe rfl rfl) rfl ?_ -- t178
          refine WL.know (t := 178) (b' := false) rfl (by simp) ?_
          refine WL.y (Yl.pickF rfl rfl) rfl ?_ -- t179
          refine WL.y (Yl.move rfl) rfl ?_ -- t180
          refine WL.on rfl rfl ?_
          refine WL.y (Yl.move rfl) rfl ?_ -- t181
          refine WL.on rfl rfl ?_
          refine WL.y (Yl.eql rfl rfl) rfl ?_ -- t182
          refine WL.on rfl rfl ?_
          refine WL.y (Yl.move rfl) rfl ?_ -- t183
          refine WL.on rfl rfl ?_
          refine WL.y (Yl.geq rfl rfl) rfl ?_ -- t184
          refine WL.on rfl rfl ?_
          refine WL.y (Yl.bNe un4 rfl rfl) rfl ?_ -- t185
          refine WL.know (t := 185) (b' := false) rfl (by rw [at_code.1]; rfl) ?_
          refine WL.y (Yl.pickF rfl rfl) rfl ?_ -- t186
          refine WL.y (Yl.move rfl) rfl ?_ -- t187
          refine WL.on rfl rfl ?_
          refine WL.y (Yl.move rfl) rfl ?_ -- t188
          refine WL.on rfl rfl ?_
          refine WL.y (Yl.lss rfl rfl) rfl ?_ -- t189
          refine WL.on rfl rfl ?_
          refine WL.y (Yl.move rfl) rfl ?_ -- t190
          refine WL.both (t := 190) rfl (fun g190 => ?_) (fun g190 => ?_)
          · refine WL.on rfl rfl ?_
            refine WL.y (Yl.move rfl) rfl ?_ -- t191
            refine WL.on rfl rfl ?_
            refine WL.y (Yl.neq rfl rfl) rfl ?_ -- t192
            refine WL.know (t := 192) (b' := false) rfl (by rw [at_code.2 (of_decide_eq_true g190)]; rfl) ?_
            refine WL.on rfl rfl ?_
            refine WL.y (Yl.pickT rfl rfl) rfl ?_ -- t193
            refine WL.y (Yl.pickF rfl rfl) rfl ?_ -- t194
            refine WL.nil ?_
            refine WC.condF rfl (by first | rfl | (simp; done) | (simp; omega)) ?_
            refine WC.skip ?_
            refine WC.region ?_
            refine WL.y (Yl.add rfl rfl (IntWalk.i64_in _ (by omega))) rfl ?_ -- t195
            refine WL.y (Yl.move rfl) rfl ?_ -- t42
            refine WL.nil ?_
            exact ⟨rfl, (j + 1, X2, Y2, bd, (p0, q0), (p1, q1), (p2, q2), (p3, q3)), ⟨by dsimp only; omega, hnX, hnY, hnXl, hnYl⟩, by dsimp only; omega, (by repeat (first | exact Sub.nil | refine Sub.cons rfl ?_)), _, (by repeat (first | exact TakeL.nil | (apply TakeL.cons; · repeat (first | exact Take1.head | apply Take1.tail))))⟩
          · refine WL.off rfl rfl rfl rfl ?_ -- t191
            refine WL.off rfl rfl rfl rfl ?_ -- t192
            refine WL.on rfl rfl ?_
            refine WL.y (Yl.pickF rfl rfl) rfl ?_ -- t193
            refine WL.y (Yl.pickF rfl rfl) rfl ?_ -- t194
            refine WL.nil ?_
            refine WC.condF rfl (by first | rfl | (simp; done) | (simp; omega)) ?_
            refine WC.skip ?_
            refine WC.region ?_
            refine WL.y (Yl.add rfl rfl (IntWalk.i64_in _ (by omega))) rfl ?_ -- t195
            refine WL.y (Yl.move rfl) rfl ?_ -- t42
            refine WL.nil ?_
            exact ⟨rfl, (j + 1, X2, Y2, bd, (p0, q0), (p1, q1), (p2, q2), (p3, q3)), ⟨by dsimp only; omega, hnX, hnY, hnXl, hnYl⟩, by dsimp only; omega, (by repeat (first | exact Sub.nil | refine Sub.cons rfl ?_)), _, (by repeat (first | exact TakeL.nil | (apply TakeL.cons; · repeat (first | exact Take1.head | apply Take1.tail))))⟩
      · refine WC.exit ?_
        refine WC.seq ?_
        refine WC.region ?_
        refine WL.y (Yl.assign rfl) rfl ?_ -- t4
        refine WL.nil ?_
        refine WC.ret ?_
        repeat (first | (with_reducible refine peelT ?_) | (with_reducible refine peelB ?_) | (with_reducible refine peelTX ?_) | (with_reducible refine peelBX ?_) | (with_reducible refine peelBN ?_) | (with_reducible refine peelBO rfl ?_))
        exact ret1 (.inr rfl) Try.results3 rfl fun w' h => ⟨(), trivial, rfl, h.sub (by repeat (first | exact TakeL.nil | (apply TakeL.cons; · repeat (first | exact Take1.head | apply Take1.tail))))⟩
end Go.Proofs.Ytjlgmaappebppaa
