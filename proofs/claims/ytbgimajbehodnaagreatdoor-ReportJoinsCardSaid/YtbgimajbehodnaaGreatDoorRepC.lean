/- Sums of records: one, joined: the walks. -/
import Derived.Test.YtbgimajbehodnaaGreatDoorRepQ
import Derived.Test.YtbgimajbehodnaaGreatDoorFacts
import Derived.Test.YtbgimajbehodnaaGreatDoorLibH
import Derived.Test.YtbgimajbehodnaaGreatDoorLibI
import Derived.Test.YtbgimajbehodnaaGreatDoorLibQ
import Derived.Test.YtbgimajbehodnaaGreatDoorWireP
import Derived.Laws.Externs
import Derived.Test.YtbgimajbehodnaaGreatDoorLibK
import Derived.Test.YtbgimajbehodnaaGreatDoorLibN
import Derived.Test.YtbgimajbehodnaaGreatDoorLibLs
import Derived.Test.YtbgimajbehodnaaGreatDoorLibZ
namespace Go.Proofs.YtbgimajbehodnaaGreatDoor
open Go Go.RowKit
theorem ext_add {x y : Int} (hx : U64 x) (hy : U64 y) (w : World) : (callFunc 87 #[.int .u64 x, .int .u64 y, .int .u64 0]).run Tryz.prog w = .ok (.value (.tuple #[.int .u64 ((x + y + 0) % 18446744073709551616), .int .u64 ((x + y + 0) / 18446744073709551616)])) w := by
  rw [run_callFunc_extern (e := add64Entry) Tryz.func87 (by kernel_rfl) (by kernel_rfl) (by kernel_rfl) (by kernel_rfl), run_add64 x y 0 hx.1 hy.1 (by decide) (by decide)]
  rfl
theorem plus_any (x y : Int) (hx : U64 x) (hy : U64 y) (w : World) (hw : OK w (fpL []) [] w) : Fn Tryz.prog 50 [.int .u64 x, .int .u64 y] [] w (fun _ : Unit => True) (fun _ => .int .u64 (satF x y)) (fun _ => []) := by
  have h1 := hx
  have h2 := hy
  unfold U64 at h1 h2
  refine enterF Tryz.func50 rfl Tryz.ntmps50 rfl hw ?_
  refine WC.seq ?_
  refine WC.region ?_
  refine WL.y (Yl.assign rfl) rfl ?_
  refine WL.nil ?_
  refine WC.seq ?_
  refine WC.seq ?_
  refine WC.region ?_
  refine WL.y (Yl.move rfl) rfl ?_
  refine WL.y (Yl.move rfl) rfl ?_
  refine WL.y (Yl.callExt (xs := [.tmp 8, .tmp 9, .const (.int .u64 0)]) rfl rfl (fun w _ => ext_add hx hy w)) rfl ?_
  refine WL.y (Yl.move rfl) rfl ?_
  refine WL.y (Yl.extract rfl rfl) rfl ?_
  refine WL.y (Yl.extract rfl rfl) rfl ?_
  refine WL.y (Yl.assign rfl) rfl ?_
  refine WL.y (Yl.assign rfl) rfl ?_
  refine WL.nil ?_
  refine WC.seq ?_
  refine WC.region ?_
  refine WL.y (Yl.move rfl) rfl ?_
  refine WL.y (Yl.eql rfl rfl) rfl ?_
  refine WL.nil ?_
  refine WC.condD rfl (fun g14 => ?_) (fun g14 => ?_)
  · refine WC.seq ?_
    refine WC.region ?_
    refine WL.y (Yl.move rfl) rfl ?_
    refine WL.y (Yl.assign rfl) rfl ?_
    refine WL.nil ?_
    refine WC.ret ?_
    repeat (with_reducible (first | refine peelT ?_ | refine peelB ?_ | refine peelTX ?_ | refine peelBX ?_ | refine peelBN ?_ | refine peelBO rfl ?_))
    exact ret1 (.inr rfl) Tryz.results50 rfl fun w' h => ⟨(), trivial, by have e : satF x y = (x + y + 0) % 18446744073709551616 := (by unfold satF; rw [if_pos (by omega)]; omega); rw [e]; rfl, h.sub (by repeat' constructor)⟩
  · refine WC.skip ?_
    refine WC.seq ?_
    refine WC.region ?_
    refine WL.y (Yl.assign rfl) rfl ?_
    refine WL.nil ?_
    refine WC.ret ?_
    repeat (with_reducible (first | refine peelT ?_ | refine peelB ?_ | refine peelTX ?_ | refine peelBX ?_ | refine peelBN ?_ | refine peelBO rfl ?_))
    exact ret1 (.inr rfl) Tryz.results50 rfl fun w' h => ⟨(), trivial, by unfold satF; rw [if_neg (by have := g14; omega)], h.sub (by repeat' constructor)⟩
theorem putAll {ys zs : List Value} {n : Nat} (h : zs.length = n) : zs.take 0 ++ ys ++ zs.drop (0 + n) = ys := by
  rw [List.drop_of_length_le (by omega)]
  simp
/-! ### A sum's cells -/
theorem Sm.get {s : Sm} (h : s.oc.length = 8) (j : Nat) : s.cells[11 + j]? = [Value.int .u64 s.tk, .int .u64 s.lg, .int .u64 s.fi, .int .u64 s.la][j]? := by
  unfold Sm.cells
  rw [show 11 + j = (8 + j) + 1 + 1 + 1 by omega, List.getElem?_cons_succ, List.getElem?_cons_succ, List.getElem?_cons_succ, List.getElem?_append_right (by rw [ints_length]; omega), ints_length, h, Nat.add_sub_cancel_left]
theorem Sm.g0 (s : Sm) : s.cells[0 + 0]? = some (.int .u64 s.n) := rfl
theorem Sm.g1 (s : Sm) : s.cells[0 + 1]? = some (.int .u64 s.o) := rfl
theorem Sm.g2 (s : Sm) : s.cells[0 + 2]? = some (.int .u64 s.t) := rfl
theorem Sm.g11 {s : Sm} (h : s.oc.length = 8) : s.cells[0 + 11]? = some (.int .u64 s.tk) := Sm.get h 0
theorem Sm.g12 {s : Sm} (h : s.oc.length = 8) : s.cells[0 + 12]? = some (.int .u64 s.lg) := Sm.get h 1
theorem Sm.g13 {s : Sm} (h : s.oc.length = 8) : s.cells[0 + 13]? = some (.int .u64 s.fi) := Sm.get h 2
theorem Sm.g14 {s : Sm} (h : s.oc.length = 8) : s.cells[0 + 14]? = some (.int .u64 s.la) := Sm.get h 3
theorem Sm.set' {s : Sm} (h : s.oc.length = 8) (j : Nat) (v : Value) : s.cells.set (11 + j) v = .int .u64 s.n :: .int .u64 s.o :: .int .u64 s.t :: (ints .u64 s.oc ++ [Value.int .u64 s.tk, .int .u64 s.lg, .int .u64 s.fi, .int .u64 s.la].set j v) := by
  unfold Sm.cells
  rw [show 11 + j = (8 + j) + 1 + 1 + 1 by omega, List.set_cons_succ, List.set_cons_succ, List.set_cons_succ, List.set_append_right _ _ (by rw [ints_length]; omega), ints_length, h, Nat.add_sub_cancel_left]
theorem Sm.s0 (s : Sm) (x : Int) : s.cells.set (0 + 0) (.int .u64 x) = { s with n := x }.cells := rfl
theorem Sm.s1 (s : Sm) (x : Int) : s.cells.set (0 + 1) (.int .u64 x) = { s with o := x }.cells := rfl
theorem Sm.s2 (s : Sm) (x : Int) : s.cells.set (0 + 2) (.int .u64 x) = { s with t := x }.cells := rfl
theorem Sm.s11 {s : Sm} (h : s.oc.length = 8) (x : Int) : s.cells.set (0 + 11) (.int .u64 x) = { s with tk := x }.cells := Sm.set' h 0 _
theorem Sm.s12 {s : Sm} (h : s.oc.length = 8) (x : Int) : s.cells.set (0 + 12) (.int .u64 x) = { s with lg := x }.cells := Sm.set' h 1 _
theorem Sm.s13 {s : Sm} (h : s.oc.length = 8) (x : Int) : s.cells.set (0 + 13) (.int .u64 x) = { s with fi := x }.cells := Sm.set' h 2 _
theorem Sm.s14 {s : Sm} (h : s.oc.length = 8) (x : Int) : s.cells.set (0 + 14) (.int .u64 x) = { s with la := x }.cells := Sm.set' h 3 _
theorem Sm.ocs {s : Sm} (h : s.oc.length = 8) : (s.cells.drop (0 + 3)).take 8 = ints .u64 s.oc := by
  show (ints .u64 s.oc ++ _).take 8 = _
  exact List.take_left' (by rw [ints_length, h])
theorem Sm.ocAt {s : Sm} (h : s.oc.length = 8) {i n : Nat} {x : Int} (hx : s.oc[i]? = some x) (hn : n = 3 + i) : s.cells[n]? = some (.int .u64 x) := by
  have hi := (List.getElem?_eq_some_iff.1 hx).1
  subst hn
  unfold Sm.cells
  rw [show 3 + i = i + 1 + 1 + 1 by omega, List.getElem?_cons_succ, List.getElem?_cons_succ, List.getElem?_cons_succ, List.getElem?_append_left (by rw [ints_length]; omega)]
  unfold ints
  rw [List.getElem?_map, hx]
  rfl
theorem Sm.ocSet {s : Sm} (h : s.oc.length = 8) {i n : Nat} (hi : i < 8) (x : Int) (hn : n = 3 + i) : s.cells.set n (.int .u64 x) = { s with oc := s.oc.set i x }.cells := by
  subst hn
  unfold Sm.cells
  rw [show 3 + i = i + 1 + 1 + 1 by omega, List.set_cons_succ, List.set_cons_succ, List.set_cons_succ, List.set_append_left _ _ (by rw [ints_length]; omega)]
  unfold ints
  rw [List.map_set]
theorem Sm.call {s : Sm} (h : s.oc.length = 8) : (s.cells.drop 0).take 15 = s.cells := by
  rw [List.drop_zero, List.take_of_length_le (by rw [Sm.cells_len h]; omega)]
section
variable {c : Cx} {env : Env} {ds : List Deferred} {H F : List Res} {dst : Option Tmp} {ty : TypeId} {pos : String} {af : Array Edge} {g : Option (Nat × Bool)}
theorem Yl.loadSm {t : TypeId} {x : Operand} {b o : Nat} {T : TypeId} {cs : List Value} {v : Value} (ho : isOne c.P t = true) (hx : ev env x = some (.pointer (some ⟨b, o, none⟩))) (tk : Take1 H (blkR b T cs) F) (hv : cs[o]? = some v) : Yl c env ds H ⟨dst, .load t x, ty, pos, af, g⟩ v := Yl.load ho hx tk hv
theorem Sto.oneS {t : TypeId} {x y : Operand} {b o : Nat} {T : TypeId} {cs cs' : List Value} {v : Value} (hi : (c.P.info? t).map (·.size) = some 1) (hx : ev env x = some (.pointer (some ⟨b, o, none⟩))) (hy : ev env y = some v) (tk : Take1 H (blkR b T cs) F)
    (h1 : v.oneCell' = true) (ho : o < cs.length) (he : cs.set o v = cs') : Sto c env ds H ⟨dst, .store t x y, ty, pos, af, g⟩ (blkR b T cs' :: F) := Sto.one hi hx hy tk h1 (Nat.ble_eq_true_of_le ho) he
end
set_option maxRecDepth 100000 in
theorem one_any (r : Rc) (hr : r.ok) (w : World) (hw : OK w (fpL []) [] w) : Fn Tryz.prog 47 [rcV r] [] w (fun _ : Unit => True) (fun _ => smV (oneS r)) (fun _ => []) := by
  have h := hr.len
  have han := hr.an
  have hen := hr.en
  have hoc := hr.oc
  unfold U64 at han hen
  unfold U8 at hoc
  have hO := oneS_ok hr
  obtain ⟨O, hOe⟩ : ∃ O, oneS r = O := ⟨_, rfl⟩
  unfold rcV smV
  refine enterF Tryz.func47 rfl Tryz.ntmps47 rfl hw ?_
  refine WC.seq ?_
  refine WC.region ?_
  refine WL.to (To.box (cs := r.cells) rfl rfl) rfl ?_
  intro b1
  refine WL.to (To.alloc (cs := Sm.zero.cells) zr37 rfl) rfl ?_
  intro b2
  refine WL.nil ?_
  refine WC.seq ?_
  refine WC.region ?_
  refine WL.y (Yl.field fo45_4 rfl) rfl ?_
  refine WL.y (Yl.load on34 rfl (by repeat constructor) (Rc.c19 h)) rfl ?_
  refine WL.y (Yl.field fo45_6 rfl) rfl ?_
  refine WL.y (Yl.load on34 rfl (by repeat constructor) (Rc.c21 h)) rfl ?_
  refine WL.y (Yl.build rfl (cs := ({ Sm.zero with n := 1, fi := r.bg, la := r.en } : Sm).cells) (fun _ => by kernel_rfl)) rfl ?_
  refine WL.to (To.alloc (cs := Sm.zero.cells) zr37 rfl) rfl ?_
  intro b3
  refine WL.sto (Sto.agg sz37 rfl rfl (by repeat constructor) (Sm.ones _) rfl (by rfl) (putAll rfl)) (fun _ h => nomatch h) ?_
  refine WL.nil ?_
  refine WC.midX (α := Unit) (fun _ => [(1, .pointer (some ⟨b1, 0, none⟩)), (2, .pointer (some ⟨b2, 0, none⟩)), (3, .pointer (some ⟨b3, 0, none⟩))]) (fun _ => [blkR b1 45 r.cells, blkR b2 37 Sm.zero.cells, blkR b3 37 ({ Sm.zero with n := 1, fi := r.bg, la := r.en, o := if r.out then 1 else 0 } : Sm).cells]) (fun _ => True) ?_ ?_
  · refine WC.seq ?_
    refine WC.region ?_
    refine WL.y (Yl.field fo45_2 rfl) rfl ?_
    refine WL.y (Yl.load on4 rfl (by repeat constructor) (Rc.c17 h)) rfl ?_
    refine WL.nil ?_
    refine WC.cond rfl (fun g11 => ?_) (fun g11 => ?_)
    · refine WC.region ?_
      refine WL.y (Yl.field fo37_1 rfl) rfl ?_
      refine WL.sto (Sto.one sz34 rfl rfl (by repeat constructor) rfl (by rfl) (by rfl)) (fun _ h => nomatch h) ?_
      refine WL.nil ?_
      rw [if_pos g11]
      exact ⟨rfl, (), trivial, (by repeat' constructor), _, (by repeat' constructor)⟩
    · refine WC.skip ?_
      rw [if_neg (ne_true_of_eq_false g11)]
      exact ⟨rfl, (), trivial, (by repeat' constructor), _, (by repeat' constructor)⟩
  · rintro ⟨⟩ -
    refine WC.midX (α := Unit) (fun _ => [(1, .pointer (some ⟨b1, 0, none⟩)), (2, .pointer (some ⟨b2, 0, none⟩)), (3, .pointer (some ⟨b3, 0, none⟩))]) (fun _ => [blkR b1 45 r.cells, blkR b2 37 Sm.zero.cells, blkR b3 37 ({ O with oc := List.replicate 8 0 } : Sm).cells]) (fun _ => True) ?_ ?_
    · refine WC.seq ?_
      refine WC.region ?_
      refine WL.y (Yl.field fo45_5 rfl) rfl ?_
      refine WL.y (Yl.load on34 rfl (by repeat constructor) (Rc.c20 h)) rfl ?_
      refine WL.y (Yl.neq rfl rfl) rfl ?_
      refine WL.nil ?_
      refine WC.condD rfl (fun g15 => ?_) (fun g15 => ?_)
      · refine WC.seq ?_
        refine WC.region ?_
        refine WL.y (Yl.field fo37_2 rfl) rfl ?_
        refine WL.sto (Sto.oneS sz34 rfl rfl (by repeat constructor) rfl (by rw [Sm.cells_len rfl]; omega) (Sm.s2 _ _)) (fun _ h => nomatch h) ?_
        refine WL.nil ?_
        refine WC.seq ?_
        refine WC.region ?_
        refine WL.y (Yl.field fo45_6 rfl) rfl ?_
        refine WL.y (Yl.load on34 rfl (by repeat constructor) (Rc.c21 h)) rfl ?_
        refine WL.y (Yl.field fo45_5 rfl) rfl ?_
        refine WL.y (Yl.load on34 rfl (by repeat constructor) (Rc.c20 h)) rfl ?_
        refine WL.y (Yl.max2 rfl rfl) rfl ?_
        refine WL.say (t := 21) (v' := .int .u64 (max r.en r.an)) rfl (by (refine congrArg _ ?_; split <;> omega)) ?_
        refine WL.y (Yl.field fo45_5 rfl) rfl ?_
        refine WL.y (Yl.load on34 rfl (by repeat constructor) (Rc.c20 h)) rfl ?_
        refine WL.y (Yl.sub (r := tookF r) rfl rfl (u64_in _ (by omega))) rfl ?_
        refine WL.y (Yl.field fo37_4 rfl) rfl ?_
        refine WL.sto (Sto.oneS sz34 rfl rfl (by repeat constructor) rfl (by rw [Sm.cells_len rfl]; omega) (Sm.s11 rfl _)) (fun _ h => nomatch h) ?_
        refine WL.nil ?_
        refine WC.region ?_
        refine WL.y (Yl.field fo37_4 rfl) rfl ?_
        refine WL.y (Yl.load on34 rfl (by repeat constructor) (Sm.g11 rfl)) rfl ?_
        refine WL.y (Yl.field fo37_5 rfl) rfl ?_
        refine WL.sto (Sto.oneS sz34 rfl rfl (by repeat constructor) rfl (by rw [Sm.cells_len rfl]; omega) (Sm.s12 rfl _)) (fun _ h => nomatch h) ?_
        refine WL.nil ?_
        have e : ({ O with oc := List.replicate 8 0 } : Sm) = ⟨1, if r.out then 1 else 0, 1, List.replicate 8 0, tookF r, tookF r, r.bg, r.en⟩ := by
          rw [← hOe]; unfold oneS; dsimp only; rw [if_neg g15, if_neg g15]
        rw [e]
        exact ⟨rfl, (), trivial, (by repeat' constructor), _, (by repeat' constructor)⟩
      · refine WC.skip ?_
        have g15' : r.an = 0 := by simpa using g15
        have e : ({ O with oc := List.replicate 8 0 } : Sm) = ⟨1, if r.out then 1 else 0, 0, List.replicate 8 0, 0, 0, r.bg, r.en⟩ := by
          rw [← hOe]; unfold oneS; dsimp only; rw [if_pos g15', if_pos g15']
        rw [e]
        exact ⟨rfl, (), trivial, (by repeat' constructor), _, (by repeat' constructor)⟩
    · rintro ⟨⟩ -
      refine WC.seq ?_
      refine WC.region ?_
      refine WL.y (Yl.field fo45_3 rfl) rfl ?_
      refine WL.y (Yl.load on5 rfl (by repeat constructor) (Rc.c18 h)) rfl ?_
      refine WL.y (Yl.assign rfl) rfl ?_
      refine WL.nil ?_
      refine WC.midX (α := Unit) (fun _ => [(1, .pointer (some ⟨b1, 0, none⟩)), (2, .pointer (some ⟨b2, 0, none⟩)), (3, .pointer (some ⟨b3, 0, none⟩)), (4, .int .u8 (ocF r : Int))]) (fun _ => [blkR b1 45 r.cells, blkR b2 37 Sm.zero.cells, blkR b3 37 ({ O with oc := List.replicate 8 0 } : Sm).cells]) (fun _ => True) ?_ ?_
      · refine WC.seq ?_
        refine WC.region ?_
        refine WL.y (Yl.move rfl) rfl ?_
        refine WL.y (Yl.conv un5 un3 rfl (IntWalk.i64_in _ (by omega))) rfl ?_
        refine WL.y (Yl.geq rfl rfl) rfl ?_
        refine WL.nil ?_
        refine WC.condD rfl (fun g33 => ?_) (fun g33 => ?_)
        · refine WC.region ?_
          refine WL.y (Yl.assign rfl) rfl ?_
          refine WL.nil ?_
          have e : ocF r = 0 := by unfold ocF; rw [if_pos (by omega)]
          rw [e]
          exact ⟨rfl, (), trivial, (by repeat' constructor), _, (by repeat' constructor)⟩
        · refine WC.skip ?_
          have e : ((ocF r : Nat) : Int) = r.oc := by unfold ocF; rw [if_neg (by omega)]; omega
          rw [e]
          exact ⟨rfl, (), trivial, (by repeat' constructor), _, (by repeat' constructor)⟩
      · rintro ⟨⟩ -
        have hoF : ocF r < 8 := by unfold ocF; split <;> omega
        refine WC.seq ?_
        refine WC.region ?_
        refine WL.y (Yl.move rfl) rfl ?_
        refine WL.y (Yl.field fo37_3 rfl) rfl ?_
        refine WL.y (Yl.indexA un35 sz34 rfl rfl rfl (by omega)) rfl ?_
        refine WL.sto (Sto.oneS sz34 rfl rfl (by repeat constructor) rfl (by rw [Sm.cells_len rfl]; omega) (Sm.ocSet (i := ocF r) rfl hoF 1 (by omega))) (fun _ h => nomatch h) ?_
        refine WL.nil ?_
        refine WC.seq ?_
        have eO : ({ O with oc := (List.replicate 8 0).set (ocF r) 1 } : Sm) = O := by rw [← hOe]; rfl
        dsimp only
        rw [eO, hOe]
        have hol := hO.ol
        rw [hOe] at hol
        refine WC.region ?_
        refine WL.y (Yl.loadN ag37 rfl (by repeat constructor) (Nat.ble_eq_true_of_le (by rw [Sm.cells_len hol]; omega)) (Sm.call hol)) rfl ?_
        refine WL.sto (Sto.agg sz37 rfl rfl (by repeat constructor) (Sm.ones _) (Sm.cells_len hol) (by rfl) (putAll rfl)) (fun _ h => nomatch h) ?_
        refine WL.nil ?_
        refine WC.ret ?_
        repeat (with_reducible (first | refine peelT ?_ | refine peelB ?_ | refine peelTX ?_ | refine peelBX ?_ | refine peelBN ?_ | refine peelBO rfl ?_))
        exact retC1 (.inr rfl) Tryz.results47 ag37 rfl (by repeat constructor) (Sm.cells_len hol) fun w' h => ⟨(), trivial, rfl, h.sub (by repeat' constructor)⟩
theorem zip_step {a b : List Int} {i : Nat} (ha : a.length = 8) (hb : b.length = 8) (hi : i < 8) {x y : Int} (hx : a[i]? = some x) (hy : b[i]? = some y) :
    ((List.zipWith satF a b).take i ++ a.drop i).set i (satF x y) = (List.zipWith satF a b).take (i + 1) ++ a.drop (i + 1) := by
  have hl : (List.zipWith satF a b).length = 8 := by rw [List.length_zipWith]; omega
  have ht : ((List.zipWith satF a b).take i).length = i := by rw [List.length_take]; omega
  obtain ⟨h1, e1⟩ := List.getElem?_eq_some_iff.1 hx
  obtain ⟨h2, e2⟩ := List.getElem?_eq_some_iff.1 hy
  have hz : (List.zipWith satF a b)[i]? = some (satF x y) := by
    rw [List.getElem?_eq_getElem (by omega), List.getElem_zipWith, e1, e2]
  rw [List.set_append_right _ _ (by omega), ht, Nat.sub_self, List.drop_eq_getElem_cons h1, List.set_cons_zero]
  have e3 : (List.zipWith satF a b).take (i + 1) = (List.zipWith satF a b).take i ++ [satF x y] := by
    obtain ⟨h3, e4⟩ := List.getElem?_eq_some_iff.1 hz
    rw [List.take_add_one, hz]
    rfl
  rw [e3, List.append_assoc]
  rfl
theorem mapU_at {l : List Int} {i : Nat} {x : Int} (h : l[i]? = some x) : (ints .u64 l)[i]? = some (.int .u64 x) := by unfold ints; rw [List.getElem?_map, h]; rfl
set_option maxHeartbeats 1600000 in
set_option maxRecDepth 100000 in
theorem join_any (a b : Sm) (ha : a.ok) (hb : b.ok) (w : World) (hw : OK w (fpL []) [] w) : Fn Tryz.prog 16 [smV a, smV b] [] w (fun _ : Unit => True) (fun _ => smV (joinS a b)) (fun _ => []) := by
  have hal := ha.ol
  have hbl := hb.ol
  obtain ⟨J, hJ⟩ : ∃ J, joinS a b = J := ⟨_, rfl⟩
  have hJo := joinS_ok ha hb
  rw [hJ] at hJo ⊢
  have hJl := hJo.ol
  unfold smV
  refine enterF Tryz.func16 rfl Tryz.ntmps16 rfl hw ?_
  refine WC.seq ?_
  refine WC.region ?_
  refine WL.to (To.box (cs := a.cells) rfl rfl) rfl ?_
  intro b2
  refine WL.to (To.box (cs := b.cells) rfl rfl) rfl ?_
  intro b3
  refine WL.to (To.alloc (cs := Sm.zero.cells) zr37 rfl) rfl ?_
  intro b4
  refine WL.nil ?_
  refine WC.midX (α := Unit) (fun _ => [(2, .pointer (some ⟨b2, 0, none⟩)), (3, .pointer (some ⟨b3, 0, none⟩)), (4, .pointer (some ⟨b4, 0, none⟩))]) (fun _ => [blkR b2 37 ({ a with fi := J.fi, la := J.la } : Sm).cells, blkR b3 37 b.cells, blkR b4 37 Sm.zero.cells]) (fun _ => True) ?_ ?_
  · refine WC.block ?_
    refine WC.seq ?_
    refine WC.region ?_
    refine WL.y (Yl.field fo37_0 rfl) rfl ?_
    refine WL.y (Yl.load on34 rfl (by repeat constructor) (Sm.g0 a)) rfl ?_
    refine WL.y (Yl.eql rfl rfl) rfl ?_
    refine WL.y (Yl.assign rfl) rfl ?_
    refine WL.nil ?_
    refine WC.condD rfl (fun g7 => ?_) (fun g7 => ?_)
    · refine WC.drawAny (Hs := [blkR b3 37 b.cells]) mixed (by kernel_rfl) ⟨_, (by repeat' constructor)⟩ ?_
      refine WD.tk 0 rfl (by kernel_rfl) rfl rfl (Yl.field fo37_6 rfl) rfl ?_
      refine WD.tk 1 rfl (by kernel_rfl) rfl rfl (Yl.load on34 rfl (by repeat constructor) (Sm.g13 hbl)) rfl ?_
      refine WD.tk 2 rfl (by kernel_rfl) rfl rfl (Yl.field fo37_7 rfl) rfl ?_
      refine WD.tk 3 rfl (by kernel_rfl) rfl rfl (Yl.load on34 rfl (by repeat constructor) (Sm.g14 hbl)) rfl ?_
      refine WD.tk 4 rfl (by kernel_rfl) rfl rfl (Yl.field fo37_6 rfl) rfl ?_
      refine WD.one 5 (by kernel_rfl) ?_
      refine WO.sto rfl rfl .no (Sto.oneS sz34 rfl rfl (by repeat constructor) rfl (by rw [Sm.cells_len hal]; omega) (Sm.s13 hal _)) ⟨_, (by repeat' constructor)⟩ ?_
      refine WD.tk 6 rfl (by kernel_rfl) rfl rfl (Yl.field fo37_7 rfl) rfl ?_
      refine WD.one 7 (by kernel_rfl) ?_
      refine WO.sto rfl rfl .no (Sto.oneS sz34 rfl rfl (by repeat constructor) rfl (by rw [Sm.cells_len (by exact hal)]; omega) (Sm.s14 (by exact hal) _)) ⟨_, (by repeat' constructor)⟩ ?_
      refine WD.done (by kernel_rfl) ?_
      have e1 : J.fi = b.fi := by rw [← hJ]; exact if_pos g7
      have e2 : J.la = b.la := by rw [← hJ]; exact if_pos g7
      rw [e1, e2]
      exact ⟨rfl, (), trivial, (by repeat' constructor), _, (by repeat' constructor)⟩
    · refine WC.seq ?_
      refine WC.region ?_
      refine WL.y (Yl.field fo37_0 rfl) rfl ?_
      refine WL.y (Yl.load on34 rfl (by repeat constructor) (Sm.g0 b)) rfl ?_
      refine WL.y (Yl.gtr rfl rfl) rfl ?_
      refine WL.y (Yl.assign rfl) rfl ?_
      refine WL.nil ?_
      refine WC.condD rfl (fun g17 => ?_) (fun g17 => ?_)
      · refine WC.drawAny (Hs := [blkR b3 37 b.cells]) mixed (by kernel_rfl) ⟨_, (by repeat' constructor)⟩ ?_
        refine WD.tk 0 rfl (by kernel_rfl) rfl rfl (Yl.field fo37_6 rfl) rfl ?_
        refine WD.tk 2 rfl (by kernel_rfl) rfl rfl (Yl.field fo37_6 rfl) rfl ?_
        refine WD.tk 3 rfl (by kernel_rfl) rfl rfl (Yl.load on34 rfl (by repeat constructor) (Sm.g13 hbl)) rfl ?_
        refine WD.tk 5 rfl (by kernel_rfl) rfl rfl (Yl.field fo37_7 rfl) rfl ?_
        refine WD.tk 7 rfl (by kernel_rfl) rfl rfl (Yl.field fo37_7 rfl) rfl ?_
        refine WD.tk 8 rfl (by kernel_rfl) rfl rfl (Yl.load on34 rfl (by repeat constructor) (Sm.g14 hbl)) rfl ?_
        refine WD.two 1 6 (by kernel_rfl) ?_ ?_
        · refine WO.y rfl rfl .no (Yl.load on34 rfl (by repeat constructor) (Sm.g13 (by exact hal))) rfl ?_
          refine WD.tk 4 rfl (by kernel_rfl) rfl rfl (Yl.min2 rfl rfl) rfl ?_
          refine WD.say (t := 25) (v' := .int .u64 (min a.fi b.fi)) rfl (by (refine congrArg _ ?_; split <;> omega)) ?_
          refine WD.one 6 (by kernel_rfl) ?_
          refine WO.y rfl rfl .no (Yl.load on34 rfl (by repeat constructor) (Sm.g14 (by exact hal))) rfl ?_
          refine WD.tk 9 rfl (by kernel_rfl) rfl rfl (Yl.max2 rfl rfl) rfl ?_
          refine WD.say (t := 30) (v' := .int .u64 (max a.la b.la)) rfl (by (refine congrArg _ ?_; split <;> omega)) ?_
          refine WD.tk 10 rfl (by kernel_rfl) rfl rfl (Yl.field fo37_6 rfl) rfl ?_
          refine WD.one 11 (by kernel_rfl) ?_
          refine WO.sto rfl rfl .no (Sto.oneS sz34 rfl rfl (by repeat constructor) rfl (by rw [Sm.cells_len hal]; omega) (Sm.s13 hal _)) ⟨_, (by repeat' constructor)⟩ ?_
          refine WD.tk 12 rfl (by kernel_rfl) rfl rfl (Yl.field fo37_7 rfl) rfl ?_
          refine WD.one 13 (by kernel_rfl) ?_
          refine WO.sto rfl rfl .no (Sto.oneS sz34 rfl rfl (by repeat constructor) rfl (by rw [Sm.cells_len (by exact hal)]; omega) (Sm.s14 (by exact hal) _)) ⟨_, (by repeat' constructor)⟩ ?_
          refine WD.done (by kernel_rfl) ?_
          have e1 : J.fi = min a.fi b.fi := by rw [← hJ]; unfold joinS; dsimp only; rw [if_neg g7, if_pos (by omega)]
          have e2 : J.la = max a.la b.la := by rw [← hJ]; unfold joinS; dsimp only; rw [if_neg g7, if_pos (by omega)]
          rw [e1, e2]
          exact ⟨rfl, (), trivial, (by repeat' constructor), _, (by repeat' constructor)⟩
        · refine WO.y rfl rfl .no (Yl.load on34 rfl (by repeat constructor) (Sm.g14 (by exact hal))) rfl ?_
          refine WD.tk 9 rfl (by kernel_rfl) rfl rfl (Yl.max2 rfl rfl) rfl ?_
          refine WD.say (t := 30) (v' := .int .u64 (max a.la b.la)) rfl (by (refine congrArg _ ?_; split <;> omega)) ?_
          refine WD.one 1 (by kernel_rfl) ?_
          refine WO.y rfl rfl .no (Yl.load on34 rfl (by repeat constructor) (Sm.g13 (by exact hal))) rfl ?_
          refine WD.tk 4 rfl (by kernel_rfl) rfl rfl (Yl.min2 rfl rfl) rfl ?_
          refine WD.say (t := 25) (v' := .int .u64 (min a.fi b.fi)) rfl (by (refine congrArg _ ?_; split <;> omega)) ?_
          refine WD.tk 10 rfl (by kernel_rfl) rfl rfl (Yl.field fo37_6 rfl) rfl ?_
          refine WD.one 11 (by kernel_rfl) ?_
          refine WO.sto rfl rfl .no (Sto.oneS sz34 rfl rfl (by repeat constructor) rfl (by rw [Sm.cells_len hal]; omega) (Sm.s13 hal _)) ⟨_, (by repeat' constructor)⟩ ?_
          refine WD.tk 12 rfl (by kernel_rfl) rfl rfl (Yl.field fo37_7 rfl) rfl ?_
          refine WD.one 13 (by kernel_rfl) ?_
          refine WO.sto rfl rfl .no (Sto.oneS sz34 rfl rfl (by repeat constructor) rfl (by rw [Sm.cells_len (by exact hal)]; omega) (Sm.s14 (by exact hal) _)) ⟨_, (by repeat' constructor)⟩ ?_
          refine WD.done (by kernel_rfl) ?_
          have e1 : J.fi = min a.fi b.fi := by rw [← hJ]; unfold joinS; dsimp only; rw [if_neg g7, if_pos (by omega)]
          have e2 : J.la = max a.la b.la := by rw [← hJ]; unfold joinS; dsimp only; rw [if_neg g7, if_pos (by omega)]
          rw [e1, e2]
          exact ⟨rfl, (), trivial, (by repeat' constructor), _, (by repeat' constructor)⟩
      · refine WC.skip ?_
        have e1 : J.fi = a.fi := by rw [← hJ]; unfold joinS; dsimp only; rw [if_neg g7, if_neg (by omega)]
        have e2 : J.la = a.la := by rw [← hJ]; unfold joinS; dsimp only; rw [if_neg g7, if_neg (by omega)]
        rw [e1, e2]
        exact ⟨rfl, (), trivial, (by repeat' constructor), _, (by repeat' constructor)⟩
  · rintro ⟨⟩ -
    have jn : J.n = satF a.n b.n := by rw [← hJ]; rfl
    have jo : J.o = satF a.o b.o := by rw [← hJ]; rfl
    have jt : J.t = satF a.t b.t := by rw [← hJ]; rfl
    have jc : J.oc = List.zipWith satF a.oc b.oc := by rw [← hJ]; rfl
    have jk : J.tk = satF a.tk b.tk := by rw [← hJ]; rfl
    have jl : J.lg = max a.lg b.lg := by rw [← hJ]; rfl
    refine WC.midX (α := Unit) (fun _ => [(2, .pointer (some ⟨b2, 0, none⟩)), (3, .pointer (some ⟨b3, 0, none⟩)), (4, .pointer (some ⟨b4, 0, none⟩))]) (fun _ => [blkR b2 37 (({ a with fi := J.fi, la := J.la, n := J.n, o := J.o, t := J.t } : Sm)).cells, blkR b3 37 b.cells, blkR b4 37 Sm.zero.cells]) (fun _ => True) ?_ ?_
    · refine WC.drawAny (Hs := [blkR b3 37 b.cells]) mixed (by kernel_rfl) ⟨_, (by repeat' constructor)⟩ ?_
      refine WD.tk 0 rfl (by kernel_rfl) rfl rfl (Yl.field fo37_0 rfl) rfl ?_
      refine WD.tk 2 rfl (by kernel_rfl) rfl rfl (Yl.field fo37_0 rfl) rfl ?_
      refine WD.tk 3 rfl (by kernel_rfl) rfl rfl (Yl.load on34 rfl (by repeat constructor) (Sm.g0 _)) rfl ?_
      refine WD.tk 5 rfl (by kernel_rfl) rfl rfl (Yl.field fo37_1 rfl) rfl ?_
      refine WD.tk 7 rfl (by kernel_rfl) rfl rfl (Yl.field fo37_1 rfl) rfl ?_
      refine WD.tk 8 rfl (by kernel_rfl) rfl rfl (Yl.load on34 rfl (by repeat constructor) (Sm.g1 _)) rfl ?_
      refine WD.tk 10 rfl (by kernel_rfl) rfl rfl (Yl.field fo37_2 rfl) rfl ?_
      refine WD.tk 12 rfl (by kernel_rfl) rfl rfl (Yl.field fo37_2 rfl) rfl ?_
      refine WD.tk 13 rfl (by kernel_rfl) rfl rfl (Yl.load on34 rfl (by repeat constructor) (Sm.g2 _)) rfl ?_
      refine WD.three 1 6 11 (by kernel_rfl) ?_ ?_ ?_
      · refine WO.y rfl rfl .no (Yl.load on34 rfl (by repeat constructor) (Sm.g0 _)) rfl ?_
        refine WD.three 4 6 11 (by kernel_rfl) ?_ ?_ ?_
        · refine WO.callC (xs := [.tmp 34, .tmp 36]) (cap := []) rfl .no rfl rfl en50 (by repeat' constructor) (fun w hw => plus_any a.n b.n ha.n hb.n w hw.left.here) rfl (fun _ => ⟨_, (by repeat' constructor)⟩) ?_
          rintro ⟨⟩ -
          refine WD.two 6 11 (by kernel_rfl) ?_ ?_
          · refine WO.y rfl rfl .no (Yl.load on34 rfl (by repeat constructor) (Sm.g1 _)) rfl ?_
            refine WD.two 9 11 (by kernel_rfl) ?_ ?_
            · refine WO.callC (xs := [.tmp 39, .tmp 41]) (cap := []) rfl .no rfl rfl en50 (by repeat' constructor) (fun w hw => plus_any a.o b.o ha.o hb.o w hw.left.here) rfl (fun _ => ⟨_, (by repeat' constructor)⟩) ?_
              rintro ⟨⟩ -
              refine WD.one 11 (by kernel_rfl) ?_
              refine WO.y rfl rfl .no (Yl.load on34 rfl (by repeat constructor) (Sm.g2 _)) rfl ?_
              refine WD.tk 15 rfl (by kernel_rfl) rfl rfl (Yl.field fo37_0 rfl) rfl ?_
              refine WD.one 14 (by kernel_rfl) ?_
              refine WO.callC (xs := [.tmp 44, .tmp 46]) (cap := []) rfl .no rfl rfl en50 (by repeat' constructor) (fun w hw => plus_any a.t b.t ha.t hb.t w hw.left.here) rfl (fun _ => ⟨_, (by repeat' constructor)⟩) ?_
              rintro ⟨⟩ -
              refine WD.one 16 (by kernel_rfl) ?_
              refine WO.sto rfl rfl .no (Sto.oneS sz34 rfl rfl (by repeat constructor) rfl (by rw [Sm.cells_len (by exact hal)]; omega) (Sm.s0 _ _)) ⟨_, (by repeat' constructor)⟩ ?_
              refine WD.tk 17 rfl (by kernel_rfl) rfl rfl (Yl.field fo37_1 rfl) rfl ?_
              refine WD.one 18 (by kernel_rfl) ?_
              refine WO.sto rfl rfl .no (Sto.oneS sz34 rfl rfl (by repeat constructor) rfl (by rw [Sm.cells_len (by exact hal)]; omega) (Sm.s1 _ _)) ⟨_, (by repeat' constructor)⟩ ?_
              refine WD.tk 19 rfl (by kernel_rfl) rfl rfl (Yl.field fo37_2 rfl) rfl ?_
              refine WD.one 20 (by kernel_rfl) ?_
              refine WO.sto rfl rfl .no (Sto.oneS sz34 rfl rfl (by repeat constructor) rfl (by rw [Sm.cells_len (by exact hal)]; omega) (Sm.s2 _ _)) ⟨_, (by repeat' constructor)⟩ ?_
              refine WD.done (by kernel_rfl) ?_
              rw [jn, jo, jt]
              exact ⟨rfl, (), trivial, (by repeat' constructor), _, (by repeat' constructor)⟩
            · refine WO.y rfl rfl .no (Yl.load on34 rfl (by repeat constructor) (Sm.g2 _)) rfl ?_
              refine WD.tk 15 rfl (by kernel_rfl) rfl rfl (Yl.field fo37_0 rfl) rfl ?_
              refine WD.one 9 (by kernel_rfl) ?_
              refine WO.callC (xs := [.tmp 39, .tmp 41]) (cap := []) rfl .no rfl rfl en50 (by repeat' constructor) (fun w hw => plus_any a.o b.o ha.o hb.o w hw.left.here) rfl (fun _ => ⟨_, (by repeat' constructor)⟩) ?_
              rintro ⟨⟩ -
              refine WD.one 14 (by kernel_rfl) ?_
              refine WO.callC (xs := [.tmp 44, .tmp 46]) (cap := []) rfl .no rfl rfl en50 (by repeat' constructor) (fun w hw => plus_any a.t b.t ha.t hb.t w hw.left.here) rfl (fun _ => ⟨_, (by repeat' constructor)⟩) ?_
              rintro ⟨⟩ -
              refine WD.one 16 (by kernel_rfl) ?_
              refine WO.sto rfl rfl .no (Sto.oneS sz34 rfl rfl (by repeat constructor) rfl (by rw [Sm.cells_len (by exact hal)]; omega) (Sm.s0 _ _)) ⟨_, (by repeat' constructor)⟩ ?_
              refine WD.tk 17 rfl (by kernel_rfl) rfl rfl (Yl.field fo37_1 rfl) rfl ?_
              refine WD.one 18 (by kernel_rfl) ?_
              refine WO.sto rfl rfl .no (Sto.oneS sz34 rfl rfl (by repeat constructor) rfl (by rw [Sm.cells_len (by exact hal)]; omega) (Sm.s1 _ _)) ⟨_, (by repeat' constructor)⟩ ?_
              refine WD.tk 19 rfl (by kernel_rfl) rfl rfl (Yl.field fo37_2 rfl) rfl ?_
              refine WD.one 20 (by kernel_rfl) ?_
              refine WO.sto rfl rfl .no (Sto.oneS sz34 rfl rfl (by repeat constructor) rfl (by rw [Sm.cells_len (by exact hal)]; omega) (Sm.s2 _ _)) ⟨_, (by repeat' constructor)⟩ ?_
              refine WD.done (by kernel_rfl) ?_
              rw [jn, jo, jt]
              exact ⟨rfl, (), trivial, (by repeat' constructor), _, (by repeat' constructor)⟩
          · refine WO.y rfl rfl .no (Yl.load on34 rfl (by repeat constructor) (Sm.g2 _)) rfl ?_
            refine WD.one 6 (by kernel_rfl) ?_
            refine WO.y rfl rfl .no (Yl.load on34 rfl (by repeat constructor) (Sm.g1 _)) rfl ?_
            refine WD.tk 15 rfl (by kernel_rfl) rfl rfl (Yl.field fo37_0 rfl) rfl ?_
            refine WD.one 9 (by kernel_rfl) ?_
            refine WO.callC (xs := [.tmp 39, .tmp 41]) (cap := []) rfl .no rfl rfl en50 (by repeat' constructor) (fun w hw => plus_any a.o b.o ha.o hb.o w hw.left.here) rfl (fun _ => ⟨_, (by repeat' constructor)⟩) ?_
            rintro ⟨⟩ -
            refine WD.one 14 (by kernel_rfl) ?_
            refine WO.callC (xs := [.tmp 44, .tmp 46]) (cap := []) rfl .no rfl rfl en50 (by repeat' constructor) (fun w hw => plus_any a.t b.t ha.t hb.t w hw.left.here) rfl (fun _ => ⟨_, (by repeat' constructor)⟩) ?_
            rintro ⟨⟩ -
            refine WD.one 16 (by kernel_rfl) ?_
            refine WO.sto rfl rfl .no (Sto.oneS sz34 rfl rfl (by repeat constructor) rfl (by rw [Sm.cells_len (by exact hal)]; omega) (Sm.s0 _ _)) ⟨_, (by repeat' constructor)⟩ ?_
            refine WD.tk 17 rfl (by kernel_rfl) rfl rfl (Yl.field fo37_1 rfl) rfl ?_
            refine WD.one 18 (by kernel_rfl) ?_
            refine WO.sto rfl rfl .no (Sto.oneS sz34 rfl rfl (by repeat constructor) rfl (by rw [Sm.cells_len (by exact hal)]; omega) (Sm.s1 _ _)) ⟨_, (by repeat' constructor)⟩ ?_
            refine WD.tk 19 rfl (by kernel_rfl) rfl rfl (Yl.field fo37_2 rfl) rfl ?_
            refine WD.one 20 (by kernel_rfl) ?_
            refine WO.sto rfl rfl .no (Sto.oneS sz34 rfl rfl (by repeat constructor) rfl (by rw [Sm.cells_len (by exact hal)]; omega) (Sm.s2 _ _)) ⟨_, (by repeat' constructor)⟩ ?_
            refine WD.done (by kernel_rfl) ?_
            rw [jn, jo, jt]
            exact ⟨rfl, (), trivial, (by repeat' constructor), _, (by repeat' constructor)⟩
        · refine WO.y rfl rfl .no (Yl.load on34 rfl (by repeat constructor) (Sm.g1 _)) rfl ?_
          refine WD.two 4 11 (by kernel_rfl) ?_ ?_
          · refine WO.callC (xs := [.tmp 34, .tmp 36]) (cap := []) rfl .no rfl rfl en50 (by repeat' constructor) (fun w hw => plus_any a.n b.n ha.n hb.n w hw.left.here) rfl (fun _ => ⟨_, (by repeat' constructor)⟩) ?_
            rintro ⟨⟩ -
            refine WD.two 9 11 (by kernel_rfl) ?_ ?_
            · refine WO.callC (xs := [.tmp 39, .tmp 41]) (cap := []) rfl .no rfl rfl en50 (by repeat' constructor) (fun w hw => plus_any a.o b.o ha.o hb.o w hw.left.here) rfl (fun _ => ⟨_, (by repeat' constructor)⟩) ?_
              rintro ⟨⟩ -
              refine WD.one 11 (by kernel_rfl) ?_
              refine WO.y rfl rfl .no (Yl.load on34 rfl (by repeat constructor) (Sm.g2 _)) rfl ?_
              refine WD.tk 15 rfl (by kernel_rfl) rfl rfl (Yl.field fo37_0 rfl) rfl ?_
              refine WD.one 14 (by kernel_rfl) ?_
              refine WO.callC (xs := [.tmp 44, .tmp 46]) (cap := []) rfl .no rfl rfl en50 (by repeat' constructor) (fun w hw => plus_any a.t b.t ha.t hb.t w hw.left.here) rfl (fun _ => ⟨_, (by repeat' constructor)⟩) ?_
              rintro ⟨⟩ -
              refine WD.one 16 (by kernel_rfl) ?_
              refine WO.sto rfl rfl .no (Sto.oneS sz34 rfl rfl (by repeat constructor) rfl (by rw [Sm.cells_len (by exact hal)]; omega) (Sm.s0 _ _)) ⟨_, (by repeat' constructor)⟩ ?_
              refine WD.tk 17 rfl (by kernel_rfl) rfl rfl (Yl.field fo37_1 rfl) rfl ?_
              refine WD.one 18 (by kernel_rfl) ?_
              refine WO.sto rfl rfl .no (Sto.oneS sz34 rfl rfl (by repeat constructor) rfl (by rw [Sm.cells_len (by exact hal)]; omega) (Sm.s1 _ _)) ⟨_, (by repeat' constructor)⟩ ?_
              refine WD.tk 19 rfl (by kernel_rfl) rfl rfl (Yl.field fo37_2 rfl) rfl ?_
              refine WD.one 20 (by kernel_rfl) ?_
              refine WO.sto rfl rfl .no (Sto.oneS sz34 rfl rfl (by repeat constructor) rfl (by rw [Sm.cells_len (by exact hal)]; omega) (Sm.s2 _ _)) ⟨_, (by repeat' constructor)⟩ ?_
              refine WD.done (by kernel_rfl) ?_
              rw [jn, jo, jt]
              exact ⟨rfl, (), trivial, (by repeat' constructor), _, (by repeat' constructor)⟩
            · refine WO.y rfl rfl .no (Yl.load on34 rfl (by repeat constructor) (Sm.g2 _)) rfl ?_
              refine WD.tk 15 rfl (by kernel_rfl) rfl rfl (Yl.field fo37_0 rfl) rfl ?_
              refine WD.one 9 (by kernel_rfl) ?_
              refine WO.callC (xs := [.tmp 39, .tmp 41]) (cap := []) rfl .no rfl rfl en50 (by repeat' constructor) (fun w hw => plus_any a.o b.o ha.o hb.o w hw.left.here) rfl (fun _ => ⟨_, (by repeat' constructor)⟩) ?_
              rintro ⟨⟩ -
              refine WD.one 14 (by kernel_rfl) ?_
              refine WO.callC (xs := [.tmp 44, .tmp 46]) (cap := []) rfl .no rfl rfl en50 (by repeat' constructor) (fun w hw => plus_any a.t b.t ha.t hb.t w hw.left.here) rfl (fun _ => ⟨_, (by repeat' constructor)⟩) ?_
              rintro ⟨⟩ -
              refine WD.one 16 (by kernel_rfl) ?_
              refine WO.sto rfl rfl .no (Sto.oneS sz34 rfl rfl (by repeat constructor) rfl (by rw [Sm.cells_len (by exact hal)]; omega) (Sm.s0 _ _)) ⟨_, (by repeat' constructor)⟩ ?_
              refine WD.tk 17 rfl (by kernel_rfl) rfl rfl (Yl.field fo37_1 rfl) rfl ?_
              refine WD.one 18 (by kernel_rfl) ?_
              refine WO.sto rfl rfl .no (Sto.oneS sz34 rfl rfl (by repeat constructor) rfl (by rw [Sm.cells_len (by exact hal)]; omega) (Sm.s1 _ _)) ⟨_, (by repeat' constructor)⟩ ?_
              refine WD.tk 19 rfl (by kernel_rfl) rfl rfl (Yl.field fo37_2 rfl) rfl ?_
              refine WD.one 20 (by kernel_rfl) ?_
              refine WO.sto rfl rfl .no (Sto.oneS sz34 rfl rfl (by repeat constructor) rfl (by rw [Sm.cells_len (by exact hal)]; omega) (Sm.s2 _ _)) ⟨_, (by repeat' constructor)⟩ ?_
              refine WD.done (by kernel_rfl) ?_
              rw [jn, jo, jt]
              exact ⟨rfl, (), trivial, (by repeat' constructor), _, (by repeat' constructor)⟩
          · refine WO.y rfl rfl .no (Yl.load on34 rfl (by repeat constructor) (Sm.g2 _)) rfl ?_
            refine WD.one 4 (by kernel_rfl) ?_
            refine WO.callC (xs := [.tmp 34, .tmp 36]) (cap := []) rfl .no rfl rfl en50 (by repeat' constructor) (fun w hw => plus_any a.n b.n ha.n hb.n w hw.left.here) rfl (fun _ => ⟨_, (by repeat' constructor)⟩) ?_
            rintro ⟨⟩ -
            refine WD.tk 15 rfl (by kernel_rfl) rfl rfl (Yl.field fo37_0 rfl) rfl ?_
            refine WD.one 9 (by kernel_rfl) ?_
            refine WO.callC (xs := [.tmp 39, .tmp 41]) (cap := []) rfl .no rfl rfl en50 (by repeat' constructor) (fun w hw => plus_any a.o b.o ha.o hb.o w hw.left.here) rfl (fun _ => ⟨_, (by repeat' constructor)⟩) ?_
            rintro ⟨⟩ -
            refine WD.one 14 (by kernel_rfl) ?_
            refine WO.callC (xs := [.tmp 44, .tmp 46]) (cap := []) rfl .no rfl rfl en50 (by repeat' constructor) (fun w hw => plus_any a.t b.t ha.t hb.t w hw.left.here) rfl (fun _ => ⟨_, (by repeat' constructor)⟩) ?_
            rintro ⟨⟩ -
            refine WD.one 16 (by kernel_rfl) ?_
            refine WO.sto rfl rfl .no (Sto.oneS sz34 rfl rfl (by repeat constructor) rfl (by rw [Sm.cells_len (by exact hal)]; omega) (Sm.s0 _ _)) ⟨_, (by repeat' constructor)⟩ ?_
            refine WD.tk 17 rfl (by kernel_rfl) rfl rfl (Yl.field fo37_1 rfl) rfl ?_
            refine WD.one 18 (by kernel_rfl) ?_
            refine WO.sto rfl rfl .no (Sto.oneS sz34 rfl rfl (by repeat constructor) rfl (by rw [Sm.cells_len (by exact hal)]; omega) (Sm.s1 _ _)) ⟨_, (by repeat' constructor)⟩ ?_
            refine WD.tk 19 rfl (by kernel_rfl) rfl rfl (Yl.field fo37_2 rfl) rfl ?_
            refine WD.one 20 (by kernel_rfl) ?_
            refine WO.sto rfl rfl .no (Sto.oneS sz34 rfl rfl (by repeat constructor) rfl (by rw [Sm.cells_len (by exact hal)]; omega) (Sm.s2 _ _)) ⟨_, (by repeat' constructor)⟩ ?_
            refine WD.done (by kernel_rfl) ?_
            rw [jn, jo, jt]
            exact ⟨rfl, (), trivial, (by repeat' constructor), _, (by repeat' constructor)⟩
        · refine WO.y rfl rfl .no (Yl.load on34 rfl (by repeat constructor) (Sm.g2 _)) rfl ?_
          refine WD.two 4 6 (by kernel_rfl) ?_ ?_
          · refine WO.callC (xs := [.tmp 34, .tmp 36]) (cap := []) rfl .no rfl rfl en50 (by repeat' constructor) (fun w hw => plus_any a.n b.n ha.n hb.n w hw.left.here) rfl (fun _ => ⟨_, (by repeat' constructor)⟩) ?_
            rintro ⟨⟩ -
            refine WD.one 6 (by kernel_rfl) ?_
            refine WO.y rfl rfl .no (Yl.load on34 rfl (by repeat constructor) (Sm.g1 _)) rfl ?_
            refine WD.tk 15 rfl (by kernel_rfl) rfl rfl (Yl.field fo37_0 rfl) rfl ?_
            refine WD.one 9 (by kernel_rfl) ?_
            refine WO.callC (xs := [.tmp 39, .tmp 41]) (cap := []) rfl .no rfl rfl en50 (by repeat' constructor) (fun w hw => plus_any a.o b.o ha.o hb.o w hw.left.here) rfl (fun _ => ⟨_, (by repeat' constructor)⟩) ?_
            rintro ⟨⟩ -
            refine WD.one 14 (by kernel_rfl) ?_
            refine WO.callC (xs := [.tmp 44, .tmp 46]) (cap := []) rfl .no rfl rfl en50 (by repeat' constructor) (fun w hw => plus_any a.t b.t ha.t hb.t w hw.left.here) rfl (fun _ => ⟨_, (by repeat' constructor)⟩) ?_
            rintro ⟨⟩ -
            refine WD.one 16 (by kernel_rfl) ?_
            refine WO.sto rfl rfl .no (Sto.oneS sz34 rfl rfl (by repeat constructor) rfl (by rw [Sm.cells_len (by exact hal)]; omega) (Sm.s0 _ _)) ⟨_, (by repeat' constructor)⟩ ?_
            refine WD.tk 17 rfl (by kernel_rfl) rfl rfl (Yl.field fo37_1 rfl) rfl ?_
            refine WD.one 18 (by kernel_rfl) ?_
            refine WO.sto rfl rfl .no (Sto.oneS sz34 rfl rfl (by repeat constructor) rfl (by rw [Sm.cells_len (by exact hal)]; omega) (Sm.s1 _ _)) ⟨_, (by repeat' constructor)⟩ ?_
            refine WD.tk 19 rfl (by kernel_rfl) rfl rfl (Yl.field fo37_2 rfl) rfl ?_
            refine WD.one 20 (by kernel_rfl) ?_
            refine WO.sto rfl rfl .no (Sto.oneS sz34 rfl rfl (by repeat constructor) rfl (by rw [Sm.cells_len (by exact hal)]; omega) (Sm.s2 _ _)) ⟨_, (by repeat' constructor)⟩ ?_
            refine WD.done (by kernel_rfl) ?_
            rw [jn, jo, jt]
            exact ⟨rfl, (), trivial, (by repeat' constructor), _, (by repeat' constructor)⟩
          · refine WO.y rfl rfl .no (Yl.load on34 rfl (by repeat constructor) (Sm.g1 _)) rfl ?_
            refine WD.one 4 (by kernel_rfl) ?_
            refine WO.callC (xs := [.tmp 34, .tmp 36]) (cap := []) rfl .no rfl rfl en50 (by repeat' constructor) (fun w hw => plus_any a.n b.n ha.n hb.n w hw.left.here) rfl (fun _ => ⟨_, (by repeat' constructor)⟩) ?_
            rintro ⟨⟩ -
            refine WD.tk 15 rfl (by kernel_rfl) rfl rfl (Yl.field fo37_0 rfl) rfl ?_
            refine WD.one 9 (by kernel_rfl) ?_
            refine WO.callC (xs := [.tmp 39, .tmp 41]) (cap := []) rfl .no rfl rfl en50 (by repeat' constructor) (fun w hw => plus_any a.o b.o ha.o hb.o w hw.left.here) rfl (fun _ => ⟨_, (by repeat' constructor)⟩) ?_
            rintro ⟨⟩ -
            refine WD.one 14 (by kernel_rfl) ?_
            refine WO.callC (xs := [.tmp 44, .tmp 46]) (cap := []) rfl .no rfl rfl en50 (by repeat' constructor) (fun w hw => plus_any a.t b.t ha.t hb.t w hw.left.here) rfl (fun _ => ⟨_, (by repeat' constructor)⟩) ?_
            rintro ⟨⟩ -
            refine WD.one 16 (by kernel_rfl) ?_
            refine WO.sto rfl rfl .no (Sto.oneS sz34 rfl rfl (by repeat constructor) rfl (by rw [Sm.cells_len (by exact hal)]; omega) (Sm.s0 _ _)) ⟨_, (by repeat' constructor)⟩ ?_
            refine WD.tk 17 rfl (by kernel_rfl) rfl rfl (Yl.field fo37_1 rfl) rfl ?_
            refine WD.one 18 (by kernel_rfl) ?_
            refine WO.sto rfl rfl .no (Sto.oneS sz34 rfl rfl (by repeat constructor) rfl (by rw [Sm.cells_len (by exact hal)]; omega) (Sm.s1 _ _)) ⟨_, (by repeat' constructor)⟩ ?_
            refine WD.tk 19 rfl (by kernel_rfl) rfl rfl (Yl.field fo37_2 rfl) rfl ?_
            refine WD.one 20 (by kernel_rfl) ?_
            refine WO.sto rfl rfl .no (Sto.oneS sz34 rfl rfl (by repeat constructor) rfl (by rw [Sm.cells_len (by exact hal)]; omega) (Sm.s2 _ _)) ⟨_, (by repeat' constructor)⟩ ?_
            refine WD.done (by kernel_rfl) ?_
            rw [jn, jo, jt]
            exact ⟨rfl, (), trivial, (by repeat' constructor), _, (by repeat' constructor)⟩
      · refine WO.y rfl rfl .no (Yl.load on34 rfl (by repeat constructor) (Sm.g1 _)) rfl ?_
        refine WD.two 1 11 (by kernel_rfl) ?_ ?_
        · refine WO.y rfl rfl .no (Yl.load on34 rfl (by repeat constructor) (Sm.g0 _)) rfl ?_
          refine WD.two 4 11 (by kernel_rfl) ?_ ?_
          · refine WO.callC (xs := [.tmp 34, .tmp 36]) (cap := []) rfl .no rfl rfl en50 (by repeat' constructor) (fun w hw => plus_any a.n b.n ha.n hb.n w hw.left.here) rfl (fun _ => ⟨_, (by repeat' constructor)⟩) ?_
            rintro ⟨⟩ -
            refine WD.two 9 11 (by kernel_rfl) ?_ ?_
            · refine WO.callC (xs := [.tmp 39, .tmp 41]) (cap := []) rfl .no rfl rfl en50 (by repeat' constructor) (fun w hw => plus_any a.o b.o ha.o hb.o w hw.left.here) rfl (fun _ => ⟨_, (by repeat' constructor)⟩) ?_
              rintro ⟨⟩ -
              refine WD.one 11 (by kernel_rfl) ?_
              refine WO.y rfl rfl .no (Yl.load on34 rfl (by repeat constructor) (Sm.g2 _)) rfl ?_
              refine WD.tk 15 rfl (by kernel_rfl) rfl rfl (Yl.field fo37_0 rfl) rfl ?_
              refine WD.one 14 (by kernel_rfl) ?_
              refine WO.callC (xs := [.tmp 44, .tmp 46]) (cap := []) rfl .no rfl rfl en50 (by repeat' constructor) (fun w hw => plus_any a.t b.t ha.t hb.t w hw.left.here) rfl (fun _ => ⟨_, (by repeat' constructor)⟩) ?_
              rintro ⟨⟩ -
              refine WD.one 16 (by kernel_rfl) ?_
              refine WO.sto rfl rfl .no (Sto.oneS sz34 rfl rfl (by repeat constructor) rfl (by rw [Sm.cells_len (by exact hal)]; omega) (Sm.s0 _ _)) ⟨_, (by repeat' constructor)⟩ ?_
              refine WD.tk 17 rfl (by kernel_rfl) rfl rfl (Yl.field fo37_1 rfl) rfl ?_
              refine WD.one 18 (by kernel_rfl) ?_
              refine WO.sto rfl rfl .no (Sto.oneS sz34 rfl rfl (by repeat constructor) rfl (by rw [Sm.cells_len (by exact hal)]; omega) (Sm.s1 _ _)) ⟨_, (by repeat' constructor)⟩ ?_
              refine WD.tk 19 rfl (by kernel_rfl) rfl rfl (Yl.field fo37_2 rfl) rfl ?_
              refine WD.one 20 (by kernel_rfl) ?_
              refine WO.sto rfl rfl .no (Sto.oneS sz34 rfl rfl (by repeat constructor) rfl (by rw [Sm.cells_len (by exact hal)]; omega) (Sm.s2 _ _)) ⟨_, (by repeat' constructor)⟩ ?_
              refine WD.done (by kernel_rfl) ?_
              rw [jn, jo, jt]
              exact ⟨rfl, (), trivial, (by repeat' constructor), _, (by repeat' constructor)⟩
            · refine WO.y rfl rfl .no (Yl.load on34 rfl (by repeat constructor) (Sm.g2 _)) rfl ?_
              refine WD.tk 15 rfl (by kernel_rfl) rfl rfl (Yl.field fo37_0 rfl) rfl ?_
              refine WD.one 9 (by kernel_rfl) ?_
              refine WO.callC (xs := [.tmp 39, .tmp 41]) (cap := []) rfl .no rfl rfl en50 (by repeat' constructor) (fun w hw => plus_any a.o b.o ha.o hb.o w hw.left.here) rfl (fun _ => ⟨_, (by repeat' constructor)⟩) ?_
              rintro ⟨⟩ -
              refine WD.one 14 (by kernel_rfl) ?_
              refine WO.callC (xs := [.tmp 44, .tmp 46]) (cap := []) rfl .no rfl rfl en50 (by repeat' constructor) (fun w hw => plus_any a.t b.t ha.t hb.t w hw.left.here) rfl (fun _ => ⟨_, (by repeat' constructor)⟩) ?_
              rintro ⟨⟩ -
              refine WD.one 16 (by kernel_rfl) ?_
              refine WO.sto rfl rfl .no (Sto.oneS sz34 rfl rfl (by repeat constructor) rfl (by rw [Sm.cells_len (by exact hal)]; omega) (Sm.s0 _ _)) ⟨_, (by repeat' constructor)⟩ ?_
              refine WD.tk 17 rfl (by kernel_rfl) rfl rfl (Yl.field fo37_1 rfl) rfl ?_
              refine WD.one 18 (by kernel_rfl) ?_
              refine WO.sto rfl rfl .no (Sto.oneS sz34 rfl rfl (by repeat constructor) rfl (by rw [Sm.cells_len (by exact hal)]; omega) (Sm.s1 _ _)) ⟨_, (by repeat' constructor)⟩ ?_
              refine WD.tk 19 rfl (by kernel_rfl) rfl rfl (Yl.field fo37_2 rfl) rfl ?_
              refine WD.one 20 (by kernel_rfl) ?_
              refine WO.sto rfl rfl .no (Sto.oneS sz34 rfl rfl (by repeat constructor) rfl (by rw [Sm.cells_len (by exact hal)]; omega) (Sm.s2 _ _)) ⟨_, (by repeat' constructor)⟩ ?_
              refine WD.done (by kernel_rfl) ?_
              rw [jn, jo, jt]
              exact ⟨rfl, (), trivial, (by repeat' constructor), _, (by repeat' constructor)⟩
          · refine WO.y rfl rfl .no (Yl.load on34 rfl (by repeat constructor) (Sm.g2 _)) rfl ?_
            refine WD.one 4 (by kernel_rfl) ?_
            refine WO.callC (xs := [.tmp 34, .tmp 36]) (cap := []) rfl .no rfl rfl en50 (by repeat' constructor) (fun w hw => plus_any a.n b.n ha.n hb.n w hw.left.here) rfl (fun _ => ⟨_, (by repeat' constructor)⟩) ?_
            rintro ⟨⟩ -
            refine WD.tk 15 rfl (by kernel_rfl) rfl rfl (Yl.field fo37_0 rfl) rfl ?_
            refine WD.one 9 (by kernel_rfl) ?_
            refine WO.callC (xs := [.tmp 39, .tmp 41]) (cap := []) rfl .no rfl rfl en50 (by repeat' constructor) (fun w hw => plus_any a.o b.o ha.o hb.o w hw.left.here) rfl (fun _ => ⟨_, (by repeat' constructor)⟩) ?_
            rintro ⟨⟩ -
            refine WD.one 14 (by kernel_rfl) ?_
            refine WO.callC (xs := [.tmp 44, .tmp 46]) (cap := []) rfl .no rfl rfl en50 (by repeat' constructor) (fun w hw => plus_any a.t b.t ha.t hb.t w hw.left.here) rfl (fun _ => ⟨_, (by repeat' constructor)⟩) ?_
            rintro ⟨⟩ -
            refine WD.one 16 (by kernel_rfl) ?_
            refine WO.sto rfl rfl .no (Sto.oneS sz34 rfl rfl (by repeat constructor) rfl (by rw [Sm.cells_len (by exact hal)]; omega) (Sm.s0 _ _)) ⟨_, (by repeat' constructor)⟩ ?_
            refine WD.tk 17 rfl (by kernel_rfl) rfl rfl (Yl.field fo37_1 rfl) rfl ?_
            refine WD.one 18 (by kernel_rfl) ?_
            refine WO.sto rfl rfl .no (Sto.oneS sz34 rfl rfl (by repeat constructor) rfl (by rw [Sm.cells_len (by exact hal)]; omega) (Sm.s1 _ _)) ⟨_, (by repeat' constructor)⟩ ?_
            refine WD.tk 19 rfl (by kernel_rfl) rfl rfl (Yl.field fo37_2 rfl) rfl ?_
            refine WD.one 20 (by kernel_rfl) ?_
            refine WO.sto rfl rfl .no (Sto.oneS sz34 rfl rfl (by repeat constructor) rfl (by rw [Sm.cells_len (by exact hal)]; omega) (Sm.s2 _ _)) ⟨_, (by repeat' constructor)⟩ ?_
            refine WD.done (by kernel_rfl) ?_
            rw [jn, jo, jt]
            exact ⟨rfl, (), trivial, (by repeat' constructor), _, (by repeat' constructor)⟩
        · refine WO.y rfl rfl .no (Yl.load on34 rfl (by repeat constructor) (Sm.g2 _)) rfl ?_
          refine WD.one 1 (by kernel_rfl) ?_
          refine WO.y rfl rfl .no (Yl.load on34 rfl (by repeat constructor) (Sm.g0 _)) rfl ?_
          refine WD.one 4 (by kernel_rfl) ?_
          refine WO.callC (xs := [.tmp 34, .tmp 36]) (cap := []) rfl .no rfl rfl en50 (by repeat' constructor) (fun w hw => plus_any a.n b.n ha.n hb.n w hw.left.here) rfl (fun _ => ⟨_, (by repeat' constructor)⟩) ?_
          rintro ⟨⟩ -
          refine WD.tk 15 rfl (by kernel_rfl) rfl rfl (Yl.field fo37_0 rfl) rfl ?_
          refine WD.one 9 (by kernel_rfl) ?_
          refine WO.callC (xs := [.tmp 39, .tmp 41]) (cap := []) rfl .no rfl rfl en50 (by repeat' constructor) (fun w hw => plus_any a.o b.o ha.o hb.o w hw.left.here) rfl (fun _ => ⟨_, (by repeat' constructor)⟩) ?_
          rintro ⟨⟩ -
          refine WD.one 14 (by kernel_rfl) ?_
          refine WO.callC (xs := [.tmp 44, .tmp 46]) (cap := []) rfl .no rfl rfl en50 (by repeat' constructor) (fun w hw => plus_any a.t b.t ha.t hb.t w hw.left.here) rfl (fun _ => ⟨_, (by repeat' constructor)⟩) ?_
          rintro ⟨⟩ -
          refine WD.one 16 (by kernel_rfl) ?_
          refine WO.sto rfl rfl .no (Sto.oneS sz34 rfl rfl (by repeat constructor) rfl (by rw [Sm.cells_len (by exact hal)]; omega) (Sm.s0 _ _)) ⟨_, (by repeat' constructor)⟩ ?_
          refine WD.tk 17 rfl (by kernel_rfl) rfl rfl (Yl.field fo37_1 rfl) rfl ?_
          refine WD.one 18 (by kernel_rfl) ?_
          refine WO.sto rfl rfl .no (Sto.oneS sz34 rfl rfl (by repeat constructor) rfl (by rw [Sm.cells_len (by exact hal)]; omega) (Sm.s1 _ _)) ⟨_, (by repeat' constructor)⟩ ?_
          refine WD.tk 19 rfl (by kernel_rfl) rfl rfl (Yl.field fo37_2 rfl) rfl ?_
          refine WD.one 20 (by kernel_rfl) ?_
          refine WO.sto rfl rfl .no (Sto.oneS sz34 rfl rfl (by repeat constructor) rfl (by rw [Sm.cells_len (by exact hal)]; omega) (Sm.s2 _ _)) ⟨_, (by repeat' constructor)⟩ ?_
          refine WD.done (by kernel_rfl) ?_
          rw [jn, jo, jt]
          exact ⟨rfl, (), trivial, (by repeat' constructor), _, (by repeat' constructor)⟩
      · refine WO.y rfl rfl .no (Yl.load on34 rfl (by repeat constructor) (Sm.g2 _)) rfl ?_
        refine WD.two 1 6 (by kernel_rfl) ?_ ?_
        · refine WO.y rfl rfl .no (Yl.load on34 rfl (by repeat constructor) (Sm.g0 _)) rfl ?_
          refine WD.two 4 6 (by kernel_rfl) ?_ ?_
          · refine WO.callC (xs := [.tmp 34, .tmp 36]) (cap := []) rfl .no rfl rfl en50 (by repeat' constructor) (fun w hw => plus_any a.n b.n ha.n hb.n w hw.left.here) rfl (fun _ => ⟨_, (by repeat' constructor)⟩) ?_
            rintro ⟨⟩ -
            refine WD.one 6 (by kernel_rfl) ?_
            refine WO.y rfl rfl .no (Yl.load on34 rfl (by repeat constructor) (Sm.g1 _)) rfl ?_
            refine WD.tk 15 rfl (by kernel_rfl) rfl rfl (Yl.field fo37_0 rfl) rfl ?_
            refine WD.one 9 (by kernel_rfl) ?_
            refine WO.callC (xs := [.tmp 39, .tmp 41]) (cap := []) rfl .no rfl rfl en50 (by repeat' constructor) (fun w hw => plus_any a.o b.o ha.o hb.o w hw.left.here) rfl (fun _ => ⟨_, (by repeat' constructor)⟩) ?_
            rintro ⟨⟩ -
            refine WD.one 14 (by kernel_rfl) ?_
            refine WO.callC (xs := [.tmp 44, .tmp 46]) (cap := []) rfl .no rfl rfl en50 (by repeat' constructor) (fun w hw => plus_any a.t b.t ha.t hb.t w hw.left.here) rfl (fun _ => ⟨_, (by repeat' constructor)⟩) ?_
            rintro ⟨⟩ -
            refine WD.one 16 (by kernel_rfl) ?_
            refine WO.sto rfl rfl .no (Sto.oneS sz34 rfl rfl (by repeat constructor) rfl (by rw [Sm.cells_len (by exact hal)]; omega) (Sm.s0 _ _)) ⟨_, (by repeat' constructor)⟩ ?_
            refine WD.tk 17 rfl (by kernel_rfl) rfl rfl (Yl.field fo37_1 rfl) rfl ?_
            refine WD.one 18 (by kernel_rfl) ?_
            refine WO.sto rfl rfl .no (Sto.oneS sz34 rfl rfl (by repeat constructor) rfl (by rw [Sm.cells_len (by exact hal)]; omega) (Sm.s1 _ _)) ⟨_, (by repeat' constructor)⟩ ?_
            refine WD.tk 19 rfl (by kernel_rfl) rfl rfl (Yl.field fo37_2 rfl) rfl ?_
            refine WD.one 20 (by kernel_rfl) ?_
            refine WO.sto rfl rfl .no (Sto.oneS sz34 rfl rfl (by repeat constructor) rfl (by rw [Sm.cells_len (by exact hal)]; omega) (Sm.s2 _ _)) ⟨_, (by repeat' constructor)⟩ ?_
            refine WD.done (by kernel_rfl) ?_
            rw [jn, jo, jt]
            exact ⟨rfl, (), trivial, (by repeat' constructor), _, (by repeat' constructor)⟩
          · refine WO.y rfl rfl .no (Yl.load on34 rfl (by repeat constructor) (Sm.g1 _)) rfl ?_
            refine WD.one 4 (by kernel_rfl) ?_
            refine WO.callC (xs := [.tmp 34, .tmp 36]) (cap := []) rfl .no rfl rfl en50 (by repeat' constructor) (fun w hw => plus_any a.n b.n ha.n hb.n w hw.left.here) rfl (fun _ => ⟨_, (by repeat' constructor)⟩) ?_
            rintro ⟨⟩ -
            refine WD.tk 15 rfl (by kernel_rfl) rfl rfl (Yl.field fo37_0 rfl) rfl ?_
            refine WD.one 9 (by kernel_rfl) ?_
            refine WO.callC (xs := [.tmp 39, .tmp 41]) (cap := []) rfl .no rfl rfl en50 (by repeat' constructor) (fun w hw => plus_any a.o b.o ha.o hb.o w hw.left.here) rfl (fun _ => ⟨_, (by repeat' constructor)⟩) ?_
            rintro ⟨⟩ -
            refine WD.one 14 (by kernel_rfl) ?_
            refine WO.callC (xs := [.tmp 44, .tmp 46]) (cap := []) rfl .no rfl rfl en50 (by repeat' constructor) (fun w hw => plus_any a.t b.t ha.t hb.t w hw.left.here) rfl (fun _ => ⟨_, (by repeat' constructor)⟩) ?_
            rintro ⟨⟩ -
            refine WD.one 16 (by kernel_rfl) ?_
            refine WO.sto rfl rfl .no (Sto.oneS sz34 rfl rfl (by repeat constructor) rfl (by rw [Sm.cells_len (by exact hal)]; omega) (Sm.s0 _ _)) ⟨_, (by repeat' constructor)⟩ ?_
            refine WD.tk 17 rfl (by kernel_rfl) rfl rfl (Yl.field fo37_1 rfl) rfl ?_
            refine WD.one 18 (by kernel_rfl) ?_
            refine WO.sto rfl rfl .no (Sto.oneS sz34 rfl rfl (by repeat constructor) rfl (by rw [Sm.cells_len (by exact hal)]; omega) (Sm.s1 _ _)) ⟨_, (by repeat' constructor)⟩ ?_
            refine WD.tk 19 rfl (by kernel_rfl) rfl rfl (Yl.field fo37_2 rfl) rfl ?_
            refine WD.one 20 (by kernel_rfl) ?_
            refine WO.sto rfl rfl .no (Sto.oneS sz34 rfl rfl (by repeat constructor) rfl (by rw [Sm.cells_len (by exact hal)]; omega) (Sm.s2 _ _)) ⟨_, (by repeat' constructor)⟩ ?_
            refine WD.done (by kernel_rfl) ?_
            rw [jn, jo, jt]
            exact ⟨rfl, (), trivial, (by repeat' constructor), _, (by repeat' constructor)⟩
        · refine WO.y rfl rfl .no (Yl.load on34 rfl (by repeat constructor) (Sm.g1 _)) rfl ?_
          refine WD.one 1 (by kernel_rfl) ?_
          refine WO.y rfl rfl .no (Yl.load on34 rfl (by repeat constructor) (Sm.g0 _)) rfl ?_
          refine WD.one 4 (by kernel_rfl) ?_
          refine WO.callC (xs := [.tmp 34, .tmp 36]) (cap := []) rfl .no rfl rfl en50 (by repeat' constructor) (fun w hw => plus_any a.n b.n ha.n hb.n w hw.left.here) rfl (fun _ => ⟨_, (by repeat' constructor)⟩) ?_
          rintro ⟨⟩ -
          refine WD.tk 15 rfl (by kernel_rfl) rfl rfl (Yl.field fo37_0 rfl) rfl ?_
          refine WD.one 9 (by kernel_rfl) ?_
          refine WO.callC (xs := [.tmp 39, .tmp 41]) (cap := []) rfl .no rfl rfl en50 (by repeat' constructor) (fun w hw => plus_any a.o b.o ha.o hb.o w hw.left.here) rfl (fun _ => ⟨_, (by repeat' constructor)⟩) ?_
          rintro ⟨⟩ -
          refine WD.one 14 (by kernel_rfl) ?_
          refine WO.callC (xs := [.tmp 44, .tmp 46]) (cap := []) rfl .no rfl rfl en50 (by repeat' constructor) (fun w hw => plus_any a.t b.t ha.t hb.t w hw.left.here) rfl (fun _ => ⟨_, (by repeat' constructor)⟩) ?_
          rintro ⟨⟩ -
          refine WD.one 16 (by kernel_rfl) ?_
          refine WO.sto rfl rfl .no (Sto.oneS sz34 rfl rfl (by repeat constructor) rfl (by rw [Sm.cells_len (by exact hal)]; omega) (Sm.s0 _ _)) ⟨_, (by repeat' constructor)⟩ ?_
          refine WD.tk 17 rfl (by kernel_rfl) rfl rfl (Yl.field fo37_1 rfl) rfl ?_
          refine WD.one 18 (by kernel_rfl) ?_
          refine WO.sto rfl rfl .no (Sto.oneS sz34 rfl rfl (by repeat constructor) rfl (by rw [Sm.cells_len (by exact hal)]; omega) (Sm.s1 _ _)) ⟨_, (by repeat' constructor)⟩ ?_
          refine WD.tk 19 rfl (by kernel_rfl) rfl rfl (Yl.field fo37_2 rfl) rfl ?_
          refine WD.one 20 (by kernel_rfl) ?_
          refine WO.sto rfl rfl .no (Sto.oneS sz34 rfl rfl (by repeat constructor) rfl (by rw [Sm.cells_len (by exact hal)]; omega) (Sm.s2 _ _)) ⟨_, (by repeat' constructor)⟩ ?_
          refine WD.done (by kernel_rfl) ?_
          rw [jn, jo, jt]
          exact ⟨rfl, (), trivial, (by repeat' constructor), _, (by repeat' constructor)⟩
    · rintro ⟨⟩ -
      refine WC.seq ?_
      refine WC.seq ?_
      refine WC.region ?_
      refine WL.y (Yl.field fo37_3 rfl) rfl ?_
      refine WL.y (Yl.loadN ag35 rfl (by repeat constructor) (Nat.ble_eq_true_of_le (by rw [Sm.cells_len hbl]; omega)) (Sm.ocs hbl)) rfl ?_
      refine WL.y (Yl.move rfl) rfl ?_
      refine WL.nil ?_
      refine WC.block ?_
      refine WC.loop (α := Nat) (fun i => [(2, .pointer (some ⟨b2, 0, none⟩)), (3, .pointer (some ⟨b3, 0, none⟩)), (4, .pointer (some ⟨b4, 0, none⟩)), (52, .agg (ints .u64 b.oc).toArray), (53, .int .i64 (i : Int))]) (fun i => [blkR b2 37 ({ ({ a with fi := J.fi, la := J.la, n := J.n, o := J.o, t := J.t } : Sm) with oc := (List.zipWith satF a.oc b.oc).take i ++ a.oc.drop i } : Sm).cells, blkR b3 37 b.cells, blkR b4 37 Sm.zero.cells]) (fun i => i ≤ 8) (fun i => 8 - i) 0 (by omega) ⟨(by repeat' constructor), _, (by repeat' constructor)⟩ ?_
      intro i hi
      have hol : ((List.zipWith satF a.oc b.oc).take i ++ a.oc.drop i).length = 8 := by rw [List.length_append, List.length_take, List.length_drop, List.length_zipWith]; omega
      refine WC.seq ?_
      refine WC.region ?_
      refine WL.y (Yl.lss rfl rfl) rfl ?_
      refine WL.nil ?_
      refine WC.seq ?_
      refine WC.condD rfl (fun g54 => ?_) (fun g54 => ?_)
      · refine WC.skip ?_
        refine WC.seq ?_
        refine WC.block ?_
        refine WC.seq ?_
        refine WC.region ?_
        refine WL.y (Yl.move rfl) rfl ?_
        have hi8 : i < 8 := by omega
        obtain ⟨x, hx⟩ : ∃ x, a.oc[i]? = some x := ⟨_, List.getElem?_eq_getElem (by omega)⟩
        obtain ⟨y, hy⟩ : ∃ y, b.oc[i]? = some y := ⟨_, List.getElem?_eq_getElem (by omega)⟩
        have hxa : ((List.zipWith satF a.oc b.oc).take i ++ a.oc.drop i)[i]? = some x := by
          rw [List.getElem?_append_right (by rw [List.length_take, List.length_zipWith]; omega), List.length_take, List.length_zipWith, List.getElem?_drop, ← hx]
          congr 1
          omega
        refine WL.y (Yl.idx un35 sz34 on34 rfl rfl rfl (by omega) (mapU_at hy)) rfl ?_
        refine WL.y (Yl.assign rfl) rfl ?_
        refine WL.y (Yl.assign rfl) rfl ?_
        refine WL.nil ?_
        refine WC.region ?_
        refine WL.y (Yl.move rfl) rfl ?_
        refine WL.y (Yl.move rfl) rfl ?_
        refine WL.y (Yl.field fo37_3 rfl) rfl ?_
        refine WL.y (Yl.indexA un35 sz34 rfl rfl rfl (by omega)) rfl ?_
        refine WL.y (Yl.loadSm on34 rfl (by repeat constructor) (Sm.ocAt hol hxa (by omega))) rfl ?_
        refine WL.y (Yl.move rfl) rfl ?_
        refine WL.callC (xs := [.tmp 61, .tmp 62]) (cap := []) rfl rfl en50 (by repeat' constructor) (fun w hw => plus_any x y (ha.oc x (List.mem_of_getElem? hx)) (hb.oc y (List.mem_of_getElem? hy)) w hw.left.here) rfl ?_
        rintro ⟨⟩ -
        refine WL.y (Yl.field fo37_3 rfl) rfl ?_
        refine WL.y (Yl.indexA un35 sz34 rfl rfl rfl (by omega)) rfl ?_
        refine WL.sto (Sto.oneS sz34 rfl rfl (by repeat constructor) rfl (by rw [Sm.cells_len hol]; omega) (Sm.ocSet (i := i) hol hi8 _ (by omega))) (fun _ h => nomatch h) ?_
        dsimp only
        rw [zip_step hal hbl hi8 hx hy]
        refine WL.nil ?_
        refine WC.region ?_
        refine WL.y (Yl.add rfl rfl (IntWalk.i64_in _ (by omega))) rfl ?_
        refine WL.y (Yl.move rfl) rfl ?_
        refine WL.nil ?_
        exact ⟨rfl, i + 1, by omega, by omega, (by repeat' constructor), _, (by repeat' constructor)⟩
      · refine WC.exit ?_
        refine WC.midX (α := Unit) (fun _ => [(2, .pointer (some ⟨b2, 0, none⟩)), (3, .pointer (some ⟨b3, 0, none⟩)), (4, .pointer (some ⟨b4, 0, none⟩))]) (fun _ => [blkR b2 37 J.cells, blkR b3 37 b.cells, blkR b4 37 Sm.zero.cells]) (fun _ => True) ?_ ?_
        · have hi8 : i = 8 := by omega
          subst hi8
          have e8 : (List.zipWith satF a.oc b.oc).take 8 ++ a.oc.drop 8 = J.oc := by rw [jc, List.take_of_length_le (by rw [List.length_zipWith]; omega), List.drop_of_length_le (by omega), List.append_nil]
          rw [e8]
          refine WC.drawAny (Hs := [blkR b3 37 b.cells]) mixed (by kernel_rfl) ⟨_, (by repeat' constructor)⟩ ?_
          refine WD.tk 0 rfl (by kernel_rfl) rfl rfl (Yl.field fo37_4 rfl) rfl ?_
          refine WD.tk 2 rfl (by kernel_rfl) rfl rfl (Yl.field fo37_4 rfl) rfl ?_
          refine WD.tk 3 rfl (by kernel_rfl) rfl rfl (Yl.load on34 rfl (by repeat constructor) (Sm.g11 hbl)) rfl ?_
          refine WD.tk 5 rfl (by kernel_rfl) rfl rfl (Yl.field fo37_5 rfl) rfl ?_
          refine WD.tk 7 rfl (by kernel_rfl) rfl rfl (Yl.field fo37_5 rfl) rfl ?_
          refine WD.tk 8 rfl (by kernel_rfl) rfl rfl (Yl.load on34 rfl (by repeat constructor) (Sm.g12 hbl)) rfl ?_
          refine WD.two 1 6 (by kernel_rfl) ?_ ?_
          · refine WO.y rfl rfl .no (Yl.load on34 rfl (by repeat constructor) (Sm.g11 (by exact hJl))) rfl ?_
            refine WD.two 4 6 (by kernel_rfl) ?_ ?_
            · refine WO.callC (xs := [.tmp 68, .tmp 70]) (cap := []) rfl .no rfl rfl en50 (by repeat' constructor) (fun w hw => plus_any a.tk b.tk ha.tk hb.tk w hw.left.here) rfl (fun _ => ⟨_, (by repeat' constructor)⟩) ?_
              rintro ⟨⟩ -
              refine WD.one 6 (by kernel_rfl) ?_
              refine WO.y rfl rfl .no (Yl.load on34 rfl (by repeat constructor) (Sm.g12 (by exact hJl))) rfl ?_
              refine WD.tk 9 rfl (by kernel_rfl) rfl rfl (Yl.max2 rfl rfl) rfl ?_
              refine WD.say (t := 76) (v' := .int .u64 (max a.lg b.lg)) rfl (by (refine congrArg _ ?_; dsimp only; split <;> omega)) ?_
              refine WD.tk 10 rfl (by kernel_rfl) rfl rfl (Yl.field fo37_4 rfl) rfl ?_
              refine WD.one 11 (by kernel_rfl) ?_
              refine WO.sto rfl rfl .no (Sto.oneS sz34 rfl rfl (by repeat constructor) rfl (by rw [Sm.cells_len (by exact hJl)]; omega) (Sm.s11 (by exact hJl) _)) ⟨_, (by repeat' constructor)⟩ ?_
              refine WD.tk 12 rfl (by kernel_rfl) rfl rfl (Yl.field fo37_5 rfl) rfl ?_
              refine WD.one 13 (by kernel_rfl) ?_
              refine WO.sto rfl rfl .no (Sto.oneS sz34 rfl rfl (by repeat constructor) rfl (by rw [Sm.cells_len (by exact hJl)]; omega) (Sm.s12 (by exact hJl) _)) ⟨_, (by repeat' constructor)⟩ ?_
              refine WD.done (by kernel_rfl) ?_
              have eJ : ({ ({ a with fi := J.fi, la := J.la, n := J.n, o := J.o, t := J.t } : Sm) with oc := J.oc, tk := satF a.tk b.tk, lg := max a.lg b.lg } : Sm) = J := by rw [← jk, ← jl]
              rw [← eJ]
              exact ⟨rfl, (), trivial, (by repeat' constructor), _, (by repeat' constructor)⟩
            · refine WO.y rfl rfl .no (Yl.load on34 rfl (by repeat constructor) (Sm.g12 (by exact hJl))) rfl ?_
              refine WD.tk 9 rfl (by kernel_rfl) rfl rfl (Yl.max2 rfl rfl) rfl ?_
              refine WD.say (t := 76) (v' := .int .u64 (max a.lg b.lg)) rfl (by (refine congrArg _ ?_; dsimp only; split <;> omega)) ?_
              refine WD.one 4 (by kernel_rfl) ?_
              refine WO.callC (xs := [.tmp 68, .tmp 70]) (cap := []) rfl .no rfl rfl en50 (by repeat' constructor) (fun w hw => plus_any a.tk b.tk ha.tk hb.tk w hw.left.here) rfl (fun _ => ⟨_, (by repeat' constructor)⟩) ?_
              rintro ⟨⟩ -
              refine WD.tk 10 rfl (by kernel_rfl) rfl rfl (Yl.field fo37_4 rfl) rfl ?_
              refine WD.one 11 (by kernel_rfl) ?_
              refine WO.sto rfl rfl .no (Sto.oneS sz34 rfl rfl (by repeat constructor) rfl (by rw [Sm.cells_len (by exact hJl)]; omega) (Sm.s11 (by exact hJl) _)) ⟨_, (by repeat' constructor)⟩ ?_
              refine WD.tk 12 rfl (by kernel_rfl) rfl rfl (Yl.field fo37_5 rfl) rfl ?_
              refine WD.one 13 (by kernel_rfl) ?_
              refine WO.sto rfl rfl .no (Sto.oneS sz34 rfl rfl (by repeat constructor) rfl (by rw [Sm.cells_len (by exact hJl)]; omega) (Sm.s12 (by exact hJl) _)) ⟨_, (by repeat' constructor)⟩ ?_
              refine WD.done (by kernel_rfl) ?_
              have eJ : ({ ({ a with fi := J.fi, la := J.la, n := J.n, o := J.o, t := J.t } : Sm) with oc := J.oc, tk := satF a.tk b.tk, lg := max a.lg b.lg } : Sm) = J := by rw [← jk, ← jl]
              rw [← eJ]
              exact ⟨rfl, (), trivial, (by repeat' constructor), _, (by repeat' constructor)⟩
          · refine WO.y rfl rfl .no (Yl.load on34 rfl (by repeat constructor) (Sm.g12 (by exact hJl))) rfl ?_
            refine WD.tk 9 rfl (by kernel_rfl) rfl rfl (Yl.max2 rfl rfl) rfl ?_
            refine WD.say (t := 76) (v' := .int .u64 (max a.lg b.lg)) rfl (by (refine congrArg _ ?_; dsimp only; split <;> omega)) ?_
            refine WD.one 1 (by kernel_rfl) ?_
            refine WO.y rfl rfl .no (Yl.load on34 rfl (by repeat constructor) (Sm.g11 (by exact hJl))) rfl ?_
            refine WD.one 4 (by kernel_rfl) ?_
            refine WO.callC (xs := [.tmp 68, .tmp 70]) (cap := []) rfl .no rfl rfl en50 (by repeat' constructor) (fun w hw => plus_any a.tk b.tk ha.tk hb.tk w hw.left.here) rfl (fun _ => ⟨_, (by repeat' constructor)⟩) ?_
            rintro ⟨⟩ -
            refine WD.tk 10 rfl (by kernel_rfl) rfl rfl (Yl.field fo37_4 rfl) rfl ?_
            refine WD.one 11 (by kernel_rfl) ?_
            refine WO.sto rfl rfl .no (Sto.oneS sz34 rfl rfl (by repeat constructor) rfl (by rw [Sm.cells_len (by exact hJl)]; omega) (Sm.s11 (by exact hJl) _)) ⟨_, (by repeat' constructor)⟩ ?_
            refine WD.tk 12 rfl (by kernel_rfl) rfl rfl (Yl.field fo37_5 rfl) rfl ?_
            refine WD.one 13 (by kernel_rfl) ?_
            refine WO.sto rfl rfl .no (Sto.oneS sz34 rfl rfl (by repeat constructor) rfl (by rw [Sm.cells_len (by exact hJl)]; omega) (Sm.s12 (by exact hJl) _)) ⟨_, (by repeat' constructor)⟩ ?_
            refine WD.done (by kernel_rfl) ?_
            have eJ : ({ ({ a with fi := J.fi, la := J.la, n := J.n, o := J.o, t := J.t } : Sm) with oc := J.oc, tk := satF a.tk b.tk, lg := max a.lg b.lg } : Sm) = J := by rw [← jk, ← jl]
            rw [← eJ]
            exact ⟨rfl, (), trivial, (by repeat' constructor), _, (by repeat' constructor)⟩
        · rintro ⟨⟩ -
          refine WC.seq ?_
          refine WC.region ?_
          refine WL.y (Yl.loadN ag37 rfl (by repeat constructor) (Nat.ble_eq_true_of_le (by rw [Sm.cells_len hJl]; omega)) (Sm.call hJl)) rfl ?_
          refine WL.sto (Sto.agg sz37 rfl rfl (by repeat constructor) (Sm.ones _) (Sm.cells_len hJl) (by rfl) (putAll rfl)) (fun _ h => nomatch h) ?_
          refine WL.nil ?_
          refine WC.ret ?_
          repeat (with_reducible (first | refine peelT ?_ | refine peelB ?_ | refine peelTX ?_ | refine peelBX ?_ | refine peelBN ?_ | refine peelBO rfl ?_))
          exact retC1 (.inr rfl) Tryz.results16 ag37 rfl (by repeat constructor) (Sm.cells_len hJl) fun w' h => ⟨(), trivial, rfl, h.sub (by repeat' constructor)⟩
end Go.Proofs.YtbgimajbehodnaaGreatDoor

namespace Go.Proofs.YtbgimajbehodnaaGreatDoor
open Go Go.RowKit

def rcLeaf : List Leaf := List.replicate 16 (some .u8) ++ [some .u8, none, some .u8, some .u64, some .u64, some .u64]
theorem wf8 {n : Int} (h : U8 n) : (Lit.int .u8 n).wf = true := by
  rw [Lit.wf_int_iff]; have e1 : IntKind.u8.min = 0 := by decide
  have e2 : IntKind.u8.max = 255 := by decide
  rw [e1, e2]; unfold U8 at h; omega
theorem wf64 {n : Int} (h : U64 n) : (Lit.int .u64 n).wf = true := by
  rw [Lit.wf_int_iff]; have e1 : IntKind.u64.min = 0 := by decide
  have e2 : IntKind.u64.max = 18446744073709551615 := by decide
  rw [e1, e2]; unfold U64 at h; omega

theorem fits_ints {n : Nat} {xs : List Int} (h : xs.length = n) (hb : (∀ x ∈ xs, 0 ≤ x ∧ x < 256)) : Fits1 (List.replicate n (some .u8)) (ints .u8 xs) := by
  induction xs generalizing n with
  | nil => subst h; simp [ints, Fits1]
  | cons x xs ih =>
    subst h
    exact ⟨⟨rfl, wf8 (hb x (by simp))⟩, ih rfl (fun y hy => hb y (by simp [hy]))⟩

theorem Rc.ok.fits {r : Rc} (h : r.ok) : Fits1 rcLeaf r.cells :=
  (fits_ints h.len h.id).mk ⟨⟨rfl, wf8 h.peer⟩, trivial, ⟨rfl, wf8 h.oc⟩, ⟨rfl, wf64 h.bg⟩, ⟨rfl, wf64 h.an⟩, ⟨rfl, wf64 h.en⟩, trivial⟩

theorem flRec : Flat Tryz.prog 45 rcLeaf := Flat.mk' 5 (by decide) (by kernel_rfl) (by kernel_rfl)
theorem Rc.cells_inj {r s : Rc} (h1 : r.id.length = 16) (h2 : s.id.length = 16) (h : r.cells = s.cells) : r = s := by
  have a := congrArg (List.take 16) h
  have b := congrArg (List.drop 16) h
  unfold Rc.cells at a b
  rw [List.take_left' (by rw [ints_length, h1]), List.take_left' (by rw [ints_length, h2])] at a
  rw [List.drop_left' (by rw [ints_length, h1]), List.drop_left' (by rw [ints_length, h2])] at b
  have e : r.id = s.id := by
    unfold ints at a
    exact List.map_inj_right (fun x y h => by cases h; rfl) |>.1 a
  obtain ⟨i1, p1, o1, c1, b1, a1, e1⟩ := r
  obtain ⟨i2, p2, o2, c2, b2, a2, e2⟩ := s
  simp at b e
  obtain ⟨q1, q2, q3, q4, q5, q6⟩ := b
  subst e q1 q2 q3 q4 q5 q6
  rfl

theorem leBl {a b : Nat} (h : a ≤ b) : Nat.ble a b = true := Nat.ble_eq_true_of_le h
theorem Rc.all {r : Rc} (h : r.id.length = 16) (ys : List Value) (hy : ys.length = 22) : r.cells.take 0 ++ ys ++ r.cells.drop (0 + 22) = ys := by
  rw [List.take_zero, List.nil_append, List.drop_of_length_le (by rw [Rc.cells_len h]; omega), List.append_nil]
instance : DecidableEq Rc := fun a b =>
  if h : a.id = b.id ∧ a.peer = b.peer ∧ a.out = b.out ∧ a.oc = b.oc ∧ a.bg = b.bg ∧ a.an = b.an ∧ a.en = b.en then
    isTrue (by
      obtain ⟨h1, h2, h3, h4, h5, h6, h7⟩ := h
      cases a
      cases b
      simp_all)
  else isFalse (fun e => h (by rw [e]; exact ⟨rfl, rfl, rfl, rfl, rfl, rfl, rfl⟩))
theorem vtR : VT Tryz.prog 45 22 Rc.ok rcV := .agg (cel := Rc.cells) (by kernel_rfl) (by kernel_rfl) (by decide) (fun _ => rfl) (fun r h => Rc.cells_len h.len) (fun r => Rc.ones r)
def ROk (xs : List Rc) : Prop := ∀ r ∈ xs, r.ok
theorem ROk.get {xs : List Rc} (h : ROk xs) {j : Nat} {x : Rc} (hx : xs[j]? = some x) : x.ok := h x (List.mem_of_getElem? hx)
theorem Rc.eqV {x y : Rc} (hx : x.ok) (hy : y.ok) : eqV x.cells y.cells = decide (x = y) := by
  by_cases h : x = y
  · subst h; rw [eqV_self]; simp
  · rw [eqV_ne, decide_eq_false h]
    exact fun e => h (Rc.cells_inj hx.len hy.len e)
def ysR (xs : List Rc) : List (Array Value) := xs.map fun x => #[rcV x]
theorem ysR_len (xs : List Rc) : (ysR xs).length = xs.length := List.length_map _
theorem ysR_get {xs : List Rc} {i : Nat} {x : Rc} (h : xs[i]? = some x) : (ysR xs)[i]? = some #[rcV x] := by simp [ysR, h]
theorem ysR_at {xs : List Rc} {i : Nat} {y : Array Value} (h : (ysR xs)[i]? = some y) : ∃ x, xs[i]? = some x ∧ y = #[rcV x] := by
  simp [ysR] at h
  obtain ⟨x, h1, h2⟩ := h
  exact ⟨x, h1, h2.symm⟩
theorem ysR_size {xs : List Rc} : ∀ y ∈ ysR xs, y.size = 1 := by
  intro y hy
  obtain ⟨x, _, rfl⟩ := List.mem_map.1 hy
  rfl

set_option maxRecDepth 100000 in
theorem val1_iter (b1 : Nat) (v : Value) (xs : List Rc) (hG : ROk xs) (hl : xs.length ≤ 1000000) (w : World) (hA : OK w (fpL [roR (blkR b1 33 [v]), rdR v 22 xs.length (vcs rcV xs)]) [roR (blkR b1 33 [v]), rdR v 22 xs.length (vcs rcV xs)] w) :
    Iter Tryz.prog 48 ([.pointer (some ⟨b1, 0, none⟩)] : List Value).toArray (fpL [roR (blkR b1 33 [v]), rdR v 22 xs.length (vcs rcV xs)]).rd (ysR xs) w := by
  obtain ⟨al, cl, rfl, hcl, hml⟩ := (hA.get (.tail .head) : Rd _ _ _ _ _).form
  have hwr : ∀ r ∈ [roR (blkR b1 33 [.slice al xs.length cl]), rdR (.slice al xs.length cl) 22 xs.length (vcs rcV xs)], ∀ k, ¬ r.wr k := by
    intro r hr k hk
    simp at hr
    rcases hr with rfl | rfl <;> exact hk
  have hln := ysR_len xs
  refine iter_of Tryz.func48 rfl Tryz.ntmps48 rfl hA hwr ?_
  intro l W g gx T0 hy
  refine WC.seq ?_
  refine WC.region ?_
  refine WL.y (Yl.loadRo on33 rfl (by repeat constructor) (by rfl)) rfl ?_
  refine WL.y (Yl.len un33 rfl) rfl ?_
  refine WL.y (Yl.move rfl) rfl ?_
  refine WL.nil ?_
  refine WC.block ?_
  refine WC.loop (α := Nat × (Nat → Prop)) (fun p => [(0, .func (.yield l) #[] #[]), (5, .slice al xs.length cl), (6, .int .i64 (xs.length : Int)), (7, .int .i64 (p.1 : Int))]) (fun p => [gstR g p.1 p.2, roR (blkR b1 33 [.slice al xs.length cl]), rdR (.slice al xs.length cl) 22 xs.length (vcs rcV xs)]) (fun p => p.1 ≤ xs.length) (fun p => xs.length - p.1) (0, T0) (Nat.zero_le _) ⟨(by repeat' constructor), _, (by repeat' constructor)⟩ ?_
  rintro ⟨i, T⟩ hi
  dsimp only at hi ⊢
  refine WC.seq ?_
  refine WC.region ?_
  refine WL.y (Yl.lss rfl rfl) rfl ?_
  refine WL.nil ?_
  refine WC.seq ?_
  refine WC.condD rfl (fun g8 => ?_) (fun g8 => ?_)
  · refine WC.skip ?_
    refine WC.seq ?_
    refine WC.block ?_
    refine WC.seq ?_
    refine WC.region ?_
    have hil : i < xs.length := by omega
    obtain ⟨x, hx0⟩ : ∃ x, xs[i]? = some x := ⟨_, List.getElem?_eq_getElem hil⟩
    have hxo := hG.get hx0
    have h22 := Rc.cells_len hxo.len
    refine WL.y (Yl.index un33 sz45 rfl rfl (Reads.of (r := rdR (.slice al xs.length cl) 22 xs.length (vcs rcV xs)) RdOf.rd' (by repeat constructor)) rfl (by omega)) rfl ?_
    refine WL.y (Yl.loadV (j := i) (u := x) vtR hG rfl (Reads.of (r := rdR (.slice al xs.length cl) 22 xs.length (vcs rcV xs)) RdOf.rd' (by repeat constructor)) rfl hx0) rfl ?_
    refine WL.to (To.alloc (cs := Rc.zero.cells) zr45 rfl) rfl ?_
    intro b4
    refine WL.sto (Sto.agg sz45 rfl rfl (by repeat constructor) (Rc.ones _) h22 (by rfl) (Rc.all (r := Rc.zero) rfl x.cells h22)) (fun _ h => nomatch h) ?_
    refine WL.nil ?_
    refine WC.seq ?_
    refine WC.region ?_
    refine WL.y (Yl.move rfl) rfl ?_
    refine WL.y (Yl.loadN ag45 rfl (by repeat constructor) (leBl (by rw [h22]; omega)) (Rc.call hxo.len)) rfl ?_
    refine WL.yield (xs := [.tmp 12]) (i := i) hy rfl rfl (ysR_get hx0) (by repeat constructor) rfl ?_
    intro b13 T'
    refine WL.y (Yl.not rfl) rfl ?_
    refine WL.nil ?_
    refine WC.cond rfl (fun g14 => ?_) (fun g14 => ?_)
    · refine WC.ret ?_
      repeat (with_reducible (first | refine peelT ?_ | refine peelB ?_ | refine peelTX ?_ | refine peelBX ?_ | refine peelBN ?_ | refine peelBO rfl ?_))
      have hb : b13 = false := by simpa using g14
      subst hb
      simp only [Bool.false_eq_true, if_false]
      exact itStop (i := i) (.inr rfl) Tryz.results48 (by repeat constructor) (by rw [hln]; exact hil)
    · refine WC.skip ?_
      refine WC.region ?_
      refine WL.y (Yl.add rfl rfl (IntWalk.i64_in _ (by omega))) rfl ?_
      refine WL.y (Yl.move rfl) rfl ?_
      refine WL.nil ?_
      have hb : b13 = true := by simpa using g14
      subst hb
      simp only [if_true]
      exact ⟨rfl, (i + 1, T'), by dsimp only; omega, by dsimp only; omega, (by repeat' constructor), _, (by repeat' constructor)⟩
  · refine WC.exit ?_
    repeat (with_reducible (first | refine peelT ?_ | refine peelB ?_ | refine peelTX ?_ | refine peelBX ?_ | refine peelBN ?_ | refine peelBO rfl ?_))
    have hx : i = (ysR xs).length := by rw [hln]; omega
    rw [← hx]
    exact itEnd (.inl rfl) Tryz.results48 (by repeat constructor)
theorem val_any (v : Value) (xs : List Rc) (hG : ROk xs) (hl : xs.length ≤ 1000000) (w : World) (hw : OK w (fpL [rdR v 22 xs.length (vcs rcV xs)]) [rdR v 22 xs.length (vcs rcV xs)] w) :
    Fn Tryz.prog 14 [v] [rdR v 22 xs.length (vcs rcV xs)] w (fun _ : Nat × (Nat → Prop) => True) (fun y => .func (.func 48) #[] #[.pointer (some ⟨y.1, 0, none⟩)]) (fun y => [itR Tryz.prog 48 [.pointer (some ⟨y.1, 0, none⟩)] y.2 (ysR xs)]) := by
  obtain ⟨al, cl, rfl, hcl, hml⟩ := (hw.get .head : Rd _ _ _ _ _).form
  refine enterF Tryz.func14 rfl Tryz.ntmps14 rfl hw ?_
  refine WC.seq ?_
  refine WC.region ?_
  refine WL.to (To.box (cs := [.slice al xs.length cl]) rfl rfl) rfl ?_
  intro b1
  refine WL.y (Yl.assign rfl) rfl ?_
  refine WL.nil ?_
  refine WC.seq ?_
  refine WC.region ?_
  refine WL.y (Yl.makeFunc (xs := []) (ys := [.tmp 1]) rfl rfl) rfl ?_
  refine WL.y (Yl.assign rfl) rfl ?_
  refine WL.nil ?_
  refine WC.ret ?_
  repeat (with_reducible (first | refine peelT ?_ | refine peelB ?_ | refine peelTX ?_ | refine peelBX ?_ | refine peelBN ?_ | refine peelBO rfl ?_))
  refine ret1 (.inr rfl) Tryz.results14 rfl fun w' hh => ⟨(b1, (fpL [roR (blkR b1 33 [.slice al xs.length cl]), rdR (.slice al xs.length cl) 22 xs.length (vcs rcV xs)]).rd), trivial, rfl, ?_⟩
  have hA : OK w _ ([blkR b1 33 [.slice al xs.length cl], rdR (.slice al xs.length cl) 22 xs.length (vcs rcV xs)] ++ []) w' := hh.sub (by repeat' constructor)
  have hro : OK w _ ([roR (blkR b1 33 [.slice al xs.length cl]), rdR (.slice al xs.length cl) 22 xs.length (vcs rcV xs)] ++ []) w' := hA.roOne .head
  exact hro.toIter (val1_iter b1 (.slice al xs.length cl) xs hG hl w' hro.here) (fun k hk => hk)
theorem rc_len {xs : List Rc} (h : ROk xs) : (vcs rcV xs).length = xs.length * 22 := vtR.size h
theorem rc_take {xs : List Rc} (h : ROk xs) (i : Nat) : (vcs rcV xs).take (i * 22) = vcs rcV (xs.take i) := vtR.take i h
theorem rc_drop {xs : List Rc} (h : ROk xs) (i : Nat) : (vcs rcV xs).drop (i * 22) = vcs rcV (xs.drop i) := vtR.drop i h
theorem rc_cat {xs ys : List Rc} {x : Rc} : vcs rcV xs ++ x.cells ++ vcs rcV ys = vcs rcV (xs ++ x :: ys) := by
  rw [vcs_app, vcs_cons, List.append_assoc]
  rfl
theorem rdRc {bv : Nat} {x : Rc} (hx : x.ok) : RdOf (blkR bv 45 x.cells) (.slice (some ⟨bv, 0, none⟩) 1 1) 22 1 x.cells := RdOf.blk (Nat.le_refl _) (by unfold maxLen; omega) (by rw [Rc.cells_len hx.len]; omega) (by rw [List.drop_zero, List.take_of_length_le (by rw [Rc.cells_len hx.len]; omega)])
theorem ext_overlaps {w : World} {args : Array Value} {v : Value} (h : (Extern.SlicesOverlaps.overlaps #[33, 33] #[4] args).run Tryz.prog w = .ok v w) : (callFunc 103 args).run Tryz.prog w = .ok (.value v) w := by
  rw [run_callFunc_extern (e := Extern.SlicesOverlaps.overlaps #[33, 33] #[4]) Tryz.func103 (by kernel_rfl) (by kernel_rfl) (by kernel_rfl) (by kernel_rfl), h]
  rfl
def zc : Array Value := Rc.zero.cells.toArray
set_option maxRecDepth 100000 in
theorem insR_any (ao : Option Addr) (cap : Nat) (xs : List Rc) (x : Rc) (hG : ROk xs) (hx : x.ok) (i bv : Nat) (hl : xs.length ≤ 1000000) (hi : i ≤ xs.length) (w : World)
    (hw : OK w (fpL [ownR (.slice ao xs.length cap) 45 22 xs.length (vcs rcV xs), blkR bv 45 x.cells]) [ownR (.slice ao xs.length cap) 45 22 xs.length (vcs rcV xs), blkR bv 45 x.cells] w) :
    Fn Tryz.prog 72 [.slice ao xs.length cap, .int .i64 (i : Int), .slice (some ⟨bv, 0, none⟩) 1 1] [ownR (.slice ao xs.length cap) 45 22 xs.length (vcs rcV xs), blkR bv 45 x.cells] w (fun _ : Option Addr × Nat => True) (fun y => .slice y.1 (xs.length + 1) y.2)
      (fun y => [ownR (.slice y.1 (xs.length + 1) y.2) 45 22 (xs.length + 1) (vcs rcV (xs.take i ++ x :: xs.drop i))]) := by
  have hcap : xs.length ≤ cap := Sown.le (hw.get .head)
  have hml : cap ≤ maxLen := by obtain ⟨_, _, he, _, h⟩ := (hw.get .head : Sown _ _ _ _ _ _).rd.form; cases he; exact h
  have hlen := rc_len hG
  have h22 := Rc.cells_len hx.len
  refine enterF Tryz.func72 rfl Tryz.ntmps72 rfl hw ?_
  refine WC.seq ?_
  refine WC.region ?_
  refine WL.y (Yl.assign rfl) rfl ?_
  refine WL.nil ?_
  refine WC.seq ?_
  refine WC.region ?_
  refine WL.y (Yl.move rfl) rfl ?_
  refine WL.y (Yl.move rfl) rfl ?_
  refine WL.y (Yl.slice un33 sz45 rfl ⟨_, rfl⟩ rfl (by omega) (by omega)) rfl ?_
  refine WL.nil ?_
  refine WC.seq ?_
  refine WC.region ?_
  refine WL.y (Yl.move rfl) rfl ?_
  refine WL.y (Yl.len un33 rfl) rfl ?_
  refine WL.y (Yl.assign rfl) rfl ?_
  refine WL.nil ?_
  refine WC.seq ?_
  refine WC.seq ?_
  refine WC.region ?_
  refine WL.y (Yl.move rfl) rfl ?_
  refine WL.y (Yl.eql rfl rfl) rfl ?_
  refine WL.nil ?_
  refine WC.condF rfl (by first | rfl | (simp; done) | (simp; omega)) ?_
  refine WC.skip ?_
  refine WC.seq ?_
  refine WC.region ?_
  refine WL.y (Yl.move rfl) rfl ?_
  refine WL.y (Yl.len un33 rfl) rfl ?_
  refine WL.y (Yl.assign rfl) rfl ?_
  refine WL.nil ?_
  refine WC.seq ?_
  refine WC.seq ?_
  refine WC.region ?_
  refine WL.y (Yl.move rfl) rfl ?_
  refine WL.y (Yl.move rfl) rfl ?_
  refine WL.y (Yl.eql rfl rfl) rfl ?_
  refine WL.nil ?_
  refine WC.condD rfl (fun g22 => ?_) (fun g22 => ?_)
  · refine WC.seq ?_
    refine WC.region ?_
    refine WL.y (Yl.move rfl) rfl ?_
    refine WL.y (Yl.move rfl) rfl ?_
    refine WL.to (To.append sl33 rfl rfl (by repeat constructor) (Reads.of (rdRc hx) (by repeat constructor)) (Rc.ones x) rfl (show vcs rcV xs ++ x.cells = vcs rcV (xs.take i ++ x :: xs.drop i) from by
      obtain rfl : i = xs.length := by omega
      rw [List.take_length, List.drop_length, ← rc_cat]; simp [vcs, flat]) (by unfold maxLen; omega) (by omega)) rfl ?_
    rintro ⟨⟨ao25, c25⟩, hc25⟩
    dsimp only at hc25 ⊢
    refine WL.y (Yl.assign rfl) rfl ?_
    refine WL.nil ?_
    refine WC.ret ?_
    repeat (with_reducible (first | refine peelT ?_ | refine peelB ?_ | refine peelTX ?_ | refine peelBX ?_ | refine peelBN ?_ | refine peelBO rfl ?_))
    exact ret1 (.inr rfl) Tryz.results72 rfl fun w' h => ⟨(ao25, c25), trivial, rfl, h.sub (by repeat' constructor)⟩
  · refine WC.skip ?_
    refine WC.seq ?_
    refine WC.seq ?_
    refine WC.region ?_
    refine WL.y (Yl.move rfl) rfl ?_
    refine WL.y (Yl.move rfl) rfl ?_
    refine WL.y (Yl.add rfl rfl (IntWalk.i64_in _ (by omega))) rfl ?_
    refine WL.y (Yl.move rfl) rfl ?_
    refine WL.y (Yl.cap un33 rfl) rfl ?_
    refine WL.y (Yl.gtr rfl rfl) rfl ?_
    refine WL.nil ?_
    refine WC.condD rfl (fun g31 => ?_) (fun g31 => ?_)
    · refine WC.seq ?_
      refine WC.region ?_
      refine WL.y (Yl.move rfl) rfl ?_
      refine WL.y (Yl.move rfl) rfl ?_
      refine WL.y (Yl.slice un33 sz45 rfl rfl ⟨_, rfl⟩ (by omega) (by omega)) rfl ?_
      refine WL.say (t := 34) (v' := .slice ao i cap) rfl (by exact sub0) ?_
      refine WL.y (Yl.move rfl) rfl ?_
      refine WL.y (Yl.move rfl) rfl ?_
      refine WL.y (Yl.add rfl rfl (IntWalk.i64_in _ (by omega))) rfl ?_
      refine WL.y (Yl.move rfl) rfl ?_
      refine WL.y (Yl.sub rfl rfl (IntWalk.i64_in _ (by omega))) rfl ?_
      refine WL.say (t := 39) (v' := .int .i64 ((xs.length + 1 - i : Nat) : Int)) rfl (by congr 1; omega) ?_
      obtain ⟨Z, hZ⟩ : ∃ Z, Z = (Builtin.zeroCells zc (xs.length + 1 - i)).toList := ⟨_, rfl⟩
      have hZl : Z.length = (xs.length + 1 - i) * 22 := by rw [hZ, Array.length_toList, size_zeroCells]; rfl
      refine WL.to (To.appendZN (i := i) (m := xs.length + 1 - i) (N := xs.length + 1) (zs := (vcs rcV xs).take (i * 22) ++ Z) sl33 un3 rfl rfl (by repeat constructor) hi (by omega) (by omega) (by omega) (by omega) (by rw [hZ]; rfl) (by unfold maxLen; omega) (by omega)) rfl ?_
      rintro ⟨⟨b40, c40⟩, hc40⟩
      dsimp only at hc40 ⊢
      refine WL.y (Yl.assign rfl) rfl ?_
      refine WL.nil ?_
      refine WC.seq ?_
      refine WC.region ?_
      refine WL.y (Yl.move rfl) rfl ?_
      refine WL.y (Yl.move rfl) rfl ?_
      refine WL.y (Yl.slice un33 sz45 rfl ⟨_, rfl⟩ rfl (by omega) (by omega)) rfl ?_
      refine WL.y (Yl.move rfl) rfl ?_
      refine WL.to (To.copyOwn (l := i) (k := 1) (m := 1) un33 sz45 rfl rfl (by repeat constructor) (Reads.of (rdRc hx) (by repeat constructor)) (fun u hu => Rc.ones x u (List.mem_of_mem_take hu)) (by omega) (Nat.min_eq_left (by omega)) rfl) rfl ?_
      rintro ⟨⟩
      refine WL.nil ?_
      refine WC.seq ?_
      refine WC.drawTail 8 mixed (by kernel_rfl) ?_
      refine WH.y (Yl.move rfl) rfl ?_
      refine WH.y (Yl.move rfl) rfl ?_
      refine WH.y (Yl.move rfl) rfl ?_
      refine WH.y (Yl.add rfl rfl (IntWalk.i64_in _ (by omega))) rfl ?_
      refine WH.say (t := 49) (v' := .int .i64 ((i + 1 : Nat) : Int)) rfl (by rfl) ?_
      refine WH.y (Yl.slice un33 sz45 rfl ⟨_, rfl⟩ rfl (by omega) (by omega)) rfl ?_
      refine WH.y (Yl.move rfl) rfl ?_
      refine WH.y (Yl.move rfl) rfl ?_
      refine WH.y (Yl.slice un33 sz45 rfl ⟨_, rfl⟩ rfl (by omega) (by omega)) rfl ?_
      refine WH.nil ?_
      refine WP.to (To.copyOwn (l := i + 1) (k := xs.length - i) (m := xs.length - i) (news := (vcs rcV xs).drop (i * 22)) (cs' := vcs rcV (xs.take i ++ x :: xs.drop i)) un33 sz45 rfl rfl (by repeat constructor) (Reads.of (RdOf.sub RdOf.own hi (Nat.le_refl _) (List.take_of_length_le (by rw [List.length_drop, hlen, Nat.sub_mul]; exact Nat.le_refl _))) (by repeat constructor)) (fun u hu => vtR.ones xs u (List.mem_of_mem_drop (List.mem_of_mem_take hu))) (by omega) (Nat.min_eq_left (by omega))
          (by rw [growL (n := xs.length) hlen hZl h22 hi (by decide), rc_take hG, rc_drop hG]; exact rc_cat)) rfl ?_
      rintro ⟨⟩
      refine WP.nil ?_
      refine WC.seq ?_
      refine WC.region ?_
      refine WL.y (Yl.move rfl) rfl ?_
      refine WL.y (Yl.assign rfl) rfl ?_
      refine WL.nil ?_
      refine WC.ret ?_
      repeat (with_reducible (first | refine peelT ?_ | refine peelB ?_ | refine peelTX ?_ | refine peelBX ?_ | refine peelBN ?_ | refine peelBO rfl ?_))
      exact ret1 (.inr rfl) Tryz.results72 rfl fun w' h => ⟨(some ⟨b40, 0, none⟩, c40), trivial, rfl, h.sub (by repeat' constructor)⟩
    · refine WC.skip ?_
      refine WC.seq ?_
      refine WC.region ?_
      refine WL.y (Yl.move rfl) rfl ?_
      refine WL.y (Yl.move rfl) rfl ?_
      refine WL.y (Yl.move rfl) rfl ?_
      refine WL.y (Yl.add rfl rfl (IntWalk.i64_in _ (by omega))) rfl ?_
      refine WL.y (Yl.slice un33 sz45 rfl rfl ⟨_, rfl⟩ (by omega) (by omega)) rfl ?_
      refine WL.viewX (fun w h => h.extend (m := 1) (by repeat constructor) (by omega)) ?_
      intro ys hys
      refine WL.say (t := 60) (v' := .slice ao (xs.length + 1) cap) rfl (by exact sub0) ?_
      refine WL.y (Yl.assign rfl) rfl ?_
      refine WL.nil ?_
      refine WC.seq ?_
      refine WC.seq ?_
      refine WC.region ?_
      refine WL.y (Yl.move rfl) rfl ?_
      refine WL.y (Yl.move rfl) rfl ?_
      refine WL.y (Yl.move rfl) rfl ?_
      refine WL.y (Yl.move rfl) rfl ?_
      refine WL.y (Yl.add rfl rfl (IntWalk.i64_in _ (by omega))) rfl ?_
      refine WL.y (Yl.slice un33 sz45 rfl ⟨_, rfl⟩ rfl (by omega) (by omega)) rfl ?_
      refine WL.y (Yl.callExt (xs := [.tmp 61, .tmp 66]) rfl rfl (fun w hw => ext_overlaps (hw.overlaps un33 sz45 (by repeat' constructor) (by omega) (by decide)))) rfl ?_
      refine WL.y (Yl.not rfl) rfl ?_
      refine WL.nil ?_
      refine WC.condT rfl (by first | rfl | (simp; done) | (simp; omega)) ?_
      refine WC.seq ?_
      refine WC.drawTail 8 mixed (by kernel_rfl) ?_
      refine WH.y (Yl.move rfl) rfl ?_
      refine WH.y (Yl.move rfl) rfl ?_
      refine WH.y (Yl.move rfl) rfl ?_
      refine WH.y (Yl.add rfl rfl (IntWalk.i64_in _ (by omega))) rfl ?_
      refine WH.say (t := 72) (v' := .int .i64 ((i + 1 : Nat) : Int)) rfl (by rfl) ?_
      refine WH.y (Yl.slice un33 sz45 rfl ⟨_, rfl⟩ rfl (by omega) (by omega)) rfl ?_
      refine WH.y (Yl.move rfl) rfl ?_
      refine WH.y (Yl.move rfl) rfl ?_
      refine WH.y (Yl.slice un33 sz45 rfl ⟨_, rfl⟩ rfl (by omega) (by omega)) rfl ?_
      refine WH.nil ?_
      refine WP.to (To.copyOwn (l := i + 1) (k := xs.length - i) (m := xs.length + 1 - i) (news := (vcs rcV xs ++ ys).drop (i * 22)) un33 sz45 rfl rfl (by repeat constructor) (Reads.of (RdOf.sub RdOf.own (by omega) (Nat.le_refl _) (List.take_of_length_le (by rw [List.length_drop, List.length_append, hlen, hys]; omega))) (by repeat constructor)) (fun u hu => by
          rw [List.drop_append_of_le_length (by omega), List.take_left' (by rw [List.length_drop, hlen, Nat.sub_mul])] at hu
          exact vtR.ones xs u (List.mem_of_mem_drop hu)) (by omega) ((Nat.min_eq_right (by omega)).trans (by omega)) rfl) rfl ?_
      rintro ⟨⟩
      refine WP.nil ?_
      refine WC.seq ?_
      refine WC.region ?_
      refine WL.y (Yl.move rfl) rfl ?_
      refine WL.y (Yl.move rfl) rfl ?_
      refine WL.y (Yl.slice un33 sz45 rfl ⟨_, rfl⟩ rfl (by omega) (by omega)) rfl ?_
      refine WL.y (Yl.move rfl) rfl ?_
      refine WL.to (To.copyOwn (l := i) (k := 1) (m := 1) (cs' := vcs rcV (xs.take i ++ x :: xs.drop i)) un33 sz45 rfl rfl (by repeat constructor) (Reads.of (rdRc hx) (by repeat constructor)) (fun u hu => Rc.ones x u (List.mem_of_mem_take hu)) (by omega) (Nat.min_eq_left (by omega))
          (by rw [show (i + 1) = 1 + i from Nat.add_comm _ _] at *; rw [Nat.add_comm 1 i]; exact (shiftL (x := x.cells) (n := xs.length) hlen hys h22 hi (by decide)).trans (by rw [rc_take hG, rc_drop hG]; exact rc_cat))) rfl ?_
      rintro ⟨⟩
      refine WL.nil ?_
      refine WC.seq ?_
      refine WC.region ?_
      refine WL.y (Yl.move rfl) rfl ?_
      refine WL.y (Yl.assign rfl) rfl ?_
      refine WL.nil ?_
      refine WC.ret ?_
      repeat (with_reducible (first | refine peelT ?_ | refine peelB ?_ | refine peelTX ?_ | refine peelBX ?_ | refine peelBN ?_ | refine peelBO rfl ?_))
      exact ret1 (.inr rfl) Tryz.results72 rfl fun w' h => ⟨(ao, cap), trivial, rfl, h.sub (by repeat' constructor)⟩
end Go.Proofs.YtbgimajbehodnaaGreatDoor

namespace Go.Proofs.YtbgimajbehodnaaGreatDoor
open Go Go.RowKit
def isFuncB (P : Program) (t : TypeId) : Bool := match P.underlying t with
  | some (.func _ _ _) => true
  | _ => false
section
variable {c : Cx} {env : Env} {ds : List Deferred} {H : List Res} {dst : Option Tmp} {ty : TypeId} {pos : String} {af : Array Edge} {g : Option (Nat × Bool)}
/-- A function value that is one, against nil. -/
theorem Yl.eqNilF {t t2 : TypeId} {x y : Operand} {f : Go.Fn} {rv cap : Array Value} (hb : isFuncB c.P t = true) (hx : ev env x = some (.func f rv cap)) (hy : ev env y = some .nilFunc) : Yl c env ds H ⟨dst, .binOp .eql t x y t2, ty, pos, af, g⟩ (.bool false) := fun a w ha _ => by
  obtain ⟨p, r, vd, hu⟩ : ∃ p r vd, c.P.underlying t = some (.func p r vd) := by
    unfold isFuncB at hb
    split at hb
    · rename_i p r vd h; exact ⟨p, r, vd, h⟩
    · cases hb
  have e1 : (Op.equal t (.func f rv cap) .nilFunc).run c.P w = .ok false w := by
    have e1 : Op.equal t (.func f rv cap) .nilFunc = Op.equalIn (9999 + 1) t (.func f rv cap) .nilFunc := rfl
    rw [e1, Op.equalIn, Sem.run_bind, run_underlying hu w]
    simp
  simp [execOp, ha.ev hx, ha.ev hy, eqGuard, binOp, e1]
theorem Yl.eqNilN {t t2 : TypeId} {x y : Operand} (hb : isFuncB c.P t = true) (hx : ev env x = some .nilFunc) (hy : ev env y = some .nilFunc) : Yl c env ds H ⟨dst, .binOp .eql t x y t2, ty, pos, af, g⟩ (.bool true) := fun a w ha _ => by
  obtain ⟨p, r, vd, hu⟩ : ∃ p r vd, c.P.underlying t = some (.func p r vd) := by
    unfold isFuncB at hb
    split at hb
    · rename_i p r vd h; exact ⟨p, r, vd, h⟩
    · cases hb
  have e1 : (Op.equal t .nilFunc .nilFunc).run c.P w = .ok true w := by
    have e1 : Op.equal t .nilFunc .nilFunc = Op.equalIn (9999 + 1) t .nilFunc .nilFunc := rfl
    rw [e1, Op.equalIn, Sem.run_bind, run_underlying hu w]
    simp
  simp [execOp, ha.ev hx, ha.ev hy, eqGuard, binOp, e1]
end
theorem all_any (gf : Nat) (lb : List Value) (w : World) (hw : OK w (fpL []) [] w) : Fn Tryz.prog 46 [.func (.func gf) #[] lb.toArray] [] w (fun _ : Unit => True) (fun _ => .func (.func gf) #[] lb.toArray) (fun _ => []) := by
  refine enterF Tryz.func46 rfl Tryz.ntmps46 rfl hw ?_
  refine WC.seq ?_
  refine WC.region ?_
  refine WL.y (Yl.assign rfl) rfl ?_
  refine WL.nil ?_
  refine WC.seq ?_
  refine WC.seq ?_
  refine WC.region ?_
  refine WL.y (Yl.move rfl) rfl ?_
  refine WL.y (Yl.eqNilF (by kernel_rfl) rfl rfl) rfl ?_
  refine WL.know (t := 4) (b' := false) rfl (by first | rfl | (simp; done) | (simp; omega)) ?_
  refine WL.nil ?_
  refine WC.condF rfl (by first | rfl | (simp; done) | (simp; omega)) ?_
  refine WC.skip ?_
  refine WC.seq ?_
  refine WC.region ?_
  refine WL.y (Yl.move rfl) rfl ?_
  refine WL.y (Yl.assign rfl) rfl ?_
  refine WL.nil ?_
  refine WC.ret ?_
  repeat (with_reducible (first | refine peelT ?_ | refine peelB ?_ | refine peelTX ?_ | refine peelBX ?_ | refine peelBN ?_ | refine peelBO rfl ?_))
  exact ret1 (.inr rfl) Tryz.results46 rfl fun w' h => ⟨(), trivial, rfl, h.sub (by repeat' constructor)⟩
theorem none_iter (w : World) (hA : OK w (fpL []) [] w) : Iter Tryz.prog 86 ([] : List Value).toArray (fpL []).rd (ysR []) w := by
  have hwr : ∀ r ∈ ([] : List Res), ∀ k, ¬ r.wr k := fun r hr => nomatch hr
  refine iter_of Tryz.func86 rfl Tryz.ntmps86 rfl hA hwr ?_
  intro l W g gx T0 hy
  refine WC.skip ?_
  repeat (with_reducible (first | refine peelT ?_ | refine peelB ?_ | refine peelTX ?_ | refine peelBX ?_ | refine peelBN ?_ | refine peelBO rfl ?_))
  first | exact itEnd (.inl rfl) Tryz.results86 (by repeat constructor) | exact itEnd (.inr rfl) Tryz.results86 (by repeat constructor)
theorem all_nil (w : World) (hw : OK w (fpL []) [] w) : Fn Tryz.prog 46 [.nilFunc] [] w (fun _ : Nat → Prop => True) (fun _ => .func (.func 86) #[] ([] : List Value).toArray) (fun y => [itR Tryz.prog 86 [] y (ysR [])]) := by
  refine enterF Tryz.func46 rfl Tryz.ntmps46 rfl hw ?_
  refine WC.seq ?_
  refine WC.region ?_
  refine WL.y (Yl.assign rfl) rfl ?_
  refine WL.nil ?_
  refine WC.seq ?_
  refine WC.seq ?_
  refine WC.region ?_
  refine WL.y (Yl.move rfl) rfl ?_
  refine WL.y (Yl.eqNilN (by kernel_rfl) rfl rfl) rfl ?_
  refine WL.know (t := 4) (b' := true) rfl (by first | rfl | (simp; done) | (simp; omega)) ?_
  refine WL.nil ?_
  refine WC.condT rfl (by first | rfl | (simp; done) | (simp; omega)) ?_
  refine WC.seq ?_
  refine WC.region ?_
  refine WL.y (Yl.assign rfl) rfl ?_
  refine WL.nil ?_
  refine WC.ret ?_
  repeat (with_reducible (first | refine peelT ?_ | refine peelB ?_ | refine peelTX ?_ | refine peelBX ?_ | refine peelBN ?_ | refine peelBO rfl ?_))
  refine ret1 (.inr rfl) Tryz.results46 rfl fun w' hh => ⟨(fpL []).rd, trivial, rfl, ?_⟩
  have hA : OK w _ ([] ++ []) w' := hh.sub (by repeat' constructor)
  exact hA.toIter (none_iter w' hA.here) (fun k hk => hk)
set_option maxRecDepth 100000 in
theorem ofN_any (gf : Nat) (lb : List Value) (own : Nat → Prop) (xs : List Rc) (hG : ROk xs) (eg : ∀ args w, (callFunc gf args).run Tryz.prog w = .ok (.enter gf args) w) (w : World) (hw : OK w (fpL [itR Tryz.prog gf lb own (ysR xs)]) [itR Tryz.prog gf lb own (ysR xs)] w) :
    Fn Tryz.prog 13 [.func (.func gf) #[] lb.toArray] [itR Tryz.prog gf lb own (ysR xs)] w (fun _ : Unit => True) (fun _ => smV (sumS xs)) (fun _ => []) := by
  refine enterM Tryz.func13 rfl Tryz.ntmps13 rfl hw ?_
  refine WC.seq ?_
  refine WC.region ?_
  refine WL.to (To.alloc (cs := Sm.zero.cells) zr37 rfl) rfl ?_
  intro b2
  refine WL.nil ?_
  refine WC.seq ?_
  refine WC.region ?_
  refine WL.to (To.alloc (cs := Sm.zero.cells) zr37 rfl) rfl ?_
  intro b3
  refine WL.nil ?_
  refine WC.seq ?_
  refine WC.seq ?_
  refine WC.region ?_
  refine WL.y (Yl.move rfl) rfl ?_
  refine WL.callC (xs := [.tmp 5]) (cap := []) rfl rfl en46 (by repeat' constructor) (fun w hw => all_any gf lb w hw.left.here) rfl ?_
  rintro ⟨⟩ -
  refine WL.nil ?_
  refine WC.block ?_
  refine WC.range (α := Unit) (lb := lb) (xs := ysR xs) (fun i _ => [blkR b3 37 (sumS (xs.take i)).cells]) (fun _ _ => True) () rfl eg ysR_size rfl (by repeat constructor) trivial (by repeat' constructor) ?_ ?_
  · rintro l2 i y ⟨⟩ hx - W
    dsimp only
    obtain ⟨x, hx0, rfl⟩ := ysR_at hx
    have hxo := hG.get hx0
    have h22 := Rc.cells_len hxo.len
    have hnx : xs.take (i + 1) = xs.take i ++ [x] := (take_snoc _ _ _ hx0).symm
    have hto : ∀ r ∈ xs.take i, r.ok := fun r hr => hG r (List.mem_of_mem_take hr)
    have hso := sumS_ok hto
    show WC _ _ _ ((7, .agg x.cells.toArray) :: _) _ _
    refine WC.region ?_
    refine WL.to (To.alloc (cs := Rc.zero.cells) zr45 rfl) rfl ?_
    intro b4
    refine WL.sto (Sto.agg sz45 rfl rfl (by repeat constructor) (Rc.ones _) h22 (by rfl) (Rc.all (r := Rc.zero) rfl x.cells h22)) (fun _ h => nomatch h) ?_
    refine WL.nil ?_
    repeat (with_reducible (first | refine peelT ?_ | refine peelB ?_ | refine peelTX ?_ | refine peelBX ?_ | refine peelBN ?_ | refine peelBO rfl ?_))
    refine fun W2 => ?_
    refine WC.block ?_
    refine WC.drawLast 4 (Hs := [blkR b3 37 (sumS (xs.take i)).cells, blkR b4 45 x.cells]) rfl rfl mixed (by kernel_rfl) ⟨_, (by repeat' constructor)⟩ ?_
    try dsimp only [List.dropLast]
    refine WD.tk 0 rfl (by kernel_rfl) rfl rfl (Yl.loadN ag37 rfl (by repeat constructor) (leBl (by rw [Sm.cells_len hso.ol]; omega)) (Sm.call hso.ol)) rfl ?_
    refine WD.tk 1 rfl (by kernel_rfl) rfl rfl (Yl.loadN ag45 rfl (by repeat constructor) (leBl (by rw [h22]; omega)) (Rc.call hxo.len)) rfl ?_
    refine WD.one 2 (by kernel_rfl) ?_
    refine WO.callC (xs := [.tmp 9]) (cap := []) rfl .no rfl rfl en47 (by repeat' constructor) (fun w hw => one_any x hxo w hw.left.here) rfl (fun _ => ⟨_, (by repeat' constructor)⟩) ?_
    rintro ⟨⟩ -
    refine WD.one 3 (by kernel_rfl) ?_
    refine WO.callC (xs := [.tmp 8, .tmp 10]) (cap := []) rfl .no rfl rfl en16 (by repeat' constructor) (fun w hw => join_any (sumS (xs.take i)) (oneS x) hso (oneS_ok hxo) w hw.left.here) rfl (fun _ => ⟨_, (by repeat' constructor)⟩) ?_
    rintro ⟨⟩ -
    rw [← sumS_snoc, ← hnx]
    refine WD.done (by kernel_rfl) ?_
    refine ⟨_, (Sto.agg sz37 rfl rfl (by repeat constructor) (Sm.ones _) (Sm.cells_len (sumS_ok (fun r hr => hG r (List.mem_of_mem_take hr))).ol) (by rw [Sm.cells_len hso.ol]; rfl) (putAll (Sm.cells_len hso.ol))), ?_⟩
    repeat (with_reducible (first | refine peelT ?_ | refine peelB ?_ | refine peelTX ?_ | refine peelBX ?_ | refine peelBN ?_ | refine peelBO rfl ?_))
    exact ⟨[blkR b3 37 (sumS (xs.take (i + 1))).cells], _, (by repeat' constructor), (), trivial, rfl⟩
  · rintro ⟨⟩ D -
    rw [ysR_len, List.take_length]
    dsimp only [List.cons_append, List.nil_append]
    have hsl := (sumS_ok hG).ol
    refine WC.seq ?_
    refine WC.region ?_
    refine WL.y (Yl.loadN ag37 rfl (by repeat constructor) (leBl (by rw [Sm.cells_len hsl]; omega)) (Sm.call hsl)) rfl ?_
    refine WL.sto (Sto.agg sz37 rfl rfl (by repeat constructor) (Sm.ones _) (Sm.cells_len hsl) (by rfl) (putAll rfl)) (fun _ h => nomatch h) ?_
    refine WL.nil ?_
    refine WC.ret ?_
    repeat (with_reducible (first | refine peelT ?_ | refine peelB ?_ | refine peelTX ?_ | refine peelBX ?_ | refine peelBN ?_ | refine peelBO rfl ?_))
    refine retM.of (.cons (by repeat constructor) .nil) ?_
    exact retC1 (.inr rfl) Tryz.results13 ag37 rfl (by repeat constructor) (Sm.cells_len hsl) fun w' h => ⟨(), trivial, rfl, h.sub (by repeat' constructor)⟩
end Go.Proofs.YtbgimajbehodnaaGreatDoor
