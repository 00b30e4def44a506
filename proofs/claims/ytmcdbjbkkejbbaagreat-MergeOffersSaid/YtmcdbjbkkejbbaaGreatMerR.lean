/- The reference's books: ranks, order: the walks. -/
import Derived.Test.YtmcdbjbkkejbbaaGreatMerI
import Derived.Test.YtmcdbjbkkejbbaaGreatLibO
namespace Go.Proofs.YtmcdbjbkkejbbaaGreat
open Go Go.RowKit
def rrF (o : Int) : Int := if rkF o < 0 then 7 else rkF o
theorem rank_any (o : Int) (w : World) (hw : OK w (fpL []) [] w) :
    Fn Tryz.prog 67 [.int .u8 o] [] w (fun _ : Unit => True) (fun _ => .int .i64 (rrF o)) (fun _ => []) := by
  refine enterF Tryz.func67 rfl Tryz.ntmps67 rfl hw ?_
  refine WC.seq ?_
  refine WC.region ?_
  refine WL.y (Yl.assign rfl) rfl ?_ -- t2
  refine WL.nil ?_
  refine WC.seq ?_
  refine WC.region ?_
  refine WL.to (To.buildSlice (vs := [.int .u8 1, .int .u8 4, .int .u8 2, .int .u8 7, .int .u8 5, .int .u8 6, .int .u8 3]) un23 zs5 rfl rfl (by simp [Value.cells]) (by decide) (by decide)) rfl ?_ -- t5
  intro b5
  rw [show flat [.int .u8 1, .int .u8 4, .int .u8 2, .int .u8 7, .int .u8 5, .int .u8 6, .int .u8 3] = ints .u8 rkL from rfl]
  refine WL.y (Yl.assign rfl) rfl ?_ -- t3
  refine WL.nil ?_
  refine WC.seq ?_
  refine WC.seq ?_
  refine WC.region ?_
  refine WL.y (Yl.assign rfl) rfl ?_ -- t4
  refine WL.nil ?_
  refine WC.block ?_
  refine WC.loop (α := Nat) (fun k => [(0, .int .u8 o), (3, .slice (some ⟨b5, 0, none⟩) 7 7), (4, .int .i64 (k : Int))]) (fun _ => [blkR b5 5 (ints .u8 rkL)]) (fun k => k ≤ 7 ∧ ∀ (j : Nat) z, j < k → rkL[j]? = some z → o ≠ z) (fun k => 7 - k) 0 ⟨Nat.zero_le _, fun j z h => by omega⟩ ⟨(by repeat (first | exact Sub.nil | refine Sub.cons rfl ?_)), _, (by repeat (first | exact TakeL.nil | (apply TakeL.cons; · repeat (first | exact Take1.head | apply Take1.tail))))⟩ ?_
  rintro k ⟨hk, hno⟩
  refine WC.seq ?_
  refine WC.seq ?_
  refine WC.region ?_
  refine WL.y (Yl.move rfl) rfl ?_ -- t6
  refine WL.y (Yl.lss rfl rfl) rfl ?_ -- t7
  refine WL.nil ?_
  refine WC.condD rfl (fun g7 => ?_) (fun g7 => ?_)
  · refine WC.skip ?_
    refine WC.seq ?_
    refine WC.block ?_
    refine WC.seq ?_
    refine WC.region ?_
    refine WL.y (Yl.move rfl) rfl ?_ -- t10
    refine WL.y (Yl.move rfl) rfl ?_ -- t11
    have hk7 : k < rkL.length := by have : rkL.length = 7 := rfl; omega
    obtain ⟨z, hz⟩ : ∃ z, rkL[k]? = some z := ⟨_, List.getElem?_eq_getElem hk7⟩
    refine WL.y (Yl.index un23 sz5 rfl rfl (Reads.of (RdOf.blk (size := 1) (n := 7) (cs := ints .u8 rkL) (cs' := ints .u8 rkL) (Nat.le_refl _) (by unfold maxLen; omega) (by decide) rfl) (by repeat (first | exact Take1.head | apply Take1.tail))) rfl (by omega)) rfl ?_ -- t12
    refine WL.y (Yl.loadE on5 rfl (Reads.of (RdOf.blk (size := 1) (n := 7) (cs := ints .u8 rkL) (cs' := ints .u8 rkL) (Nat.le_refl _) (by unfold maxLen; omega) (by decide) rfl) (by repeat (first | exact Take1.head | apply Take1.tail))) (u := .int .u8 z) (by simp [ints, hz])) rfl ?_
    refine WL.y (Yl.move rfl) rfl ?_ -- t14
    refine WL.y (Yl.eql rfl rfl) rfl ?_ -- t15
    refine WL.nil ?_
    refine WC.condD rfl (fun g15 => ?_) (fun g15 => ?_)
    · refine WC.seq ?_
      refine WC.region ?_
      refine WL.y (Yl.move rfl) rfl ?_ -- t16
      refine WL.y (Yl.assign rfl) rfl ?_ -- t2
      refine WL.nil ?_
      refine WC.ret ?_
      repeat (first | (with_reducible refine peelT ?_) | (with_reducible refine peelB ?_) | (with_reducible refine peelTX ?_) | (with_reducible refine peelBX ?_) | (with_reducible refine peelBN ?_) | (with_reducible refine peelBO rfl ?_))
      obtain ⟨hjl, hje⟩ := List.getElem?_eq_some_iff.1 hz
      have e : rkL.findIdx? (fun z => decide (o = z)) = some k := List.findIdx?_eq_some_iff_getElem.2 ⟨hjl, by rw [hje]; simpa using g15.symm, fun j hj => by
        have := hno j _ hj (List.getElem?_eq_getElem (by omega))
        simp [this]⟩
      have e2 := idx_rk o
      unfold idxF at e2
      rw [e] at e2
      dsimp only at e2
      have e3 : rrF o = (k : Int) := by unfold rrF; rw [← e2, if_neg (by omega)]
      exact ret1 (.inr rfl) Tryz.results67 rfl fun w' h => ⟨(), trivial, by rw [e3], h.sub (by repeat (first | exact TakeL.nil | (apply TakeL.cons; · repeat (first | exact Take1.head | apply Take1.tail))))⟩
    · refine WC.skip ?_
      refine WC.region ?_
      refine WL.y (Yl.move rfl) rfl ?_ -- t8
      refine WL.y (Yl.add rfl rfl (IntWalk.i64_in _ (by omega))) rfl ?_ -- t9
      refine WL.y (Yl.assign rfl) rfl ?_ -- t4
      refine WL.nil ?_
      exact ⟨rfl, k + 1, ⟨by omega, fun j y hj hy => by
        by_cases e : j = k
        · subst e
          rw [hz] at hy
          cases hy
          exact fun e => g15 e.symm
        · exact hno j y (by omega) hy⟩, by omega, (by repeat (first | exact Sub.nil | refine Sub.cons rfl ?_)), _, (by repeat (first | exact TakeL.nil | (apply TakeL.cons; · repeat (first | exact Take1.head | apply Take1.tail))))⟩
  · refine WC.exit ?_
    refine WC.seq ?_
    refine WC.region ?_
    refine WL.y (Yl.assign rfl) rfl ?_ -- t2
    refine WL.nil ?_
    refine WC.ret ?_
    repeat (first | (with_reducible refine peelT ?_) | (with_reducible refine peelB ?_) | (with_reducible refine peelTX ?_) | (with_reducible refine peelBX ?_) | (with_reducible refine peelBN ?_) | (with_reducible refine peelBO rfl ?_))
    have hk7 : k = 7 := by omega
    have e : rkL.findIdx? (fun z => decide (o = z)) = none := List.findIdx?_eq_none_iff.2 fun z hz => by
      obtain ⟨j, hj⟩ := List.mem_iff_getElem?.1 hz
      have h7 : rkL.length = 7 := rfl
      exact decide_eq_false (hno j z (by have := (List.getElem?_eq_some_iff.1 hj).1; omega) hj)
    have e2 := idx_rk o
    unfold idxF at e2
    rw [e] at e2
    dsimp only at e2
    have e3 : rrF o = 7 := by unfold rrF; rw [← e2]; rfl
    exact ret1 (.inr rfl) Tryz.results67 rfl fun w' h => ⟨(), trivial, by rw [e3], h.sub (by repeat (first | exact TakeL.nil | (apply TakeL.cons; · repeat (first | exact Take1.head | apply Take1.tail))))⟩
theorem Rc.cidk {r : Rc} {k : Nat} {z : Int} (h : r.id[k]? = some z) : r.cells[k]? = some (.int .u8 z) := by
  unfold Rc.cells
  have hl := (List.getElem?_eq_some_iff.1 h).1
  rw [List.getElem?_append_left (by rw [ints_length]; exact hl)]
  simp [ints, h]
theorem lex_drop {xs ys : List Int} {k : Nat} {x y : Int} (hx : xs[k]? = some x) (hy : ys[k]? = some y) : lexF (xs.drop k) (ys.drop k) = if x < y then -1 else if y < x then 1 else lexF (xs.drop (k + 1)) (ys.drop (k + 1)) := by
  have h1 : xs.drop k = x :: xs.drop (k + 1) := by rw [List.drop_eq_getElem?_toList_append, hx]; rfl
  have h2 : ys.drop k = y :: ys.drop (k + 1) := by rw [List.drop_eq_getElem?_toList_append, hy]; rfl
  rw [h1, h2]
  rfl
theorem less_any (p q : Rc) (hp : p.ok) (hq : q.ok) (w : World) (hw : OK w (fpL []) [] w) :
    Fn Tryz.prog 68 [.agg p.cells.toArray, .agg q.cells.toArray] [] w (fun _ : Unit => True) (fun _ => .bool (decide (ordF p q < 0))) (fun _ => []) := by
  have hpl := hp.len
  have hql := hq.len
  refine enterF Tryz.func68 rfl Tryz.ntmps68 rfl hw ?_
  refine WC.seq ?_
  refine WC.region ?_
  refine WL.to (To.box (cs := p.cells) rfl rfl) rfl ?_ -- t2
  intro b2
  refine WL.to (To.box (cs := q.cells) rfl rfl) rfl ?_ -- t3
  intro b3
  refine WL.y (Yl.assign rfl) rfl ?_ -- t4
  refine WL.nil ?_
  refine WC.seq ?_
  refine WC.seq ?_
  refine WC.region ?_
  refine WL.y (Yl.field fo33_6 rfl) rfl ?_ -- t6
  refine WL.y (Yl.load on31 rfl (by repeat (first | exact Take1.head | apply Take1.tail)) (Rc.c21 hp.len)) rfl ?_ -- t7
  refine WL.y (Yl.field fo33_6 rfl) rfl ?_ -- t8
  refine WL.y (Yl.load on31 rfl (by repeat (first | exact Take1.head | apply Take1.tail)) (Rc.c21 hq.len)) rfl ?_ -- t9
  refine WL.y (Yl.neq rfl rfl) rfl ?_ -- t10
  refine WL.nil ?_
  refine WC.condD rfl (fun g10 => ?_) (fun g10 => ?_)
  · refine WC.seq ?_
    refine WC.region ?_
    refine WL.y (Yl.field fo33_6 rfl) rfl ?_ -- t11
    refine WL.y (Yl.load on31 rfl (by repeat (first | exact Take1.head | apply Take1.tail)) (Rc.c21 hp.len)) rfl ?_ -- t12
    refine WL.y (Yl.field fo33_6 rfl) rfl ?_ -- t13
    refine WL.y (Yl.load on31 rfl (by repeat (first | exact Take1.head | apply Take1.tail)) (Rc.c21 hq.len)) rfl ?_ -- t14
    refine WL.y (Yl.lss rfl rfl) rfl ?_ -- t15
    refine WL.y (Yl.assign rfl) rfl ?_ -- t4
    refine WL.nil ?_
    refine WC.ret ?_
    repeat (first | (with_reducible refine peelT ?_) | (with_reducible refine peelB ?_) | (with_reducible refine peelTX ?_) | (with_reducible refine peelBX ?_) | (with_reducible refine peelBN ?_) | (with_reducible refine peelBO rfl ?_))
    have e : ordF p q = cmpI p.en q.en := by
      rw [ord_or, if_pos]
      unfold cmpI
      split
      · omega
      · rw [if_pos (by omega)]; omega
    have e2 : decide (ordF p q < 0) = decide (p.en < q.en) := by
      rw [e]
      unfold cmpI
      refine decide_eq_decide.2 ?_
      split
      · simp_all
      · split <;> simp_all
    exact ret1 (.inr rfl) Tryz.results68 rfl fun w' h => ⟨(), trivial, by rw [e2], h.sub (by repeat (first | exact TakeL.nil | (apply TakeL.cons; · repeat (first | exact Take1.head | apply Take1.tail))))⟩
  · refine WC.skip ?_
    refine WC.seq ?_
    refine WC.seq ?_
    have he : ordF p q = lexF p.id q.id := by
      rw [ord_or, if_neg]
      have h10 : p.en = q.en := by simpa using g10
      unfold cmpI
      rw [h10]
      simp
    refine WC.region ?_
    refine WL.y (Yl.assign rfl) rfl ?_ -- t5
    refine WL.nil ?_
    refine WC.block ?_
    refine WC.loop (α := Nat) (fun k => [(2, .pointer (some ⟨b2, 0, none⟩)), (3, .pointer (some ⟨b3, 0, none⟩)), (5, .int .i64 (k : Int))]) (fun _ => [blkR b2 33 p.cells, blkR b3 33 q.cells]) (fun k => k ≤ 16 ∧ lexF p.id q.id = lexF (p.id.drop k) (q.id.drop k)) (fun k => 16 - k) 0 ⟨Nat.zero_le _, rfl⟩ ⟨(by repeat (first | exact Sub.nil | refine Sub.cons rfl ?_)), _, (by repeat (first | exact TakeL.nil | (apply TakeL.cons; · repeat (first | exact Take1.head | apply Take1.tail))))⟩ ?_
    rintro k ⟨hk, hlx⟩
    refine WC.seq ?_
    refine WC.seq ?_
    refine WC.region ?_
    refine WL.y (Yl.move rfl) rfl ?_ -- t16
    refine WL.y (Yl.lss rfl rfl) rfl ?_ -- t17
    refine WL.nil ?_
    refine WC.condD rfl (fun g17 => ?_) (fun g17 => ?_)
    · refine WC.skip ?_
      refine WC.seq ?_
      refine WC.block ?_
      refine WC.seq ?_
      have hk16 : k < 16 := by omega
      obtain ⟨x, hx⟩ : ∃ x, p.id[k]? = some x := ⟨_, List.getElem?_eq_getElem (by omega)⟩
      obtain ⟨y, hy⟩ : ∃ y, q.id[k]? = some y := ⟨_, List.getElem?_eq_getElem (by omega)⟩
      have hpc := Rc.cidk hx
      have hqc := Rc.cidk hy
      have hld := lex_drop hx hy
      rw [← hlx] at hld
      refine WC.drawRead mixed (by kernel_rfl) ?_
      refine WH.y (Yl.move rfl) rfl ?_ -- t20
      refine WH.y (Yl.field fo33_0 rfl) rfl ?_ -- t21
      refine WH.y (Yl.indexA un30 sz5 rfl rfl rfl (by omega)) rfl ?_ -- t22
      refine WH.y (Yl.load on5 rfl (by repeat (first | exact Take1.head | apply Take1.tail)) (show p.cells[_]? = some (.int .u8 x) by simpa using hpc)) rfl ?_ -- t23
      refine WH.y (Yl.move rfl) rfl ?_ -- t24
      refine WH.y (Yl.field fo33_0 rfl) rfl ?_ -- t25
      refine WH.y (Yl.indexA un30 sz5 rfl rfl rfl (by omega)) rfl ?_ -- t26
      refine WH.y (Yl.load on5 rfl (by repeat (first | exact Take1.head | apply Take1.tail)) (show q.cells[_]? = some (.int .u8 y) by simpa using hqc)) rfl ?_ -- t27
      refine WH.y (Yl.neq rfl rfl) rfl ?_ -- t28
      refine WH.nil ?_
      refine WC.condD rfl (fun g28 => ?_) (fun g28 => ?_)
      · refine WC.seq ?_
        refine WC.drawAny (Hs := [blkR b2 33 p.cells, blkR b3 33 q.cells]) mixed (by kernel_rfl) ⟨_, (by repeat (first | exact TakeL.nil | (apply TakeL.cons; · repeat (first | exact Take1.head | apply Take1.tail))))⟩ ?_
        refine WD.take 0 rfl (by kernel_rfl) (by kernel_rfl) (by kernel_rfl) rfl rfl (Yl.move rfl) rfl ?_ -- t29
        refine WD.take 1 rfl (by kernel_rfl) (by kernel_rfl) (by kernel_rfl) rfl rfl (Yl.field fo33_0 rfl) rfl ?_ -- t30
        refine WD.take 2 rfl (by kernel_rfl) (by kernel_rfl) (by kernel_rfl) rfl rfl (Yl.indexA un30 sz5 rfl rfl rfl (by omega)) rfl ?_ -- t31
        refine WD.take 3 rfl (by kernel_rfl) (by kernel_rfl) (by kernel_rfl) rfl rfl (Yl.load on5 rfl (by repeat (first | exact Take1.head | apply Take1.tail)) (show p.cells[_]? = some (.int .u8 x) by simpa using hpc)) rfl ?_ -- t32
        refine WD.take 4 rfl (by kernel_rfl) (by kernel_rfl) (by kernel_rfl) rfl rfl (Yl.move rfl) rfl ?_ -- t33
        refine WD.take 5 rfl (by kernel_rfl) (by kernel_rfl) (by kernel_rfl) rfl rfl (Yl.field fo33_0 rfl) rfl ?_ -- t34
        refine WD.take 6 rfl (by kernel_rfl) (by kernel_rfl) (by kernel_rfl) rfl rfl (Yl.indexA un30 sz5 rfl rfl rfl (by omega)) rfl ?_ -- t35
        refine WD.take 7 rfl (by kernel_rfl) (by kernel_rfl) (by kernel_rfl) rfl rfl (Yl.load on5 rfl (by repeat (first | exact Take1.head | apply Take1.tail)) (show q.cells[_]? = some (.int .u8 y) by simpa using hqc)) rfl ?_ -- t36
        refine WD.take 8 rfl (by kernel_rfl) (by kernel_rfl) (by kernel_rfl) rfl rfl (Yl.lss rfl rfl) rfl ?_ -- t37
        refine WD.take 9 rfl (by kernel_rfl) (by kernel_rfl) (by kernel_rfl) rfl rfl (Yl.assign rfl) rfl ?_ -- t4
        refine WD.done (by kernel_rfl) ?_
        refine WC.ret ?_
        repeat (first | (with_reducible refine peelT ?_) | (with_reducible refine peelB ?_) | (with_reducible refine peelTX ?_) | (with_reducible refine peelBX ?_) | (with_reducible refine peelBN ?_) | (with_reducible refine peelBO rfl ?_))
        have e2 : decide (ordF p q < 0) = decide (x < y) := by
          rw [he, hld]
          refine decide_eq_decide.2 ?_
          have hne : x ≠ y := by simpa using g28
          split
          · rename_i h; exact ⟨fun _ => h, fun _ => by omega⟩
          · rw [if_pos (by omega)]
            constructor
            · intro h; omega
            · intro h; omega
        exact ret1 (.inr rfl) Tryz.results68 rfl fun w' h => ⟨(), trivial, by rw [e2], h.sub (by repeat (first | exact TakeL.nil | (apply TakeL.cons; · repeat (first | exact Take1.head | apply Take1.tail))))⟩
      · refine WC.skip ?_
        refine WC.region ?_
        refine WL.y (Yl.move rfl) rfl ?_ -- t18
        refine WL.y (Yl.add rfl rfl (IntWalk.i64_in _ (by omega))) rfl ?_ -- t19
        refine WL.y (Yl.assign rfl) rfl ?_ -- t5
        refine WL.nil ?_
        have hxy : x = y := by simpa using g28
        exact ⟨rfl, k + 1, ⟨by omega, by rw [hld, if_neg (by omega), if_neg (by omega)]⟩, by omega, (by repeat (first | exact Sub.nil | refine Sub.cons rfl ?_)), _, (by repeat (first | exact TakeL.nil | (apply TakeL.cons; · repeat (first | exact Take1.head | apply Take1.tail))))⟩
    · refine WC.exit ?_
      refine WC.seq ?_
      refine WC.region ?_
      refine WL.y (Yl.assign rfl) rfl ?_ -- t4
      refine WL.nil ?_
      refine WC.ret ?_
      repeat (first | (with_reducible refine peelT ?_) | (with_reducible refine peelB ?_) | (with_reducible refine peelTX ?_) | (with_reducible refine peelBX ?_) | (with_reducible refine peelBN ?_) | (with_reducible refine peelBO rfl ?_))
      have hk16 : k = 16 := by omega
      subst hk16
      have e2 : decide (ordF p q < 0) = false := by
        rw [he, hlx, List.drop_of_length_le (by omega), List.drop_of_length_le (by omega)]
        rfl
      exact ret1 (.inr rfl) Tryz.results68 rfl fun w' h => ⟨(), trivial, by rw [e2], h.sub (by repeat (first | exact TakeL.nil | (apply TakeL.cons; · repeat (first | exact Take1.head | apply Take1.tail))))⟩
theorem bytesLess_lex : ∀ {xs ys : List Int}, (∀ x ∈ xs, 0 ≤ x ∧ x < 256) → (∀ y ∈ ys, 0 ≤ y ∧ y < 256) → Op.bytesLess (Lib.bytesOf xs) (Lib.bytesOf ys) = decide (lexF xs ys < 0)
  | [], [], _, _ => rfl
  | [], _ :: _, _, _ => rfl
  | _ :: _, [], _, _ => rfl
  | x :: xs, y :: ys, h1, h2 => by
    have ih := bytesLess_lex (xs := xs) (ys := ys) (fun z hz => h1 z (by simp [hz])) (fun z hz => h2 z (by simp [hz]))
    have hx := h1 x (by simp)
    have hy := h2 y (by simp)
    have e1 : Lib.bytesOf (x :: xs) = UInt8.ofNat x.toNat :: Lib.bytesOf xs := rfl
    have e2 : Lib.bytesOf (y :: ys) = UInt8.ofNat y.toNat :: Lib.bytesOf ys := rfl
    rw [e1, e2]
    unfold Op.bytesLess
    rw [ih]
    have hl : decide (UInt8.ofNat x.toNat < UInt8.ofNat y.toNat) = decide (x < y) := decide_eq_decide.2 (u8_lt hx hy)
    have hb : (UInt8.ofNat x.toNat == UInt8.ofNat y.toNat) = decide (x = y) := by
      by_cases h : x = y
      · simp [h]
      · rw [decide_eq_false h, beq_eq_false_iff_ne]
        intro e
        have := congrArg UInt8.toNat e
        simp only [UInt8.toNat_ofNat'] at this
        omega
    rw [hl, hb]
    show _ = decide ((if x < y then (-1 : Int) else if y < x then 1 else lexF xs ys) < 0)
    by_cases h : x < y
    · rw [if_pos h, decide_eq_true h]; rfl
    · by_cases h' : y < x
      · rw [if_neg h, if_pos h', decide_eq_false h, decide_eq_false (show ¬ x = y by omega)]; rfl
      · rw [if_neg h, if_neg h', decide_eq_false h, decide_eq_true (show x = y by omega)]; rfl
section
variable {c : Cx} {env : Env} {ds : List Deferred} {H : List Res} {dst : Option Tmp} {ty : TypeId} {pos : String} {af : Array Edge} {g : Option (Nat × Bool)}
theorem Yl.sLss {t t2 : TypeId} {x y : Operand} {xs ys : List Int} (h1 : ∀ x ∈ xs, 0 ≤ x ∧ x < 256) (h2 : ∀ y ∈ ys, 0 ≤ y ∧ y < 256) (hx : ev env x = some (.string (strOfNums xs))) (hy : ev env y = some (.string (strOfNums ys))) : Yl c env ds H ⟨dst, .binOp .lss t x y t2, ty, pos, af, g⟩ (.bool (decide (lexF xs ys < 0))) := fun a w ha _ => by
  rw [← bytesLess_lex h1 h2]
  simp [execOp, ha.ev hx, ha.ev hy, eqGuard, binOp, Op.stringOp, Go.Lib.strOfNums_toList]
end
theorem rr_rk {o : Int} (h : 0 ≤ rkF o) : rrF o = rkF o := by unfold rrF; rw [if_neg (by omega)]
theorem may_rk {r : Rc} (h : mayB r = true) : 0 ≤ rkF r.oc := by
  unfold mayB at h
  simp only [Bool.and_eq_true, decide_eq_true_eq] at h
  obtain ⟨⟨⟨⟨_, h1⟩, h2⟩, _⟩, _⟩ := h
  have : r.oc = 1 ∨ r.oc = 2 ∨ r.oc = 3 ∨ r.oc = 4 ∨ r.oc = 5 ∨ r.oc = 6 ∨ r.oc = 7 := by omega
  unfold rkF
  rcases this with e | e | e | e | e | e | e <;> rw [e] <;> decide
theorem cmpI_eq (x y : Int) : cmpI x y = 0 ↔ x = y := by
  unfold cmpI
  split
  · omega
  · split <;> omega
theorem cmpI_lt (x y : Int) : cmpI x y < 0 ↔ x < y := by
  unfold cmpI
  split
  · omega
  · split <;> omega
theorem recB_by {r : Rc} (h : r.ok) : ∀ x ∈ recB r, 0 ≤ x ∧ x < 256 := by
  have := allB_bytes (rs := [r]) (fun q hq => by rw [List.mem_singleton.1 hq]; exact h)
  rw [show allB [r] = recB r by simp [allB]] at this
  exact this
set_option maxRecDepth 100000 in
theorem ahead_any (p q : Rc) (hp : Bk p) (hq : Bk q) (w : World) (hw : OK w (fpL []) [] w) :
    Fn Tryz.prog 36 [.agg p.cells.toArray, .agg q.cells.toArray] [] w (fun _ : Unit => True) (fun _ => .bool (decide (betF p q < 0))) (fun _ => []) := by
  have hpo := hp.ok
  have hqo := hq.ok
  have hp22 := Rc.cells_len hpo.len
  have hq22 := Rc.cells_len hqo.len
  have hpr := rr_rk (may_rk hp.may)
  have hqr := rr_rk (may_rk hq.may)
  refine enterF Tryz.func36 rfl Tryz.ntmps36 rfl hw ?_
  refine WC.seq ?_
  refine WC.region ?_
  refine WL.to (To.box (cs := p.cells) rfl rfl) rfl ?_ -- t2
  intro b2
  refine WL.to (To.box (cs := q.cells) rfl rfl) rfl ?_ -- t3
  intro b3
  refine WL.y (Yl.assign rfl) rfl ?_ -- t4
  refine WL.nil ?_
  refine WC.midE (α := Unit) (fun _ => [(5, .int .i64 (rkF p.oc)), (6, .int .i64 (rkF q.oc))]) (fun _ => [blkR b2 33 p.cells, blkR b3 33 q.cells]) (fun _ => True) ?_ ?_
  · refine WC.drawAny (Hs := [blkR b2 33 p.cells, blkR b3 33 q.cells]) mixed (by kernel_rfl) ⟨_, (by repeat (first | exact TakeL.nil | (apply TakeL.cons; · repeat (first | exact Take1.head | apply Take1.tail))))⟩ ?_
    refine WD.take 0 rfl (by kernel_rfl) (by kernel_rfl) (by kernel_rfl) rfl rfl (Yl.field fo33_3 rfl) rfl ?_ -- t7
    refine WD.take 1 rfl (by kernel_rfl) (by kernel_rfl) (by kernel_rfl) rfl rfl (Yl.load on5 rfl (by repeat (first | exact Take1.head | apply Take1.tail)) (Rc.c18 hpo.len)) rfl ?_ -- t8
    refine WD.take 3 rfl (by kernel_rfl) (by kernel_rfl) (by kernel_rfl) rfl rfl (Yl.field fo33_3 rfl) rfl ?_ -- t10
    refine WD.take 4 rfl (by kernel_rfl) (by kernel_rfl) (by kernel_rfl) rfl rfl (Yl.load on5 rfl (by repeat (first | exact Take1.head | apply Take1.tail)) (Rc.c18 hqo.len)) rfl ?_ -- t11
    refine WD.one 2 (by kernel_rfl) ?_
    refine WO.callC (xs := [.tmp 8]) (cap := []) rfl .no rfl rfl en67 (by repeat (first | exact TakeL.nil | (apply TakeL.cons; · repeat (first | exact Take1.head | apply Take1.tail)))) (fun w hw => rank_any p.oc w hw.left.here) rfl (fun _ => ⟨_, (by repeat (first | exact TakeL.nil | (apply TakeL.cons; · repeat (first | exact Take1.head | apply Take1.tail))))⟩) ?_ -- t9 hailer/hailerref36.rank
    rintro ⟨⟩ -
    rw [hpr]
    refine WD.one 5 (by kernel_rfl) ?_
    refine WO.callC (xs := [.tmp 11]) (cap := []) rfl .no rfl rfl en67 (by repeat (first | exact TakeL.nil | (apply TakeL.cons; · repeat (first | exact Take1.head | apply Take1.tail)))) (fun w hw => rank_any q.oc w hw.left.here) rfl (fun _ => ⟨_, (by repeat (first | exact TakeL.nil | (apply TakeL.cons; · repeat (first | exact Take1.head | apply Take1.tail))))⟩) ?_ -- t12 hailer/hailerref36.rank
    rintro ⟨⟩ -
    rw [hqr]
    refine WD.take 6 rfl (by kernel_rfl) (by kernel_rfl) (by kernel_rfl) rfl rfl (Yl.assign rfl) rfl ?_ -- t5
    refine WD.take 7 rfl (by kernel_rfl) (by kernel_rfl) (by kernel_rfl) rfl rfl (Yl.assign rfl) rfl ?_ -- t6
    refine WD.done (by kernel_rfl) ?_
    exact ⟨rfl, (), trivial, (by repeat (first | exact Sub.nil | refine Sub.cons rfl ?_)), (by repeat (first | exact Sub.nil | refine Sub.cons rfl ?_)), _, (by repeat (first | exact TakeL.nil | (apply TakeL.cons; · repeat (first | exact Take1.head | apply Take1.tail))))⟩
  · rintro ⟨⟩ -
    refine WC.seq ?_
    refine WC.seq ?_
    refine WC.region ?_
    refine WL.y (Yl.move rfl) rfl ?_ -- t13
    refine WL.y (Yl.move rfl) rfl ?_ -- t14
    refine WL.y (Yl.neq rfl rfl) rfl ?_ -- t15
    refine WL.nil ?_
    refine WC.condD rfl (fun g15 => ?_) (fun g15 => ?_)
    · refine WC.seq ?_
      refine WC.region ?_
      refine WL.y (Yl.move rfl) rfl ?_ -- t16
      refine WL.y (Yl.move rfl) rfl ?_ -- t17
      refine WL.y (Yl.lss rfl rfl) rfl ?_ -- t18
      refine WL.y (Yl.assign rfl) rfl ?_ -- t4
      refine WL.nil ?_
      refine WC.ret ?_
      repeat (first | (with_reducible refine peelT ?_) | (with_reducible refine peelB ?_) | (with_reducible refine peelTX ?_) | (with_reducible refine peelBX ?_) | (with_reducible refine peelBN ?_) | (with_reducible refine peelBO rfl ?_))
      have g : rkF p.oc ≠ rkF q.oc := by simpa using g15
      have e : decide (betF p q < 0) = decide (rkF p.oc < rkF q.oc) := by
        rw [bet_or, if_pos (by rw [ne_eq, cmpI_eq]; exact g)]
        exact decide_eq_decide.2 (cmpI_lt _ _)
      exact ret1 (.inr rfl) Tryz.results36 rfl fun w' h => ⟨(), trivial, by rw [e], h.sub (by repeat (first | exact TakeL.nil | (apply TakeL.cons; · repeat (first | exact Take1.head | apply Take1.tail))))⟩
    · refine WC.skip ?_
      refine WC.seq ?_
      refine WC.seq ?_
      refine WC.region ?_
      refine WL.y (Yl.field fo33_6 rfl) rfl ?_ -- t19
      refine WL.y (Yl.load on31 rfl (by repeat (first | exact Take1.head | apply Take1.tail)) (Rc.c21 hpo.len)) rfl ?_ -- t20
      refine WL.y (Yl.field fo33_6 rfl) rfl ?_ -- t21
      refine WL.y (Yl.load on31 rfl (by repeat (first | exact Take1.head | apply Take1.tail)) (Rc.c21 hqo.len)) rfl ?_ -- t22
      refine WL.y (Yl.neq rfl rfl) rfl ?_ -- t23
      refine WL.nil ?_
      refine WC.condD rfl (fun g23 => ?_) (fun g23 => ?_)
      · refine WC.seq ?_
        refine WC.region ?_
        refine WL.y (Yl.field fo33_6 rfl) rfl ?_ -- t24
        refine WL.y (Yl.load on31 rfl (by repeat (first | exact Take1.head | apply Take1.tail)) (Rc.c21 hpo.len)) rfl ?_ -- t25
        refine WL.y (Yl.field fo33_6 rfl) rfl ?_ -- t26
        refine WL.y (Yl.load on31 rfl (by repeat (first | exact Take1.head | apply Take1.tail)) (Rc.c21 hqo.len)) rfl ?_ -- t27
        refine WL.y (Yl.gtr rfl rfl) rfl ?_ -- t28
        refine WL.y (Yl.assign rfl) rfl ?_ -- t4
        refine WL.nil ?_
        refine WC.ret ?_
        repeat (first | (with_reducible refine peelT ?_) | (with_reducible refine peelB ?_) | (with_reducible refine peelTX ?_) | (with_reducible refine peelBX ?_) | (with_reducible refine peelBN ?_) | (with_reducible refine peelBO rfl ?_))
        have g1 : rkF p.oc = rkF q.oc := by simpa using g15
        have g2 : p.en ≠ q.en := by simpa using g23
        have e : decide (betF p q < 0) = decide (p.en > q.en) := by
          rw [bet_or, if_neg (by rw [ne_eq, cmpI_eq]; omega), if_pos (by rw [ne_eq, cmpI_eq]; omega)]
          exact decide_eq_decide.2 (cmpI_lt _ _)
        exact ret1 (.inr rfl) Tryz.results36 rfl fun w' h => ⟨(), trivial, by rw [e], h.sub (by repeat (first | exact TakeL.nil | (apply TakeL.cons; · repeat (first | exact Take1.head | apply Take1.tail))))⟩
      · refine WC.skip ?_
        refine WC.seq ?_
        refine WC.seq ?_
        refine WC.region ?_
        refine WL.y (Yl.field fo33_4 rfl) rfl ?_ -- t29
        refine WL.y (Yl.load on31 rfl (by repeat (first | exact Take1.head | apply Take1.tail)) (Rc.c19 hpo.len)) rfl ?_ -- t30
        refine WL.y (Yl.field fo33_4 rfl) rfl ?_ -- t31
        refine WL.y (Yl.load on31 rfl (by repeat (first | exact Take1.head | apply Take1.tail)) (Rc.c19 hqo.len)) rfl ?_ -- t32
        refine WL.y (Yl.neq rfl rfl) rfl ?_ -- t33
        refine WL.nil ?_
        refine WC.condD rfl (fun g33 => ?_) (fun g33 => ?_)
        · refine WC.seq ?_
          refine WC.region ?_
          refine WL.y (Yl.field fo33_4 rfl) rfl ?_ -- t34
          refine WL.y (Yl.load on31 rfl (by repeat (first | exact Take1.head | apply Take1.tail)) (Rc.c19 hpo.len)) rfl ?_ -- t35
          refine WL.y (Yl.field fo33_4 rfl) rfl ?_ -- t36
          refine WL.y (Yl.load on31 rfl (by repeat (first | exact Take1.head | apply Take1.tail)) (Rc.c19 hqo.len)) rfl ?_ -- t37
          refine WL.y (Yl.lss rfl rfl) rfl ?_ -- t38
          refine WL.y (Yl.assign rfl) rfl ?_ -- t4
          refine WL.nil ?_
          refine WC.ret ?_
          repeat (first | (with_reducible refine peelT ?_) | (with_reducible refine peelB ?_) | (with_reducible refine peelTX ?_) | (with_reducible refine peelBX ?_) | (with_reducible refine peelBN ?_) | (with_reducible refine peelBO rfl ?_))
          have g1 : rkF p.oc = rkF q.oc := by simpa using g15
          have g2 : p.en = q.en := by simpa using g23
          have g3 : p.bg ≠ q.bg := by simpa using g33
          have e : decide (betF p q < 0) = decide (p.bg < q.bg) := by
            rw [bet_or, if_neg (by rw [ne_eq, cmpI_eq]; omega), if_neg (by rw [ne_eq, cmpI_eq]; omega), if_pos (by rw [ne_eq, cmpI_eq]; omega)]
            exact decide_eq_decide.2 (cmpI_lt _ _)
          exact ret1 (.inr rfl) Tryz.results36 rfl fun w' h => ⟨(), trivial, by rw [e], h.sub (by repeat (first | exact TakeL.nil | (apply TakeL.cons; · repeat (first | exact Take1.head | apply Take1.tail))))⟩
        · refine WC.skip ?_
          refine WC.seq ?_
          refine WC.drawAny (Hs := [blkR b2 33 p.cells, blkR b3 33 q.cells]) mixed (by kernel_rfl) ⟨_, (by repeat (first | exact TakeL.nil | (apply TakeL.cons; · repeat (first | exact Take1.head | apply Take1.tail))))⟩ ?_
          refine WD.take 0 rfl (by kernel_rfl) (by kernel_rfl) (by kernel_rfl) rfl rfl (Yl.loadN ag33 rfl (by repeat (first | exact Take1.head | apply Take1.tail)) (leB (by rw [hp22]; omega)) (Rc.call hpo.len)) rfl ?_ -- t39
          refine WD.take 3 rfl (by kernel_rfl) (by kernel_rfl) (by kernel_rfl) rfl rfl (Yl.loadN ag33 rfl (by repeat (first | exact Take1.head | apply Take1.tail)) (leB (by rw [hq22]; omega)) (Rc.call hqo.len)) rfl ?_ -- t42
          refine WD.one 1 (by kernel_rfl) ?_
          refine WO.callC (xs := [.tmp 39]) (cap := []) rfl .no rfl rfl en11 (by repeat (first | exact TakeL.nil | (apply TakeL.cons; · repeat (first | exact Take1.head | apply Take1.tail)))) (fun w hw => rbytes_any p hpo w hw.left.here) rfl (fun _ => ⟨_, (by repeat (first | exact TakeL.nil | (apply TakeL.cons; · repeat (first | exact Take1.head | apply Take1.tail))))⟩) ?_ -- t40 hailer/hailerref11.Bytes
          rintro ⟨a40, c40⟩ -
          dsimp only [List.cons_append, List.nil_append]
          refine WD.two 2 4 (by kernel_rfl) ?_ ?_
          · refine WO.y rfl rfl .no (Yl.toStr un23 un5 un9 rfl (show Reads _ _ (.slice a40 43 c40) 1 (recB p).length (ints .u8 (recB p)) by rw [recB_len hpo.len]; exact Reads.of (r := ownR (.slice a40 43 c40) 5 1 43 (ints .u8 (recB p))) RdOf.own (by repeat (first | exact Take1.head | apply Take1.tail)))) rfl ?_ -- t41
            refine WD.one 4 (by kernel_rfl) ?_
            refine WO.callC (xs := [.tmp 42]) (cap := []) rfl .no rfl rfl en11 (by repeat (first | exact TakeL.nil | (apply TakeL.cons; · repeat (first | exact Take1.head | apply Take1.tail)))) (fun w hw => rbytes_any q hqo w hw.left.here) rfl (fun _ => ⟨_, (by repeat (first | exact TakeL.nil | (apply TakeL.cons; · repeat (first | exact Take1.head | apply Take1.tail))))⟩) ?_ -- t43 hailer/hailerref11.Bytes
            rintro ⟨a43, c43⟩ -
            dsimp only [List.cons_append, List.nil_append]
            refine WD.one 5 (by kernel_rfl) ?_
            refine WO.y rfl rfl .no (Yl.toStr un23 un5 un9 rfl (show Reads _ _ (.slice a43 43 c43) 1 (recB q).length (ints .u8 (recB q)) by rw [recB_len hqo.len]; exact Reads.of (r := ownR (.slice a43 43 c43) 5 1 43 (ints .u8 (recB q))) RdOf.own (by repeat (first | exact Take1.head | apply Take1.tail)))) rfl ?_ -- t44
            refine WD.take 6 rfl (by kernel_rfl) (by kernel_rfl) (by kernel_rfl) rfl rfl (Yl.sLss (recB_by hpo) (recB_by hqo) rfl rfl) rfl ?_
            refine WD.take 7 rfl (by kernel_rfl) (by kernel_rfl) (by kernel_rfl) rfl rfl (Yl.assign rfl) rfl ?_ -- t4
            refine WD.done (by kernel_rfl) ?_
            refine WC.ret ?_
            repeat (first | (with_reducible refine peelT ?_) | (with_reducible refine peelB ?_) | (with_reducible refine peelTX ?_) | (with_reducible refine peelBX ?_) | (with_reducible refine peelBN ?_) | (with_reducible refine peelBO rfl ?_))
            have g1 : rkF p.oc = rkF q.oc := by simpa using g15
            have g2 : p.en = q.en := by simpa using g23
            have g3 : p.bg = q.bg := by simpa using g33
            have e : betF p q = lexF (recB p) (recB q) := by
              rw [bet_or, if_neg (by rw [ne_eq, cmpI_eq]; omega), if_neg (by rw [ne_eq, cmpI_eq]; omega), if_neg (by rw [ne_eq, cmpI_eq]; omega)]
            exact ret1 (.inr rfl) Tryz.results36 rfl fun w' h => ⟨(), trivial, by rw [e], h.sub (by repeat (first | exact TakeL.nil | (apply TakeL.cons; · repeat (first | exact Take1.head | apply Take1.tail))))⟩
          · refine WO.callC (xs := [.tmp 42]) (cap := []) rfl .no rfl rfl en11 (by repeat (first | exact TakeL.nil | (apply TakeL.cons; · repeat (first | exact Take1.head | apply Take1.tail)))) (fun w hw => rbytes_any q hqo w hw.left.here) rfl (fun _ => ⟨_, (by repeat (first | exact TakeL.nil | (apply TakeL.cons; · repeat (first | exact Take1.head | apply Take1.tail))))⟩) ?_ -- t43 hailer/hailerref11.Bytes
            rintro ⟨a43, c43⟩ -
            dsimp only [List.cons_append, List.nil_append]
            refine WD.two 2 5 (by kernel_rfl) ?_ ?_
            · refine WO.y rfl rfl .no (Yl.toStr un23 un5 un9 rfl (show Reads _ _ (.slice a40 43 c40) 1 (recB p).length (ints .u8 (recB p)) by rw [recB_len hpo.len]; exact Reads.of (r := ownR (.slice a40 43 c40) 5 1 43 (ints .u8 (recB p))) RdOf.own (by repeat (first | exact Take1.head | apply Take1.tail)))) rfl ?_ -- t41
              refine WD.one 5 (by kernel_rfl) ?_
              refine WO.y rfl rfl .no (Yl.toStr un23 un5 un9 rfl (show Reads _ _ (.slice a43 43 c43) 1 (recB q).length (ints .u8 (recB q)) by rw [recB_len hqo.len]; exact Reads.of (r := ownR (.slice a43 43 c43) 5 1 43 (ints .u8 (recB q))) RdOf.own (by repeat (first | exact Take1.head | apply Take1.tail)))) rfl ?_ -- t44
              refine WD.take 6 rfl (by kernel_rfl) (by kernel_rfl) (by kernel_rfl) rfl rfl (Yl.sLss (recB_by hpo) (recB_by hqo) rfl rfl) rfl ?_
              refine WD.take 7 rfl (by kernel_rfl) (by kernel_rfl) (by kernel_rfl) rfl rfl (Yl.assign rfl) rfl ?_ -- t4
              refine WD.done (by kernel_rfl) ?_
              refine WC.ret ?_
              repeat (first | (with_reducible refine peelT ?_) | (with_reducible refine peelB ?_) | (with_reducible refine peelTX ?_) | (with_reducible refine peelBX ?_) | (with_reducible refine peelBN ?_) | (with_reducible refine peelBO rfl ?_))
              have g1 : rkF p.oc = rkF q.oc := by simpa using g15
              have g2 : p.en = q.en := by simpa using g23
              have g3 : p.bg = q.bg := by simpa using g33
              have e : betF p q = lexF (recB p) (recB q) := by
                rw [bet_or, if_neg (by rw [ne_eq, cmpI_eq]; omega), if_neg (by rw [ne_eq, cmpI_eq]; omega), if_neg (by rw [ne_eq, cmpI_eq]; omega)]
              exact ret1 (.inr rfl) Tryz.results36 rfl fun w' h => ⟨(), trivial, by rw [e], h.sub (by repeat (first | exact TakeL.nil | (apply TakeL.cons; · repeat (first | exact Take1.head | apply Take1.tail))))⟩
            · refine WO.y rfl rfl .no (Yl.toStr un23 un5 un9 rfl (show Reads _ _ (.slice a43 43 c43) 1 (recB q).length (ints .u8 (recB q)) by rw [recB_len hqo.len]; exact Reads.of (r := ownR (.slice a43 43 c43) 5 1 43 (ints .u8 (recB q))) RdOf.own (by repeat (first | exact Take1.head | apply Take1.tail)))) rfl ?_ -- t44
              refine WD.one 2 (by kernel_rfl) ?_
              refine WO.y rfl rfl .no (Yl.toStr un23 un5 un9 rfl (show Reads _ _ (.slice a40 43 c40) 1 (recB p).length (ints .u8 (recB p)) by rw [recB_len hpo.len]; exact Reads.of (r := ownR (.slice a40 43 c40) 5 1 43 (ints .u8 (recB p))) RdOf.own (by repeat (first | exact Take1.head | apply Take1.tail)))) rfl ?_ -- t41
              refine WD.take 6 rfl (by kernel_rfl) (by kernel_rfl) (by kernel_rfl) rfl rfl (Yl.sLss (recB_by hpo) (recB_by hqo) rfl rfl) rfl ?_
              refine WD.take 7 rfl (by kernel_rfl) (by kernel_rfl) (by kernel_rfl) rfl rfl (Yl.assign rfl) rfl ?_ -- t4
              refine WD.done (by kernel_rfl) ?_
              refine WC.ret ?_
              repeat (first | (with_reducible refine peelT ?_) | (with_reducible refine peelB ?_) | (with_reducible refine peelTX ?_) | (with_reducible refine peelBX ?_) | (with_reducible refine peelBN ?_) | (with_reducible refine peelBO rfl ?_))
              have g1 : rkF p.oc = rkF q.oc := by simpa using g15
              have g2 : p.en = q.en := by simpa using g23
              have g3 : p.bg = q.bg := by simpa using g33
              have e : betF p q = lexF (recB p) (recB q) := by
                rw [bet_or, if_neg (by rw [ne_eq, cmpI_eq]; omega), if_neg (by rw [ne_eq, cmpI_eq]; omega), if_neg (by rw [ne_eq, cmpI_eq]; omega)]
              exact ret1 (.inr rfl) Tryz.results36 rfl fun w' h => ⟨(), trivial, by rw [e], h.sub (by repeat (first | exact TakeL.nil | (apply TakeL.cons; · repeat (first | exact Take1.head | apply Take1.tail))))⟩
end Go.Proofs.YtmcdbjbkkejbbaaGreat
