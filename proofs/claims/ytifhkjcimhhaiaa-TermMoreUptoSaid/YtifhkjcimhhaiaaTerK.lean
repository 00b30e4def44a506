/- Two strings in order; Shared: the walks. -/
import Derived.Test.YtifhkjcimhhaiaaTerH
import Derived.Shelf.Small.Bits
namespace Go.Proofs.Ytifhkjcimhhaiaa
open Go Go.RowKit Go.Shelf
theorem u8_lt {x y : Int} (hx : 0 ≤ x ∧ x < 256) (hy : 0 ≤ y ∧ y < 256) : (UInt8.ofNat x.toNat < UInt8.ofNat y.toNat) ↔ x < y := by
  rw [UInt8.lt_iff_toNat_lt]
  simp only [UInt8.toNat_ofNat']
  omega
theorem bytesLess_lex : ∀ {xs ys : List Int}, (∀ x ∈ xs, 0 ≤ x ∧ x < 256) → (∀ y ∈ ys, 0 ≤ y ∧ y < 256) → Op.bytesLess (Lib.bytesOf xs) (Lib.bytesOf ys) = decide (lexF xs ys < 0)
  | [], [], _, _ => rfl
  | [], _ :: _, _, _ => rfl
  | _ :: _, [], _, _ => rfl
  | x :: xs, y :: ys, h1, h2 => by
    have ih := bytesLess_lex (xs := xs) (ys := ys) (fun z hz => h1 z (by simp [hz])) (fun z hz => h2 z (by simp [hz]))
    have hx := h1 x (by simp)
    have hy := h2 y (by simp)
    have e1 : Lib.bytesOf (x :: xs) = UInt8.ofNat x.toNat :: Lib.bytesOf xs := rfl
    have e2 : Lib.bytesOf (y :: ys) = UInt8.ofNat y.toNat :: Lib.bytesOf ys := rfl
    rw [e1, e2]
    unfold Op.bytesLess
    rw [ih]
    have hl : decide (UInt8.ofNat x.toNat < UInt8.ofNat y.toNat) = decide (x < y) := decide_eq_decide.2 (u8_lt hx hy)
    have hb : (UInt8.ofNat x.toNat == UInt8.ofNat y.toNat) = decide (x = y) := by
      by_cases h : x = y
      · simp [h]
      · rw [decide_eq_false h, beq_eq_false_iff_ne]
        intro e
        have := congrArg UInt8.toNat e
        simp only [UInt8.toNat_ofNat'] at this
        omega
    rw [hl, hb]
    show _ = decide ((if x < y then (-1 : Int) else if y < x then 1 else lexF xs ys) < 0)
    by_cases h : x < y
    · rw [if_pos h, decide_eq_true h]; rfl
    · by_cases h' : y < x
      · rw [if_neg h, if_pos h', decide_eq_false h, decide_eq_false (show ¬ x = y by omega)]; rfl
      · rw [if_neg h, if_neg h', decide_eq_false h, decide_eq_true (show x = y by omega)]; rfl
section
variable {c : Cx} {env : Env} {ds : List Deferred} {H : List Res} {dst : Option Tmp} {ty : TypeId} {pos : String} {af : Array Edge} {g : Option (Nat × Bool)}
theorem Yl.sLss {t t2 : TypeId} {x y : Operand} {xs ys : List Int} (h1 : ∀ x ∈ xs, 0 ≤ x ∧ x < 256) (h2 : ∀ y ∈ ys, 0 ≤ y ∧ y < 256) (hx : ev env x = some (.string (strOfNums xs))) (hy : ev env y = some (.string (strOfNums ys))) : Yl c env ds H ⟨dst, .binOp .lss t x y t2, ty, pos, af, g⟩ (.bool (decide (lexF xs ys < 0))) := fun a w ha _ => by
  rw [← bytesLess_lex h1 h2]
  simp [execOp, ha.ev hx, ha.ev hy, eqGuard, binOp, Op.stringOp, Go.Lib.strOfNums_toList]
end
def rhoLen : Ren := ⟨fun n => match n with | 125 => 52 | 128 => 66 | 129 => 67 | n => n, fun n => match n with | 3 => 3 | 4 => 4 | 5 => 5 | 9 => 9 | 46 => 76 | 51 => 117 | 53 => 36 | n => n, fun n => n⟩
set_option maxRecDepth 1000000 in
theorem laysLen : Lays.n125 Try.prog rhoLen := by
  constructor <;> first | exact mixed | kernel_rfl | (intro w; kernel_rfl)
theorem len_any (n : Nat) (hn : n < 4611686018427387904) (w : World) (hw : OK w (fpL []) [] w) : Fn Try.prog 52 [.int .u64 (n : Int)] [] w (fun _ : Unit => True) (fun _ => .int .i64 (Lib.bitLen n)) (fun _ => []) := by
  have h : Calls Try.prog 52 #[.int .u64 (n : Int)] w fun e w' => e = .returned (.int .i64 (Lib.bitLen (n : Int).toNat)) ∧ w' = w := Any.bits_Len laysLen (n : Int) w (by omega) (by omega)
  rw [Int.toNat_natCast] at h
  refine h.mono ?_
  rintro e w' ⟨rfl, rfl⟩
  exact ⟨(), trivial, rfl, hw⟩
theorem Yl.indexF {c : Cx} {env : Env} {ds : List Deferred} {H : List Res} {dst : Option Tmp} {ty : TypeId} {pos : String} {af : Array Edge} {g : Option (Nat × Bool)} {t e : TypeId} {x i : Operand} {k : IntKind} {z : Int} {j n size : Nat} {v : Value} (hu : c.P.underlying t = some (.slice e)) (hsz : (c.P.info? e).map (·.size) = some size)
    (hx : ev env x = some v) (hi : ev env i = some (.int k z)) (hF : 0 < n → ∃ a cap, v = .slice (some a) n cap) (hz : z = (j : Int)) (hj : j < n) : Yl c env ds H ⟨dst, .indexAddr t x i, ty, pos, af, g⟩ (elemP v j size) := by
  obtain ⟨a, cap, rfl⟩ := hF (by omega)
  exact Yl.indexV hu hsz hx hi hz hj
def sV (x : List Int) : Value := .string (strOfNums x)
def srt (x y : List Int) : List Int × List Int := if lexF y x < 0 then (y, x) else (x, y)
theorem nan_any (x : List Int) (w : World) (hw : OK w (fpL []) [] w) : Fn Try.prog 74 [sV x] [] w (fun _ : Unit => True) (fun _ => .bool false) (fun _ => []) := by
  unfold sV
  refine enterF Try.func74 rfl Try.ntmps74 rfl hw ?_
  refine WC.seq ?_
  refine WC.region ?_
  refine WL.y (Yl.assign rfl) rfl ?_
  refine WL.nil ?_
  refine WC.seq ?_
  refine WC.region ?_
  refine WL.y (Yl.move rfl) rfl ?_
  refine WL.y (Yl.move rfl) rfl ?_
  refine WL.y (Yl.sNe rfl rfl) rfl ?_
  refine WL.say (t := 5) (v' := .bool false) rfl (by simp) ?_
  refine WL.y (Yl.assign rfl) rfl ?_
  refine WL.nil ?_
  refine WC.ret ?_
  repeat (first | (with_reducible refine peelT ?_) | (with_reducible refine peelB ?_) | (with_reducible refine peelTX ?_) | (with_reducible refine peelBX ?_) | (with_reducible refine peelBN ?_) | (with_reducible refine peelBO rfl ?_))
  exact ret1 (.inr rfl) Try.results74 rfl fun w' h => ⟨(), trivial, rfl, h.sub (by repeat (first | exact TakeL.nil | (apply TakeL.cons; · repeat (first | exact Take1.head | apply Take1.tail))))⟩
theorem lessS_any (x y : List Int) (hx : Bytes x) (hy : Bytes y) (w : World) (hw : OK w (fpL []) [] w) : Fn Try.prog 63 [sV x, sV y] [] w (fun _ : Unit => True) (fun _ => .bool (decide (lexF x y < 0))) (fun _ => []) := by
  refine enterF Try.func63 rfl Try.ntmps63 rfl hw ?_
  refine WC.seq ?_
  refine WC.region ?_
  refine WL.y (Yl.assign rfl) rfl ?_
  refine WL.nil ?_
  refine WC.seq ?_
  refine WC.region ?_
  refine WL.y (Yl.move rfl) rfl ?_
  refine WL.callC (xs := [.tmp 5]) (cap := []) rfl rfl en74 (by repeat (first | exact TakeL.nil | (apply TakeL.cons; · repeat (first | exact Take1.head | apply Take1.tail)))) (fun w hw => nan_any x w hw.left.here) rfl ?_
  rintro ⟨⟩ -
  refine WL.y (Yl.move rfl) rfl ?_
  refine WL.know (t := 7) (b' := false) rfl (by first | rfl | (simp; done) | (simp; omega)) ?_
  refine WL.off rfl rfl rfl rfl ?_
  refine WL.off rfl rfl rfl rfl ?_
  refine WL.off rfl rfl rfl rfl ?_
  refine WL.y (Yl.pickF rfl rfl) rfl ?_
  refine WL.y (Yl.move rfl) rfl ?_
  refine WL.know (t := 12) (b' := false) rfl (by first | rfl | (simp; done) | (simp; omega)) ?_
  refine WL.on rfl rfl ?_
  refine WL.y (Yl.move rfl) rfl ?_
  refine WL.on rfl rfl ?_
  refine WL.y (Yl.move rfl) rfl ?_
  refine WL.on rfl rfl ?_
  refine WL.y (Yl.sLss hx hy rfl rfl) rfl ?_
  refine WL.y (Yl.pickF rfl rfl) rfl ?_
  refine WL.y (Yl.assign rfl) rfl ?_
  refine WL.nil ?_
  refine WC.ret ?_
  repeat (first | (with_reducible refine peelT ?_) | (with_reducible refine peelB ?_) | (with_reducible refine peelTX ?_) | (with_reducible refine peelBX ?_) | (with_reducible refine peelBN ?_) | (with_reducible refine peelBO rfl ?_))
  exact ret1 (.inr rfl) Try.results63 rfl fun w' h => ⟨(), trivial, rfl, h.sub (by repeat (first | exact TakeL.nil | (apply TakeL.cons; · repeat (first | exact Take1.head | apply Take1.tail))))⟩
set_option maxRecDepth 100000 in
theorem ins2_any (b : Nat) (x y : List Int) (hx : Bytes x) (hy : Bytes y) (w : World) (hw : OK w (fpL [ownR (.slice (some ⟨b, 0, none⟩) 2 2) 9 1 2 [sV x, sV y]]) [ownR (.slice (some ⟨b, 0, none⟩) 2 2) 9 1 2 [sV x, sV y]] w) :
    Fn Try.prog 57 [.slice (some ⟨b, 0, none⟩) 2 2, .int .i64 0, .int .i64 2] [ownR (.slice (some ⟨b, 0, none⟩) 2 2) 9 1 2 [sV x, sV y]] w (fun _ : Unit => True) (fun _ => .tuple #[]) (fun _ => [ownR (.slice (some ⟨b, 0, none⟩) 2 2) 9 1 2 [sV (srt x y).1, sV (srt x y).2]]) := by
  refine enterF Try.func57 rfl Try.ntmps57 rfl hw ?_
  refine WC.seq ?_
  refine WC.region ?_
  refine WL.y (Yl.move rfl) rfl ?_
  refine WL.y (Yl.add rfl rfl (IntWalk.i64_in _ (by omega))) rfl ?_
  refine WL.y (Yl.assign rfl) rfl ?_
  refine WL.nil ?_
  refine WC.block ?_
  refine WC.loop (α := Nat × List Int × List Int) (fun s => [(0, .slice (some ⟨b, 0, none⟩) 2 2), (1, .int .i64 0), (2, .int .i64 2), (6, .int .i64 (s.1 : Int))]) (fun s => [ownR (.slice (some ⟨b, 0, none⟩) 2 2) 9 1 2 [sV s.2.1, sV s.2.2]]) (fun s => (s.1 = 1 ∧ s.2 = (x, y)) ∨ (s.1 = 2 ∧ s.2 = srt x y)) (fun s => 2 - s.1) (1, x, y) (.inl ⟨rfl, rfl⟩) ⟨(by repeat (first | exact Sub.nil | refine Sub.cons rfl ?_)), _, (by repeat (first | exact TakeL.nil | (apply TakeL.cons; · repeat (first | exact Take1.head | apply Take1.tail))))⟩ ?_
  rintro ⟨i, p0, q0⟩ hi
  dsimp only at hi ⊢
  refine WC.seq ?_
  refine WC.seq ?_
  refine WC.region ?_
  refine WL.y (Yl.move rfl) rfl ?_
  refine WL.y (Yl.move rfl) rfl ?_
  refine WL.y (Yl.lss rfl rfl) rfl ?_
  refine WL.nil ?_
  refine WC.condD rfl (fun g12 => ?_) (fun g12 => ?_)
  · refine WC.skip ?_
    refine WC.seq ?_
    refine WC.block ?_
    refine WC.seq ?_
    refine WC.region ?_
    refine WL.y (Yl.move rfl) rfl ?_
    refine WL.y (Yl.assign rfl) rfl ?_
    refine WL.nil ?_
    refine WC.block ?_
    obtain ⟨rfl, hpq⟩ : i = 1 ∧ (p0, q0) = (x, y) := hi.resolve_right (fun h => by omega)
    cases hpq
    refine WC.loop (α := Nat × List Int × List Int) (fun s => [(0, .slice (some ⟨b, 0, none⟩) 2 2), (1, .int .i64 0), (2, .int .i64 2), (6, .int .i64 ((1 : Nat) : Int)), (7, .int .i64 (s.1 : Int))]) (fun s => [ownR (.slice (some ⟨b, 0, none⟩) 2 2) 9 1 2 [sV s.2.1, sV s.2.2]]) (fun s => (s.1 = 1 ∧ s.2 = (x, y)) ∨ (s.1 = 0 ∧ s.2 = (y, x) ∧ lexF y x < 0)) (fun s => s.1) (1, x, y) (.inl ⟨rfl, rfl⟩) ⟨(by repeat (first | exact Sub.nil | refine Sub.cons rfl ?_)), _, (by repeat (first | exact TakeL.nil | (apply TakeL.cons; · repeat (first | exact Take1.head | apply Take1.tail))))⟩ ?_
    rintro ⟨j, p, q⟩ hj
    dsimp only at hj ⊢
    have hpB : Bytes p ∧ Bytes q := by rcases hj with ⟨_, h⟩ | ⟨_, h, _⟩ <;> cases h <;> exact ⟨by assumption, by assumption⟩
    have hF := fun _ : 0 < 2 => (⟨_, _, rfl⟩ : ∃ a cap, (Value.slice (some (⟨b, 0, none⟩ : Addr)) 2 2) = .slice (some a) 2 cap)
    refine WC.seq ?_
    refine WC.midX (α := Unit) (fun _ => [(0, .slice (some ⟨b, 0, none⟩) 2 2), (1, .int .i64 0), (2, .int .i64 2), (6, .int .i64 ((1 : Nat) : Int)), (7, .int .i64 (j : Int)), (30, .bool (decide ((0 : Int) < (j : Int)) && decide (lexF q p < 0)))]) (fun _ => [ownR (.slice (some ⟨b, 0, none⟩) 2 2) 9 1 2 [sV p, sV q]]) (fun _ => True) ?_ ?_
    · refine WC.drawAny (Hs := [ownR (.slice (some ⟨b, 0, none⟩) 2 2) 9 1 2 [sV p, sV q]]) mixed (by kernel_rfl) ⟨_, (by repeat (first | exact TakeL.nil | (apply TakeL.cons; · repeat (first | exact Take1.head | apply Take1.tail))))⟩ ?_
      refine WD.take 0 rfl (by kernel_rfl) (by kernel_rfl) (by kernel_rfl) rfl rfl (Yl.move rfl) rfl ?_
      refine WD.take 1 rfl (by kernel_rfl) (by kernel_rfl) (by kernel_rfl) rfl rfl (Yl.move rfl) rfl ?_
      refine WD.take 2 rfl (by kernel_rfl) (by kernel_rfl) (by kernel_rfl) rfl rfl (Yl.gtr rfl rfl) rfl ?_
      refine WD.take 3 rfl (by kernel_rfl) (by kernel_rfl) (by kernel_rfl) rfl rfl (Yl.move rfl) rfl ?_
      refine WD.both (t := 19) rfl (fun g19 => ?_) (fun g19 => ?_)
      · have hj1 : j = 1 := by have := of_decide_eq_true g19; omega
        refine WD.takeOn 4 rfl (by kernel_rfl) (by kernel_rfl) (by kernel_rfl) rfl rfl rfl rfl (Yl.move rfl) rfl ?_
        refine WD.takeOn 5 rfl (by kernel_rfl) (by kernel_rfl) (by kernel_rfl) rfl rfl rfl rfl (Yl.move rfl) rfl ?_
        refine WD.takeOn 6 rfl (by kernel_rfl) (by kernel_rfl) (by kernel_rfl) rfl rfl rfl rfl (Yl.index un85 sz9 rfl rfl (Reads.own (by repeat (first | exact Take1.head | apply Take1.tail))) rfl (by omega)) rfl ?_
        refine WD.takeOn 7 rfl (by kernel_rfl) (by kernel_rfl) (by kernel_rfl) rfl rfl rfl rfl (Yl.loadE (j := j) (u := sV q) on9 rfl (Reads.own (by repeat (first | exact Take1.head | apply Take1.tail))) (by rw [hj1]; rfl)) rfl ?_
        refine WD.takeOn 8 rfl (by kernel_rfl) (by kernel_rfl) (by kernel_rfl) rfl rfl rfl rfl (Yl.move rfl) rfl ?_
        refine WD.takeOn 9 rfl (by kernel_rfl) (by kernel_rfl) (by kernel_rfl) rfl rfl rfl rfl (Yl.move rfl) rfl ?_
        refine WD.takeOn 10 rfl (by kernel_rfl) (by kernel_rfl) (by kernel_rfl) rfl rfl rfl rfl (Yl.sub rfl rfl (IntWalk.i64_in _ (by omega))) rfl ?_
        refine WD.say (t := 26) (v' := .int .i64 ((0 : Nat) : Int)) rfl (by (refine congrArg (Value.int .i64) ?_; omega)) ?_
        refine WD.takeOn 11 rfl (by kernel_rfl) (by kernel_rfl) (by kernel_rfl) rfl rfl rfl rfl (Yl.index un85 sz9 rfl rfl (Reads.own (by repeat (first | exact Take1.head | apply Take1.tail))) rfl (by omega)) rfl ?_
        refine WD.takeOn 12 rfl (by kernel_rfl) (by kernel_rfl) (by kernel_rfl) rfl rfl rfl rfl (Yl.loadE (j := 0) (u := sV p) on9 rfl (Reads.own (by repeat (first | exact Take1.head | apply Take1.tail))) rfl) rfl ?_
        refine WD.one 13 (by kernel_rfl) ?_
        refine WO.callC (xs := [.tmp 23, .tmp 28]) (cap := []) rfl (.on rfl rfl) rfl rfl en63 (by repeat (first | exact TakeL.nil | (apply TakeL.cons; · repeat (first | exact Take1.head | apply Take1.tail)))) (fun w hw => lessS_any q p hpB.2 hpB.1 w hw.left.here) rfl (fun _ => ⟨_, (by repeat (first | exact TakeL.nil | (apply TakeL.cons; · repeat (first | exact Take1.head | apply Take1.tail))))⟩) ?_
        rintro ⟨⟩ -
        refine WD.take 14 rfl (by kernel_rfl) (by kernel_rfl) (by kernel_rfl) rfl rfl (Yl.pickT rfl rfl) rfl ?_
        refine WD.say (t := 30) (v' := .bool (decide ((0 : Int) < (j : Int)) && decide (lexF q p < 0))) rfl (by (rw [g19]; rfl)) ?_
        refine WD.done (by kernel_rfl) ?_
        exact ⟨rfl, (), trivial, (by repeat (first | exact Sub.nil | refine Sub.cons rfl ?_)), _, (by repeat (first | exact TakeL.nil | (apply TakeL.cons; · repeat (first | exact Take1.head | apply Take1.tail))))⟩
      · refine WD.takeOff 4 rfl (by kernel_rfl) (by kernel_rfl) (by kernel_rfl) rfl rfl rfl rfl rfl rfl ?_
        refine WD.takeOff 5 rfl (by kernel_rfl) (by kernel_rfl) (by kernel_rfl) rfl rfl rfl rfl rfl rfl ?_
        refine WD.takeOff 6 rfl (by kernel_rfl) (by kernel_rfl) (by kernel_rfl) rfl rfl rfl rfl rfl rfl ?_
        refine WD.takeOff 7 rfl (by kernel_rfl) (by kernel_rfl) (by kernel_rfl) rfl rfl rfl rfl rfl rfl ?_
        refine WD.takeOff 8 rfl (by kernel_rfl) (by kernel_rfl) (by kernel_rfl) rfl rfl rfl rfl rfl rfl ?_
        refine WD.takeOff 9 rfl (by kernel_rfl) (by kernel_rfl) (by kernel_rfl) rfl rfl rfl rfl rfl rfl ?_
        refine WD.takeOff 10 rfl (by kernel_rfl) (by kernel_rfl) (by kernel_rfl) rfl rfl rfl rfl rfl rfl ?_
        refine WD.takeOff 11 rfl (by kernel_rfl) (by kernel_rfl) (by kernel_rfl) rfl rfl rfl rfl rfl rfl ?_
        refine WD.takeOff 12 rfl (by kernel_rfl) (by kernel_rfl) (by kernel_rfl) rfl rfl rfl rfl rfl rfl ?_
        refine WD.one 13 (by kernel_rfl) ?_
        refine WO.off rfl rfl rfl rfl rfl rfl rfl ?_
        refine WD.take 14 rfl (by kernel_rfl) (by kernel_rfl) (by kernel_rfl) rfl rfl (Yl.pickF rfl rfl) rfl ?_
        refine WD.say (t := 30) (v' := .bool (decide ((0 : Int) < (j : Int)) && decide (lexF q p < 0))) rfl (by (rw [g19]; rfl)) ?_
        refine WD.done (by kernel_rfl) ?_
        exact ⟨rfl, (), trivial, (by repeat (first | exact Sub.nil | refine Sub.cons rfl ?_)), _, (by repeat (first | exact TakeL.nil | (apply TakeL.cons; · repeat (first | exact Take1.head | apply Take1.tail))))⟩
    · rintro ⟨⟩ -
      refine WC.cond rfl (fun g30 => ?_) (fun g30 => ?_)
      · refine WC.skip ?_
        refine WC.seq ?_
        refine WC.block ?_
        have hgo : 0 < j ∧ lexF q p < 0 := by
          rw [Bool.and_eq_true] at g30
          exact ⟨by have := of_decide_eq_true g30.1; omega, of_decide_eq_true g30.2⟩
        obtain ⟨rfl, hpq⟩ : j = 1 ∧ (p, q) = (x, y) := hj.resolve_right (fun h => by omega)
        cases hpq
        have hlt := hgo.2
        refine WC.drawAny (Hs := []) mixed (by kernel_rfl) ⟨_, (by repeat (first | exact TakeL.nil | (apply TakeL.cons; · repeat (first | exact Take1.head | apply Take1.tail))))⟩ ?_
        refine WD.take 0 rfl (by kernel_rfl) (by kernel_rfl) (by kernel_rfl) rfl rfl (Yl.move rfl) rfl ?_
        refine WD.take 1 rfl (by kernel_rfl) (by kernel_rfl) (by kernel_rfl) rfl rfl (Yl.move rfl) rfl ?_
        refine WD.take 2 rfl (by kernel_rfl) (by kernel_rfl) (by kernel_rfl) rfl rfl (Yl.move rfl) rfl ?_
        refine WD.take 3 rfl (by kernel_rfl) (by kernel_rfl) (by kernel_rfl) rfl rfl (Yl.move rfl) rfl ?_
        refine WD.take 4 rfl (by kernel_rfl) (by kernel_rfl) (by kernel_rfl) rfl rfl (Yl.sub rfl rfl (IntWalk.i64_in _ (by omega))) rfl ?_
        refine WD.say (t := 37) (v' := .int .i64 ((0 : Nat) : Int)) rfl (by rfl) ?_
        refine WD.take 5 rfl (by kernel_rfl) (by kernel_rfl) (by kernel_rfl) rfl rfl (Yl.move rfl) rfl ?_
        refine WD.take 6 rfl (by kernel_rfl) (by kernel_rfl) (by kernel_rfl) rfl rfl (Yl.move rfl) rfl ?_
        refine WD.take 7 rfl (by kernel_rfl) (by kernel_rfl) (by kernel_rfl) rfl rfl (Yl.sub rfl rfl (IntWalk.i64_in _ (by omega))) rfl ?_
        refine WD.say (t := 40) (v' := .int .i64 ((0 : Nat) : Int)) rfl (by rfl) ?_
        refine WD.take 8 rfl (by kernel_rfl) (by kernel_rfl) (by kernel_rfl) rfl rfl (Yl.indexF un85 sz9 rfl rfl hF rfl (by decide)) rfl ?_
        refine WD.take 10 rfl (by kernel_rfl) (by kernel_rfl) (by kernel_rfl) rfl rfl (Yl.move rfl) rfl ?_
        refine WD.take 11 rfl (by kernel_rfl) (by kernel_rfl) (by kernel_rfl) rfl rfl (Yl.move rfl) rfl ?_
        refine WD.take 12 rfl (by kernel_rfl) (by kernel_rfl) (by kernel_rfl) rfl rfl (Yl.indexF un85 sz9 rfl rfl hF rfl (by decide)) rfl ?_
        refine WD.two 9 13 (by kernel_rfl) ?_ ?_
        · refine WO.y rfl rfl .no (Yl.loadE (j := 0) (u := sV x) on9 rfl (Reads.own (by repeat (first | exact Take1.head | apply Take1.tail))) rfl) rfl ?_
          refine WD.one 13 (by kernel_rfl) ?_
          refine WO.y rfl rfl .no (Yl.loadE (j := 1) (u := sV y) on9 rfl (Reads.own (by repeat (first | exact Take1.head | apply Take1.tail))) rfl) rfl ?_
          refine WD.take 14 rfl (by kernel_rfl) (by kernel_rfl) (by kernel_rfl) rfl rfl (Yl.indexF un85 sz9 rfl rfl hF rfl (by decide)) rfl ?_
          refine WD.one 15 (by kernel_rfl) ?_
          refine WO.sto rfl rfl .no (Sto.elem (j := 1) sz9 rfl rfl (by repeat (first | exact Take1.head | apply Take1.tail)) rfl (by omega) rfl) ⟨_, (by repeat (first | exact TakeL.nil | (apply TakeL.cons; · repeat (first | exact Take1.head | apply Take1.tail))))⟩ ?_
          refine WD.take 16 rfl (by kernel_rfl) (by kernel_rfl) (by kernel_rfl) rfl rfl (Yl.indexF un85 sz9 rfl rfl hF rfl (by decide)) rfl ?_
          refine WD.one 17 (by kernel_rfl) ?_
          refine WO.sto rfl rfl .no (Sto.elem (j := 0) (cs' := [sV y, sV x]) sz9 rfl rfl (by repeat (first | exact Take1.head | apply Take1.tail)) rfl (by omega) rfl) ⟨_, (by repeat (first | exact TakeL.nil | (apply TakeL.cons; · repeat (first | exact Take1.head | apply Take1.tail))))⟩ ?_
          refine WD.done (by kernel_rfl) ?_
          refine WC.region ?_
          refine WL.y (Yl.move rfl) rfl ?_
          refine WL.y (Yl.sub rfl rfl (IntWalk.i64_in _ (by omega))) rfl ?_
          refine WL.say (t := 32) (v' := .int .i64 ((0 : Nat) : Int)) rfl (by rfl) ?_
          refine WL.y (Yl.assign rfl) rfl ?_
          refine WL.nil ?_
          exact ⟨rfl, (0, y, x), .inr ⟨rfl, rfl, hlt⟩, by dsimp only; omega, (by repeat (first | exact Sub.nil | refine Sub.cons rfl ?_)), _, (by repeat (first | exact TakeL.nil | (apply TakeL.cons; · repeat (first | exact Take1.head | apply Take1.tail))))⟩
        · refine WO.y rfl rfl .no (Yl.loadE (j := 1) (u := sV y) on9 rfl (Reads.own (by repeat (first | exact Take1.head | apply Take1.tail))) rfl) rfl ?_
          refine WD.one 9 (by kernel_rfl) ?_
          refine WO.y rfl rfl .no (Yl.loadE (j := 0) (u := sV x) on9 rfl (Reads.own (by repeat (first | exact Take1.head | apply Take1.tail))) rfl) rfl ?_
          refine WD.take 14 rfl (by kernel_rfl) (by kernel_rfl) (by kernel_rfl) rfl rfl (Yl.indexF un85 sz9 rfl rfl hF rfl (by decide)) rfl ?_
          refine WD.one 15 (by kernel_rfl) ?_
          refine WO.sto rfl rfl .no (Sto.elem (j := 1) sz9 rfl rfl (by repeat (first | exact Take1.head | apply Take1.tail)) rfl (by omega) rfl) ⟨_, (by repeat (first | exact TakeL.nil | (apply TakeL.cons; · repeat (first | exact Take1.head | apply Take1.tail))))⟩ ?_
          refine WD.take 16 rfl (by kernel_rfl) (by kernel_rfl) (by kernel_rfl) rfl rfl (Yl.indexF un85 sz9 rfl rfl hF rfl (by decide)) rfl ?_
          refine WD.one 17 (by kernel_rfl) ?_
          refine WO.sto rfl rfl .no (Sto.elem (j := 0) (cs' := [sV y, sV x]) sz9 rfl rfl (by repeat (first | exact Take1.head | apply Take1.tail)) rfl (by omega) rfl) ⟨_, (by repeat (first | exact TakeL.nil | (apply TakeL.cons; · repeat (first | exact Take1.head | apply Take1.tail))))⟩ ?_
          refine WD.done (by kernel_rfl) ?_
          refine WC.region ?_
          refine WL.y (Yl.move rfl) rfl ?_
          refine WL.y (Yl.sub rfl rfl (IntWalk.i64_in _ (by omega))) rfl ?_
          refine WL.say (t := 32) (v' := .int .i64 ((0 : Nat) : Int)) rfl (by rfl) ?_
          refine WL.y (Yl.assign rfl) rfl ?_
          refine WL.nil ?_
          exact ⟨rfl, (0, y, x), .inr ⟨rfl, rfl, hlt⟩, by dsimp only; omega, (by repeat (first | exact Sub.nil | refine Sub.cons rfl ?_)), _, (by repeat (first | exact TakeL.nil | (apply TakeL.cons; · repeat (first | exact Take1.head | apply Take1.tail))))⟩
      · refine WC.exit ?_
        refine WC.region ?_
        refine WL.y (Yl.move rfl) rfl ?_
        refine WL.y (Yl.add rfl rfl (IntWalk.i64_in _ (by omega))) rfl ?_
        refine WL.say (t := 14) (v' := .int .i64 ((2 : Nat) : Int)) rfl (by rfl) ?_
        refine WL.y (Yl.assign rfl) rfl ?_
        refine WL.nil ?_
        have hpq : (p, q) = srt x y := by
          rcases hj with ⟨rfl, h⟩ | ⟨rfl, h, h3⟩
          · cases h
            have : ¬ lexF y x < 0 := by
              intro h
              rw [decide_eq_true h] at g30
              cases g30
            unfold srt
            rw [if_neg this]
          · rw [h]
            unfold srt
            rw [if_pos h3]
        exact ⟨rfl, (2, p, q), .inr ⟨rfl, hpq⟩, by dsimp only; omega, (by repeat (first | exact Sub.nil | refine Sub.cons rfl ?_)), _, (by repeat (first | exact TakeL.nil | (apply TakeL.cons; · repeat (first | exact Take1.head | apply Take1.tail))))⟩
  · refine WC.exit ?_
    repeat (first | (with_reducible refine peelT ?_) | (with_reducible refine peelB ?_) | (with_reducible refine peelTX ?_) | (with_reducible refine peelBX ?_) | (with_reducible refine peelBN ?_) | (with_reducible refine peelBO rfl ?_))
    have hpq : (p0, q0) = srt x y := by
      rcases hi with ⟨h, _⟩ | ⟨_, h⟩
      · omega
      · exact h
    rw [← hpq]
    exact ret0 (.inl rfl) Try.results57 fun w' h => ⟨(), trivial, rfl, h.sub (by repeat (first | exact TakeL.nil | (apply TakeL.cons; · repeat (first | exact Take1.head | apply Take1.tail))))⟩
theorem pdq2_any (b : Nat) (lim : Int) (x y : List Int) (hx : Bytes x) (hy : Bytes y) (w : World) (hw : OK w (fpL [ownR (.slice (some ⟨b, 0, none⟩) 2 2) 9 1 2 [sV x, sV y]]) [ownR (.slice (some ⟨b, 0, none⟩) 2 2) 9 1 2 [sV x, sV y]] w) :
    Fn Try.prog 51 [.slice (some ⟨b, 0, none⟩) 2 2, .int .i64 0, .int .i64 2, .int .i64 lim] [ownR (.slice (some ⟨b, 0, none⟩) 2 2) 9 1 2 [sV x, sV y]] w (fun _ : Unit => True) (fun _ => .tuple #[]) (fun _ => [ownR (.slice (some ⟨b, 0, none⟩) 2 2) 9 1 2 [sV (srt x y).1, sV (srt x y).2]]) := by
  refine enterF Try.func51 rfl Try.ntmps51 rfl hw ?_
  refine WC.seq ?_
  refine WC.region ?_
  refine WL.y (Yl.assign rfl) rfl ?_
  refine WL.nil ?_
  refine WC.seq ?_
  refine WC.region ?_
  refine WL.y (Yl.assign rfl) rfl ?_
  refine WL.nil ?_
  refine WC.block ?_
  refine WC.loop (α := Unit) (fun _ => [(0, .slice (some ⟨b, 0, none⟩) 2 2), (1, .int .i64 0), (2, .int .i64 2), (3, .int .i64 lim)]) (fun _ => [ownR (.slice (some ⟨b, 0, none⟩) 2 2) 9 1 2 [sV x, sV y]]) (fun _ => True) (fun _ => 0) () trivial ⟨(by repeat (first | exact Sub.nil | refine Sub.cons rfl ?_)), _, (by repeat (first | exact TakeL.nil | (apply TakeL.cons; · repeat (first | exact Take1.head | apply Take1.tail))))⟩ ?_
  rintro ⟨⟩ -
  refine WC.block ?_
  refine WC.seq ?_
  refine WC.region ?_
  refine WL.y (Yl.move rfl) rfl ?_
  refine WL.y (Yl.move rfl) rfl ?_
  refine WL.y (Yl.sub rfl rfl (IntWalk.i64_in _ (by omega))) rfl ?_
  refine WL.y (Yl.assign rfl) rfl ?_
  refine WL.nil ?_
  refine WC.seq ?_
  refine WC.seq ?_
  refine WC.region ?_
  refine WL.y (Yl.move rfl) rfl ?_
  refine WL.y (Yl.leq rfl rfl) rfl ?_
  refine WL.nil ?_
  refine WC.condT rfl (by decide) ?_
  refine WC.seq ?_
  refine WC.region ?_
  refine WL.y (Yl.move rfl) rfl ?_
  refine WL.y (Yl.move rfl) rfl ?_
  refine WL.y (Yl.move rfl) rfl ?_
  refine WL.callC (xs := [.tmp 24, .tmp 25, .tmp 26]) (cap := []) rfl rfl en57 (by repeat (first | exact TakeL.nil | (apply TakeL.cons; · repeat (first | exact Take1.head | apply Take1.tail)))) (fun w hw => ins2_any b x y hx hy w hw.left.here) rfl ?_
  rintro ⟨⟩ -
  refine WL.nil ?_
  refine WC.ret ?_
  repeat (first | (with_reducible refine peelT ?_) | (with_reducible refine peelB ?_) | (with_reducible refine peelTX ?_) | (with_reducible refine peelBX ?_) | (with_reducible refine peelBN ?_) | (with_reducible refine peelBO rfl ?_))
  exact ret0 (.inr rfl) Try.results51 fun w' h => ⟨(), trivial, rfl, h.sub (by repeat (first | exact TakeL.nil | (apply TakeL.cons; · repeat (first | exact Take1.head | apply Take1.tail))))⟩
theorem sort2_any (b : Nat) (x y : List Int) (hx : Bytes x) (hy : Bytes y) (w : World) (hw : OK w (fpL [ownR (.slice (some ⟨b, 0, none⟩) 2 2) 9 1 2 [sV x, sV y]]) [ownR (.slice (some ⟨b, 0, none⟩) 2 2) 9 1 2 [sV x, sV y]] w) :
    Fn Try.prog 39 [.slice (some ⟨b, 0, none⟩) 2 2] [ownR (.slice (some ⟨b, 0, none⟩) 2 2) 9 1 2 [sV x, sV y]] w (fun _ : Unit => True) (fun _ => .tuple #[]) (fun _ => [ownR (.slice (some ⟨b, 0, none⟩) 2 2) 9 1 2 [sV (srt x y).1, sV (srt x y).2]]) := by
  refine enterF Try.func39 rfl Try.ntmps39 rfl hw ?_
  refine WC.seq ?_
  refine WC.region ?_
  refine WL.y (Yl.move rfl) rfl ?_
  refine WL.y (Yl.len un85 rfl) rfl ?_
  refine WL.y (Yl.assign rfl) rfl ?_
  refine WL.nil ?_
  refine WC.region ?_
  refine WL.y (Yl.move rfl) rfl ?_
  refine WL.y (Yl.move rfl) rfl ?_
  refine WL.y (Yl.move rfl) rfl ?_
  refine WL.y (Yl.conv un3 un76 rfl (show IntKind.u64.wrap 2 = ((2 : Nat) : Int) from rfl)) rfl ?_
  refine WL.callC (xs := [.tmp 8]) (cap := []) rfl rfl en52 (by repeat (first | exact TakeL.nil | (apply TakeL.cons; · repeat (first | exact Take1.head | apply Take1.tail)))) (fun w hw => len_any 2 (by decide) w hw.left.here) rfl ?_
  rintro ⟨⟩ -
  refine WL.callC (xs := [.tmp 5, _, .tmp 6, .tmp 9]) (cap := []) rfl rfl en51 (by repeat (first | exact TakeL.nil | (apply TakeL.cons; · repeat (first | exact Take1.head | apply Take1.tail)))) (fun w hw => pdq2_any b (Lib.bitLen 2) x y hx hy w hw.left.here) rfl ?_
  rintro ⟨⟩ -
  refine WL.nil ?_
  repeat (first | (with_reducible refine peelT ?_) | (with_reducible refine peelB ?_) | (with_reducible refine peelTX ?_) | (with_reducible refine peelBX ?_) | (with_reducible refine peelBN ?_) | (with_reducible refine peelBO rfl ?_))
  exact ret0 (.inl rfl) Try.results39 fun w' h => ⟨(), trivial, rfl, h.sub (by repeat (first | exact TakeL.nil | (apply TakeL.cons; · repeat (first | exact Take1.head | apply Take1.tail))))⟩
end Go.Proofs.Ytifhkjcimhhaiaa

namespace Go.Proofs.Ytifhkjcimhhaiaa
open Go Go.RowKit
theorem partS (a : ByteArray) (w : World) : (part 9 #[.string a] 0).run Try.prog w = .ok (.string a) w := by
  simp [part]
theorem eqS_run (d : Nat) (a b : ByteArray) (w : World) : (Op.equalIn (d + 1) 9 (.string a) (.string b)).run Try.prog w = .ok (a == b) w := by
  simp [Op.equalIn, run_underlying un9]
theorem eqM_run (d : Nat) (a b : ByteArray) (w : World) : (Op.equalIn (d + 1 + 1) 34 (.agg #[.string a]) (.agg #[.string b])).run Try.prog w = .ok (a == b) w := by
  have h9 := eqS_run d a b w
  rw [Op.equalIn]
  simp [run_underlying Try.underlying34, partS, h9]
  cases hab : (a == b) <;> simp
theorem ba_beq (a b : ByteArray) : (a == b) = (a.data == b.data) := by cases a; cases b; rfl
theorem strBeq {xs ys : List Int} (hx : Bytes xs) (hy : Bytes ys) : (strOfNums xs == strOfNums ys) = decide (xs = ys) := by
  rw [ba_beq]
  by_cases h : xs = ys
  · subst h
    simp
  · rw [decide_eq_false h, beq_eq_false_iff_ne]
    intro e
    refine h (bytesOf_inj hx hy ?_)
    have e : strOfNums xs = strOfNums ys := ByteArray.ext e
    rw [← Go.Lib.strOfNums_toList, ← Go.Lib.strOfNums_toList, e]
theorem gdM : Try.prog.eqGuardType Try.prog.depth 34 = false := by kernel_rfl
theorem eqM_all {xs ys : List Int} (hx : Bytes xs) (hy : Bytes ys) (w : World) : (Op.equal 34 (.agg #[.string (strOfNums xs)]) (.agg #[.string (strOfNums ys)])).run Try.prog w = .ok (decide (xs = ys)) w := by
  rw [← strBeq hx hy]
  exact eqM_run 9998 _ _ w
theorem eqM_op {x y : Operand} {a b : Option Tm} (ha : OkO a) (hb : OkO b) (w : World) : (do eqGuard .eql 34 x y (tmV a) (tmV b); binOp .eql 34 (tmV a) (tmV b) : Sem Value).run Try.prog w = .ok (.bool (decide (encO a = encO b))) w := by
  have := eqM_all (encO_bytes ha) (encO_bytes hb) w
  unfold tmV tmC
  simp [eqGuard, gdM, binOp, this]
theorem neM_op {x y : Operand} {a b : Option Tm} (ha : OkO a) (hb : OkO b) (w : World) : (do eqGuard .neq 34 x y (tmV a) (tmV b); binOp .neq 34 (tmV a) (tmV b) : Sem Value).run Try.prog w = .ok (.bool (!decide (encO a = encO b))) w := by
  have := eqM_all (encO_bytes ha) (encO_bytes hb) w
  unfold tmV tmC
  simp [eqGuard, gdM, binOp, this]
theorem encO_inj {a b : Option Tm} (ha : OkO a) (hb : OkO b) : encO a = encO b ↔ a = b := by
  refine ⟨fun h => ?_, fun h => by rw [h]⟩
  cases a with
  | none => exact (encO_nil.1 h.symm).symm
  | some x =>
    cases b with
    | none => exact encO_nil.1 h
    | some y => rw [enc_inj (ha x rfl) (hb y rfl) h]
def shO (a b : Option Tm) : Option Tm := match a, b with
  | some x, some y => if y.kd = 5 then some (shT x (y.pt.getD 0 zT)) else none
  | _, _ => none
theorem sh_srt {x z : Tm} (hx : x.ok) (hz : z.ok) : ∃ P Q, srt x.enc z.enc = (P.enc, Q.enc) ∧ shT x z = .mk 6 0 [P, Q] ∧ P.ok ∧ Q.ok ∧ (P.enc.length + Q.enc.length = x.enc.length + z.enc.length) := by
  unfold srt shT
  by_cases h : lexF z.enc x.enc < 0
  · rw [if_pos h, if_pos h]; exact ⟨z, x, rfl, rfl, hz, hx, by omega⟩
  · rw [if_neg h, if_neg h]; exact ⟨x, z, rfl, rfl, hx, hz, rfl⟩
theorem kd5 {y : Tm} (hy : y.ok) (h : y.kd = 5) : ∃ z, y = .mk 5 0 [z] ∧ z.ok := by
  obtain ⟨k, n, l⟩ := y
  have hk : k = 5 := h
  subst hk
  have h1 := (ok_mk 5 n l).1 hy
  have hs := h1.1
  unfold shp at hs
  have : n = 0 ∧ l.length = 1 := by omega
  match l, this.2 with
  | [z], _ => exact ⟨z, by rw [this.1], oks_all.1 h1.2 z (by simp)⟩
theorem pub_enc (z : Tm) : (Tm.mk 5 0 [z]).enc = 5 :: z.enc := by
  rw [enc_mk, encs_cons, encs_nil, List.append_nil]
  rfl
set_option maxRecDepth 100000 in
theorem shared_any (a b : Option Tm) (ha : OkO a) (hb : OkO b) (hlen : (encO a).length + (encO b).length ≤ 900000) (w : World) (hw : OK w (fpL []) [] w) :
    Fn Try.prog 19 [tmV a, tmV b] [] w (fun _ : Unit => True) (fun _ => .tuple #[tmV (shO a b), .int .i64 (if (shO a b).isSome then 0 else 2)]) (fun _ => []) := by
  unfold tmV
  refine enterF Try.func19 rfl Try.ntmps19 rfl hw ?_
  refine WC.seq ?_
  refine WC.region ?_
  refine WL.to (To.box (cs := tmC a) rfl rfl) rfl ?_
  intro b2
  refine WL.to (To.box (cs := tmC b) rfl rfl) rfl ?_
  intro b3
  refine WL.to (To.alloc (cs := [.string (strOfNums [])]) zr34 rfl) rfl ?_
  intro b4
  refine WL.y (Yl.assign rfl) rfl ?_
  refine WL.nil ?_
  refine WC.seq ?_
  refine WC.seq ?_
  refine WC.region ?_
  refine WL.y (Yl.loadN ag34 rfl (by repeat (first | exact Take1.head | apply Take1.tail)) (by rfl) (show _ = tmC b from rfl)) rfl ?_
  refine WL.callC (xs := [.tmp 7]) (cap := []) rfl rfl en11 (by repeat (first | exact TakeL.nil | (apply TakeL.cons; · repeat (first | exact Take1.head | apply Take1.tail)))) (fun w hw => kind_any b hb w hw.left.here) rfl ?_
  rintro ⟨⟩ -
  refine WL.y (Yl.neq rfl rfl) rfl ?_
  refine WL.y (Yl.move rfl) rfl ?_
  refine WL.both (t := 10) rfl (fun g10 => ?_) (fun g10 => ?_)
  · refine WL.off rfl rfl rfl rfl ?_
    refine WL.off rfl rfl rfl rfl ?_
    refine WL.off rfl rfl rfl rfl ?_
    refine WL.y (Yl.pickT rfl rfl) rfl ?_
    refine WL.nil ?_
    refine WC.condT rfl (by first | rfl | (simp; done) | (simp; omega)) ?_
    refine WC.seq ?_
    have e : shO a b = none := by
      cases a with
      | none => rfl
      | some x =>
        cases b with
        | none => rfl
        | some y =>
          have hk : ¬ y.kd = 5 := by
            first
            | exact of_decide_eq_true g10
            | exact fun _ => absurd (encO_nil.1 g14) (by simp)
          unfold shO
          dsimp only
          rw [if_neg hk]
    refine WC.region ?_
    refine WL.y (Yl.build rfl (cs := [.string (strOfNums [])]) (fun _ => by kernel_rfl)) rfl ?_
    refine WL.sto (Sto.agg sz34 rfl rfl (by repeat (first | exact Take1.head | apply Take1.tail)) (tm_ones none) rfl (by rfl) (show _ = tmC none from rfl)) (fun _ h => nomatch h) ?_
    refine WL.y (Yl.assign rfl) rfl ?_
    refine WL.nil ?_
    refine WC.ret ?_
    repeat (first | (with_reducible refine peelT ?_) | (with_reducible refine peelB ?_) | (with_reducible refine peelTX ?_) | (with_reducible refine peelBX ?_) | (with_reducible refine peelBN ?_) | (with_reducible refine peelBO rfl ?_))
    rw [e]
    exact retC2 (cs := tmC none) (.inr rfl) Try.results19 ag34 rfl rfl (by repeat (first | exact Take1.head | apply Take1.tail)) rfl fun w' h => ⟨(), trivial, rfl, h.sub (by repeat (first | exact TakeL.nil | (apply TakeL.cons; · repeat (first | exact Take1.head | apply Take1.tail))))⟩
  · refine WL.on rfl rfl ?_
    refine WL.y (Yl.field fo34_0 rfl) rfl ?_
    refine WL.on rfl rfl ?_
    refine WL.y (Yl.load on9 rfl (by repeat (first | exact Take1.head | apply Take1.tail)) (by rfl)) rfl ?_
    refine WL.on rfl rfl ?_
    refine WL.y (Yl.sEqT (encO_bytes ha) bytes_nil rfl rfl) rfl ?_
    refine WL.y (Yl.pickF rfl rfl) rfl ?_
    refine WL.nil ?_
    refine WC.condD rfl (fun g14 => ?_) (fun g14 => ?_)
    · refine WC.seq ?_
      have e : shO a b = none := by
        cases a with
        | none => rfl
        | some x =>
          cases b with
          | none => rfl
          | some y =>
            have hk : ¬ y.kd = 5 := by
              first
              | exact of_decide_eq_true g10
              | exact fun _ => absurd (encO_nil.1 g14) (by simp)
            unfold shO
            dsimp only
            rw [if_neg hk]
      refine WC.region ?_
      refine WL.y (Yl.build rfl (cs := [.string (strOfNums [])]) (fun _ => by kernel_rfl)) rfl ?_
      refine WL.sto (Sto.agg sz34 rfl rfl (by repeat (first | exact Take1.head | apply Take1.tail)) (tm_ones none) rfl (by rfl) (show _ = tmC none from rfl)) (fun _ h => nomatch h) ?_
      refine WL.y (Yl.assign rfl) rfl ?_
      refine WL.nil ?_
      refine WC.ret ?_
      repeat (first | (with_reducible refine peelT ?_) | (with_reducible refine peelB ?_) | (with_reducible refine peelTX ?_) | (with_reducible refine peelBX ?_) | (with_reducible refine peelBN ?_) | (with_reducible refine peelBO rfl ?_))
      rw [e]
      exact retC2 (cs := tmC none) (.inr rfl) Try.results19 ag34 rfl rfl (by repeat (first | exact Take1.head | apply Take1.tail)) rfl fun w' h => ⟨(), trivial, rfl, h.sub (by repeat (first | exact TakeL.nil | (apply TakeL.cons; · repeat (first | exact Take1.head | apply Take1.tail))))⟩
    · refine WC.skip ?_
      refine WC.seq ?_
      obtain ⟨x, rfl⟩ : ∃ x, a = some x := by
        cases a with
        | none => exact absurd rfl g14
        | some x => exact ⟨x, rfl⟩
      have hk5 : kdO b = 5 := Decidable.byContradiction fun h => of_decide_eq_false g10 h
      obtain ⟨y, rfl⟩ : ∃ y, b = some y := by
        cases b with
        | none => exact absurd hk5 (by decide)
        | some y => exact ⟨y, rfl⟩
      obtain ⟨z, rfl, hz⟩ := kd5 (hb y rfl) hk5
      have hx := ha x rfl
      obtain ⟨P, Q, hpq, hsh, hP, hQ, hlpq⟩ := sh_srt hx hz
      have e : shO (some x) (some (Tm.mk 5 0 [z])) = some (Tm.mk 6 0 [P, Q]) := by
        show (if (5 : Int) = 5 then some (shT x z) else none) = _
        rw [if_pos rfl, hsh]
      have hl1 : (encO (some (Tm.mk 5 0 [z]))).length = z.enc.length + 1 := by
        show (Tm.mk 5 0 [z]).enc.length = _
        rw [pub_enc]
        rfl
      have hl2 : (encO (some x)).length = x.enc.length := rfl
      refine WC.drawAny (Hs := [blkR b2 34 (tmC (some x)), blkR b3 34 (tmC (some (Tm.mk 5 0 [z])))]) mixed (by kernel_rfl) ⟨_, (by repeat (first | exact TakeL.nil | (apply TakeL.cons; · repeat (first | exact Take1.head | apply Take1.tail))))⟩ ?_
      refine WD.take 0 rfl (by kernel_rfl) (by kernel_rfl) (by kernel_rfl) rfl rfl (Yl.field fo34_0 rfl) rfl ?_
      refine WD.take 1 rfl (by kernel_rfl) (by kernel_rfl) (by kernel_rfl) rfl rfl (Yl.load on9 rfl (by repeat (first | exact Take1.head | apply Take1.tail)) (by rfl)) rfl ?_
      refine WD.take 2 rfl (by kernel_rfl) (by kernel_rfl) (by kernel_rfl) rfl rfl (Yl.field fo34_0 rfl) rfl ?_
      refine WD.take 3 rfl (by kernel_rfl) (by kernel_rfl) (by kernel_rfl) rfl rfl (Yl.load on9 rfl (by repeat (first | exact Take1.head | apply Take1.tail)) (by rfl)) rfl ?_
      refine WD.take 4 rfl (by kernel_rfl) (by kernel_rfl) (by kernel_rfl) rfl rfl (Yl.sliceStr (l := 1) un9 rfl ⟨_, rfl⟩ rfl (by rw [hl1]; omega) (Nat.le_refl _) (show ((encO (some (Tm.mk 5 0 [z]))).take (encO (some (Tm.mk 5 0 [z]))).length).drop 1 = z.enc by rw [List.take_length]; show ((Tm.mk 5 0 [z]).enc).drop 1 = _; rw [pub_enc]; rfl)) rfl ?_
      refine WD.one 5 (by kernel_rfl) ?_
      refine WO.to rfl rfl .no (To.buildSlice (vs := [sV x.enc, sV z.enc]) un85 zs9 rfl rfl (by simp [Value.cells, sV]) (by decide) (by decide)) rfl (fun _ => ⟨_, (by repeat (first | exact TakeL.nil | (apply TakeL.cons; · repeat (first | exact Take1.head | apply Take1.tail))))⟩) ?_
      intro b21
      refine WD.take 6 rfl (by kernel_rfl) (by kernel_rfl) (by kernel_rfl) rfl rfl (Yl.assign rfl) rfl ?_
      refine WD.done (by kernel_rfl) ?_
      refine WC.seq ?_
      refine WC.region ?_
      refine WL.y (Yl.move rfl) rfl ?_
      refine WL.view (fun w h => h.blkOwn (b := b21) (size := 1) (n := 2) (by repeat (first | exact Take1.head | apply Take1.tail)) (by unfold maxLen; omega) rfl) ?_
      refine WL.callC (xs := [.tmp 22]) (cap := []) rfl rfl en39 (by repeat (first | exact TakeL.nil | (apply TakeL.cons; · repeat (first | exact Take1.head | apply Take1.tail)))) (fun w hw => sort2_any b21 x.enc z.enc (enc_bytes x hx) (enc_bytes z hz) w hw.left.here) rfl ?_
      rintro ⟨⟩ -
      rw [hpq]
      dsimp only [List.cons_append, List.nil_append]
      refine WL.nil ?_
      refine WC.seq ?_
      refine WC.drawAny (Hs := [ownR (.slice (some ⟨b21, 0, none⟩) 2 2) 9 1 2 [sV P.enc, sV Q.enc]]) mixed (by kernel_rfl) ⟨_, (by repeat (first | exact TakeL.nil | (apply TakeL.cons; · repeat (first | exact Take1.head | apply Take1.tail))))⟩ ?_
      refine WD.take 0 rfl (by kernel_rfl) (by kernel_rfl) (by kernel_rfl) rfl rfl (Yl.move rfl) rfl ?_
      refine WD.take 1 rfl (by kernel_rfl) (by kernel_rfl) (by kernel_rfl) rfl rfl (Yl.index (j := 0) un85 sz9 rfl rfl (Reads.own (by repeat (first | exact Take1.head | apply Take1.tail))) rfl (by omega)) rfl ?_
      refine WD.take 2 rfl (by kernel_rfl) (by kernel_rfl) (by kernel_rfl) rfl rfl (Yl.loadE (j := 0) (u := sV P.enc) on9 rfl (Reads.own (by repeat (first | exact Take1.head | apply Take1.tail))) rfl) rfl ?_
      refine WD.take 3 rfl (by kernel_rfl) (by kernel_rfl) (by kernel_rfl) rfl rfl (Yl.build rfl (cs := tmC (some P)) (fun _ => by kernel_rfl)) rfl ?_
      refine WD.take 4 rfl (by kernel_rfl) (by kernel_rfl) (by kernel_rfl) rfl rfl (Yl.move rfl) rfl ?_
      refine WD.take 5 rfl (by kernel_rfl) (by kernel_rfl) (by kernel_rfl) rfl rfl (Yl.index (j := 1) un85 sz9 rfl rfl (Reads.own (by repeat (first | exact Take1.head | apply Take1.tail))) rfl (by omega)) rfl ?_
      refine WD.take 6 rfl (by kernel_rfl) (by kernel_rfl) (by kernel_rfl) rfl rfl (Yl.loadE (j := 1) (u := sV Q.enc) on9 rfl (Reads.own (by repeat (first | exact Take1.head | apply Take1.tail))) rfl) rfl ?_
      refine WD.take 7 rfl (by kernel_rfl) (by kernel_rfl) (by kernel_rfl) rfl rfl (Yl.build rfl (cs := tmC (some Q)) (fun _ => by kernel_rfl)) rfl ?_
      refine WD.one 8 (by kernel_rfl) ?_
      refine WO.to rfl rfl .no (To.buildSlice (vs := [tmV (some P), tmV (some Q)]) un25 zs34 rfl rfl (by simp [Value.cells, tmV, tmC]) (by decide) (by decide)) rfl (fun _ => ⟨_, (by repeat (first | exact TakeL.nil | (apply TakeL.cons; · repeat (first | exact Take1.head | apply Take1.tail))))⟩) ?_
      intro b32
      refine WD.one 9 (by kernel_rfl) ?_
      refine WO.callC (xs := [_, _, .tmp 32]) (cap := []) rfl .no rfl rfl en37 (by repeat (first | exact TakeL.nil | (apply TakeL.cons; · repeat (first | exact Take1.head | apply Take1.tail)))) (fun w hw => build_any 6 (by decide) [] bytes_nil (.slice none 0 0) (.slice (some ⟨b32, 0, none⟩) 2 2) [some P, some Q] (by intro o ho; simp at ho; rcases ho with rfl | rfl <;> (intro s hs; cases hs; assumption)) (by simp [flO, encO]; omega) w (fun _ _ => Rd.nil _ _) (hw.src (A := []) (RdOf.blk (size := 1) (n := 2) (cs := vcs tmV [some P, some Q]) (cs' := vcs tmV [some P, some Q]) (Nat.le_refl _) (by unfold maxLen; omega) (by simp [vcs, tmV, tmC, flat, Value.cells]) rfl) (by repeat (first | exact Take1.head | apply Take1.tail))) hw.left.here) rfl (fun _ => ⟨_, (by repeat (first | exact TakeL.nil | (apply TakeL.cons; · repeat (first | exact Take1.head | apply Take1.tail))))⟩) ?_
      rintro ⟨⟩ -
      rw [two_bld (by decide) (by decide)]
      refine WD.one 10 (by kernel_rfl) ?_
      refine WO.sto rfl rfl .no (Sto.agg sz34 rfl rfl (by repeat (first | exact Take1.head | apply Take1.tail)) (tm_ones _) rfl (by rfl) (show _ = tmC (some (Tm.mk 6 0 [P, Q])) from rfl)) ⟨_, (by repeat (first | exact TakeL.nil | (apply TakeL.cons; · repeat (first | exact Take1.head | apply Take1.tail))))⟩ ?_
      refine WD.take 11 rfl (by kernel_rfl) (by kernel_rfl) (by kernel_rfl) rfl rfl (Yl.assign rfl) rfl ?_
      refine WD.done (by kernel_rfl) ?_
      refine WC.ret ?_
      repeat (first | (with_reducible refine peelT ?_) | (with_reducible refine peelB ?_) | (with_reducible refine peelTX ?_) | (with_reducible refine peelBX ?_) | (with_reducible refine peelBN ?_) | (with_reducible refine peelBO rfl ?_))
      rw [e]
      exact retC2 (cs := tmC (some (Tm.mk 6 0 [P, Q]))) (.inr rfl) Try.results19 ag34 rfl rfl (by repeat (first | exact Take1.head | apply Take1.tail)) rfl fun w' h => ⟨(), trivial, rfl, h.sub (by repeat (first | exact TakeL.nil | (apply TakeL.cons; · repeat (first | exact Take1.head | apply Take1.tail))))⟩
end Go.Proofs.Ytifhkjcimhhaiaa

namespace Go.Proofs.Ytifhkjcimhhaiaa
open Go Go.RowKit
/-- Two results in memory, each of more cells, and a third one that is none. -/
theorem retCCV {c : Cx} {fn : Func} {R : Ending → World → Prop} {e : Exit} {env : Env} {H F F2 : List Res} {t T n b u U m b2 x : Nat} {T' T2 : TypeId} {cs cs2 : List Value} {v : Value} (he : e = .normal ∨ e = .ret) (hr : fn.results = #[.cell t T, .cell u U, .tmp x]) (ha : aggB c.P T n = true) (ho : aggB c.P U m = true)
    (hv : Env.get env t = some (.pointer (some ⟨b, 0, none⟩))) (hx : Env.get env u = some (.pointer (some ⟨b2, 0, none⟩))) (hy : Env.get env x = some v) (tk : Take1 H (blkR b T' cs) F) (tk2 : Take1 H (blkR b2 T2 cs2) F2) (hl : cs.length = n) (hl2 : cs2.length = m) (h : ∀ w, OK c.w0 c.S H w → R (.returned (.tuple #[.agg cs.toArray, .agg cs2.toArray, v])) w) : retS c fn R e env [] H := by
  refine retG he (fun tmps w ht hw => ?_) h
  have h1 := run_loadVar_agg (P := c.P) ha hl (hw.cells tk)
  have h2 := run_loadVar_agg (P := c.P) ho hl2 (hw.cells tk2)
  simp [results, hr, ht t _ hv, ht u _ hx, ht x _ hy, asAddr, h1, h2]
theorem splitNo_any (o : Option Tm) (ho : OkO o) (hk : kdO o ≠ 2) (w : World) (hw : OK w (fpL []) [] w) :
    Fn Try.prog 25 [tmV o] [] w (fun _ : Unit => True) (fun _ => .tuple #[tmV none, tmV none, .int .i64 9]) (fun _ => []) := by
  unfold tmV
  refine enterF Try.func25 rfl Try.ntmps25 rfl hw ?_
  refine WC.seq ?_
  refine WC.region ?_
  refine WL.to (To.box (cs := tmC o) rfl rfl) rfl ?_
  intro b1
  refine WL.to (To.alloc (cs := tmC none) zr34 rfl) rfl ?_
  intro b2
  refine WL.to (To.alloc (cs := tmC none) zr34 rfl) rfl ?_
  intro b3
  refine WL.y (Yl.assign rfl) rfl ?_
  refine WL.nil ?_
  refine WC.seq ?_
  refine WC.seq ?_
  refine WC.region ?_
  refine WL.y (Yl.loadN ag34 rfl (by repeat (first | exact Take1.head | apply Take1.tail)) (by rfl) (by rfl)) rfl ?_
  refine WL.callC (xs := [.tmp 5]) (cap := []) rfl rfl en11 (by repeat (first | exact TakeL.nil | (apply TakeL.cons; · repeat (first | exact Take1.head | apply Take1.tail)))) (fun w hw => kind_any o ho w hw.left.here) rfl ?_
  rintro ⟨⟩ -
  refine WL.y (Yl.neq rfl rfl) rfl ?_
  refine WL.nil ?_
  refine WC.condT rfl (decide_eq_true hk) ?_
  refine WC.seq ?_
  refine WC.drawAny (Hs := []) mixed (by kernel_rfl) ⟨_, (by repeat (first | exact TakeL.nil | (apply TakeL.cons; · repeat (first | exact Take1.head | apply Take1.tail))))⟩ ?_
  refine WD.two 0 1 (by kernel_rfl) ?_ ?_
  · refine WO.y rfl rfl .no (Yl.loadN ag34 rfl (by repeat (first | exact Take1.head | apply Take1.tail)) (by rfl) (by rfl)) rfl ?_
    refine WD.two 1 2 (by kernel_rfl) ?_ ?_
    · refine WO.y rfl rfl .no (Yl.loadN ag34 rfl (by repeat (first | exact Take1.head | apply Take1.tail)) (by rfl) (by rfl)) rfl ?_
      refine WD.one 2 (by kernel_rfl) ?_
      refine WO.sto rfl rfl .no (Sto.agg sz34 rfl rfl (by repeat (first | exact Take1.head | apply Take1.tail)) (tm_ones none) rfl (by rfl) (show _ = tmC none from rfl)) ⟨_, (by repeat (first | exact TakeL.nil | (apply TakeL.cons; · repeat (first | exact Take1.head | apply Take1.tail))))⟩ ?_
      refine WD.one 3 (by kernel_rfl) ?_
      refine WO.sto rfl rfl .no (Sto.agg sz34 rfl rfl (by repeat (first | exact Take1.head | apply Take1.tail)) (tm_ones none) rfl (by rfl) (show _ = tmC none from rfl)) ⟨_, (by repeat (first | exact TakeL.nil | (apply TakeL.cons; · repeat (first | exact Take1.head | apply Take1.tail))))⟩ ?_
      refine WD.take 4 rfl (by kernel_rfl) (by kernel_rfl) (by kernel_rfl) rfl rfl (Yl.assign rfl) rfl ?_
      refine WD.done (by kernel_rfl) ?_
      refine WC.ret ?_
      repeat (first | (with_reducible refine peelT ?_) | (with_reducible refine peelB ?_) | (with_reducible refine peelTX ?_) | (with_reducible refine peelBX ?_) | (with_reducible refine peelBN ?_) | (with_reducible refine peelBO rfl ?_))
      exact retCCV (cs := tmC none) (cs2 := tmC none) (.inr rfl) Try.results25 ag34 ag34 rfl rfl rfl (by repeat (first | exact Take1.head | apply Take1.tail)) (by repeat (first | exact Take1.head | apply Take1.tail)) rfl rfl fun w' h => ⟨(), trivial, rfl, h.sub (by repeat (first | exact TakeL.nil | (apply TakeL.cons; · repeat (first | exact Take1.head | apply Take1.tail))))⟩
    · refine WO.sto rfl rfl .no (Sto.agg sz34 rfl rfl (by repeat (first | exact Take1.head | apply Take1.tail)) (tm_ones none) rfl (by rfl) (show _ = tmC none from rfl)) ⟨_, (by repeat (first | exact TakeL.nil | (apply TakeL.cons; · repeat (first | exact Take1.head | apply Take1.tail))))⟩ ?_
      refine WD.one 1 (by kernel_rfl) ?_
      refine WO.y rfl rfl .no (Yl.loadN ag34 rfl (by repeat (first | exact Take1.head | apply Take1.tail)) (by rfl) (by rfl)) rfl ?_
      refine WD.one 3 (by kernel_rfl) ?_
      refine WO.sto rfl rfl .no (Sto.agg sz34 rfl rfl (by repeat (first | exact Take1.head | apply Take1.tail)) (tm_ones none) rfl (by rfl) (show _ = tmC none from rfl)) ⟨_, (by repeat (first | exact TakeL.nil | (apply TakeL.cons; · repeat (first | exact Take1.head | apply Take1.tail))))⟩ ?_
      refine WD.take 4 rfl (by kernel_rfl) (by kernel_rfl) (by kernel_rfl) rfl rfl (Yl.assign rfl) rfl ?_
      refine WD.done (by kernel_rfl) ?_
      refine WC.ret ?_
      repeat (first | (with_reducible refine peelT ?_) | (with_reducible refine peelB ?_) | (with_reducible refine peelTX ?_) | (with_reducible refine peelBX ?_) | (with_reducible refine peelBN ?_) | (with_reducible refine peelBO rfl ?_))
      exact retCCV (cs := tmC none) (cs2 := tmC none) (.inr rfl) Try.results25 ag34 ag34 rfl rfl rfl (by repeat (first | exact Take1.head | apply Take1.tail)) (by repeat (first | exact Take1.head | apply Take1.tail)) rfl rfl fun w' h => ⟨(), trivial, rfl, h.sub (by repeat (first | exact TakeL.nil | (apply TakeL.cons; · repeat (first | exact Take1.head | apply Take1.tail))))⟩
  · refine WO.y rfl rfl .no (Yl.loadN ag34 rfl (by repeat (first | exact Take1.head | apply Take1.tail)) (by rfl) (by rfl)) rfl ?_
    refine WD.one 0 (by kernel_rfl) ?_
    refine WO.y rfl rfl .no (Yl.loadN ag34 rfl (by repeat (first | exact Take1.head | apply Take1.tail)) (by rfl) (by rfl)) rfl ?_
    refine WD.one 2 (by kernel_rfl) ?_
    refine WO.sto rfl rfl .no (Sto.agg sz34 rfl rfl (by repeat (first | exact Take1.head | apply Take1.tail)) (tm_ones none) rfl (by rfl) (show _ = tmC none from rfl)) ⟨_, (by repeat (first | exact TakeL.nil | (apply TakeL.cons; · repeat (first | exact Take1.head | apply Take1.tail))))⟩ ?_
    refine WD.one 3 (by kernel_rfl) ?_
    refine WO.sto rfl rfl .no (Sto.agg sz34 rfl rfl (by repeat (first | exact Take1.head | apply Take1.tail)) (tm_ones none) rfl (by rfl) (show _ = tmC none from rfl)) ⟨_, (by repeat (first | exact TakeL.nil | (apply TakeL.cons; · repeat (first | exact Take1.head | apply Take1.tail))))⟩ ?_
    refine WD.take 4 rfl (by kernel_rfl) (by kernel_rfl) (by kernel_rfl) rfl rfl (Yl.assign rfl) rfl ?_
    refine WD.done (by kernel_rfl) ?_
    refine WC.ret ?_
    repeat (first | (with_reducible refine peelT ?_) | (with_reducible refine peelB ?_) | (with_reducible refine peelTX ?_) | (with_reducible refine peelBX ?_) | (with_reducible refine peelBN ?_) | (with_reducible refine peelBO rfl ?_))
    exact retCCV (cs := tmC none) (cs2 := tmC none) (.inr rfl) Try.results25 ag34 ag34 rfl rfl rfl (by repeat (first | exact Take1.head | apply Take1.tail)) (by repeat (first | exact Take1.head | apply Take1.tail)) rfl rfl fun w' h => ⟨(), trivial, rfl, h.sub (by repeat (first | exact TakeL.nil | (apply TakeL.cons; · repeat (first | exact Take1.head | apply Take1.tail))))⟩
theorem split_any (x y : Tm) (hx : x.ok) (hy : y.ok) (hlen : x.enc.length + y.enc.length ≤ 900000) (w : World) (hw : OK w (fpL []) [] w) :
    Fn Try.prog 25 [tmV (some (pairT x y))] [] w (fun _ : Unit => True) (fun _ => .tuple #[tmV (some x), tmV (some y), .int .i64 0]) (fun _ => []) := by
  have hok := pair_ok hx hy
  have hel : (pairT x y).enc.length = 1 + (x.enc.length + y.enc.length) := by unfold pairT; rw [enc_mk, encs_cons, encs_cons, encs_nil, List.append_nil, List.length_append, List.length_append]; rfl
  have ho : OkO (some (pairT x y)) := fun s h => by cases h; exact hok
  unfold tmV
  refine enterF Try.func25 rfl Try.ntmps25 rfl hw ?_
  refine WC.seq ?_
  refine WC.region ?_
  refine WL.to (To.box (cs := tmC (some (pairT x y))) rfl rfl) rfl ?_
  intro b1
  refine WL.to (To.alloc (cs := tmC none) zr34 rfl) rfl ?_
  intro b2
  refine WL.to (To.alloc (cs := tmC none) zr34 rfl) rfl ?_
  intro b3
  refine WL.y (Yl.assign rfl) rfl ?_
  refine WL.nil ?_
  refine WC.seq ?_
  refine WC.seq ?_
  refine WC.region ?_
  refine WL.y (Yl.loadN ag34 rfl (by repeat (first | exact Take1.head | apply Take1.tail)) (by rfl) (show _ = tmC (some (pairT x y)) from rfl)) rfl ?_
  refine WL.callC (xs := [.tmp 5]) (cap := []) rfl rfl en11 (by repeat (first | exact TakeL.nil | (apply TakeL.cons; · repeat (first | exact Take1.head | apply Take1.tail)))) (fun w hw => kind_any (some (pairT x y)) ho w hw.left.here) rfl ?_
  rintro ⟨⟩ -
  refine WL.y (Yl.neq rfl rfl) rfl ?_
  refine WL.nil ?_
  refine WC.condF rfl (show decide ((2 : Int) ≠ 2) = false by decide) ?_
  refine WC.skip ?_
  refine WC.seq ?_
  refine WC.region ?_
  refine WL.y (Yl.loadN ag34 rfl (by repeat (first | exact Take1.head | apply Take1.tail)) (by rfl) (show _ = tmC (some (pairT x y)) from rfl)) rfl ?_
  refine WL.callC (xs := [.tmp 11]) (cap := []) rfl rfl en34 (by repeat (first | exact TakeL.nil | (apply TakeL.cons; · repeat (first | exact Take1.head | apply Take1.tail)))) (fun w hw => two_any (pairT x y) x y hok rfl (by omega) w hw.left.here) rfl ?_
  rintro ⟨⟩ -
  refine WL.y (Yl.move rfl) rfl ?_
  refine WL.y (Yl.extract rfl rfl) rfl ?_
  refine WL.y (Yl.extract rfl rfl) rfl ?_
  refine WL.sto (Sto.agg sz34 rfl rfl (by repeat (first | exact Take1.head | apply Take1.tail)) (tm_ones (some x)) rfl (by rfl) (show _ = tmC (some x) from rfl)) (fun _ h => nomatch h) ?_
  refine WL.sto (Sto.agg sz34 rfl rfl (by repeat (first | exact Take1.head | apply Take1.tail)) (tm_ones (some y)) rfl (by rfl) (show _ = tmC (some y) from rfl)) (fun _ h => nomatch h) ?_
  refine WL.nil ?_
  refine WC.seq ?_
  refine WC.drawAny (Hs := []) mixed (by kernel_rfl) ⟨_, (by repeat (first | exact TakeL.nil | (apply TakeL.cons; · repeat (first | exact Take1.head | apply Take1.tail))))⟩ ?_
  refine WD.two 0 1 (by kernel_rfl) ?_ ?_
  · refine WO.y rfl rfl .no (Yl.loadN ag34 rfl (by repeat (first | exact Take1.head | apply Take1.tail)) (by rfl) (show _ = tmC (some x) from rfl)) rfl ?_
    refine WD.two 1 2 (by kernel_rfl) ?_ ?_
    · refine WO.y rfl rfl .no (Yl.loadN ag34 rfl (by repeat (first | exact Take1.head | apply Take1.tail)) (by rfl) (show _ = tmC (some y) from rfl)) rfl ?_
      refine WD.one 2 (by kernel_rfl) ?_
      refine WO.sto rfl rfl .no (Sto.agg sz34 rfl rfl (by repeat (first | exact Take1.head | apply Take1.tail)) (tm_ones (some x)) rfl (by rfl) (show _ = tmC (some x) from rfl)) ⟨_, (by repeat (first | exact TakeL.nil | (apply TakeL.cons; · repeat (first | exact Take1.head | apply Take1.tail))))⟩ ?_
      refine WD.one 3 (by kernel_rfl) ?_
      refine WO.sto rfl rfl .no (Sto.agg sz34 rfl rfl (by repeat (first | exact Take1.head | apply Take1.tail)) (tm_ones (some y)) rfl (by rfl) (show _ = tmC (some y) from rfl)) ⟨_, (by repeat (first | exact TakeL.nil | (apply TakeL.cons; · repeat (first | exact Take1.head | apply Take1.tail))))⟩ ?_
      refine WD.take 4 rfl (by kernel_rfl) (by kernel_rfl) (by kernel_rfl) rfl rfl (Yl.assign rfl) rfl ?_
      refine WD.done (by kernel_rfl) ?_
      refine WC.ret ?_
      repeat (first | (with_reducible refine peelT ?_) | (with_reducible refine peelB ?_) | (with_reducible refine peelTX ?_) | (with_reducible refine peelBX ?_) | (with_reducible refine peelBN ?_) | (with_reducible refine peelBO rfl ?_))
      exact retCCV (cs := tmC (some x)) (cs2 := tmC (some y)) (.inr rfl) Try.results25 ag34 ag34 rfl rfl rfl (by repeat (first | exact Take1.head | apply Take1.tail)) (by repeat (first | exact Take1.head | apply Take1.tail)) rfl rfl fun w' h => ⟨(), trivial, rfl, h.sub (by repeat (first | exact TakeL.nil | (apply TakeL.cons; · repeat (first | exact Take1.head | apply Take1.tail))))⟩
    · refine WO.sto rfl rfl .no (Sto.agg sz34 rfl rfl (by repeat (first | exact Take1.head | apply Take1.tail)) (tm_ones (some x)) rfl (by rfl) (show _ = tmC (some x) from rfl)) ⟨_, (by repeat (first | exact TakeL.nil | (apply TakeL.cons; · repeat (first | exact Take1.head | apply Take1.tail))))⟩ ?_
      refine WD.one 1 (by kernel_rfl) ?_
      refine WO.y rfl rfl .no (Yl.loadN ag34 rfl (by repeat (first | exact Take1.head | apply Take1.tail)) (by rfl) (show _ = tmC (some y) from rfl)) rfl ?_
      refine WD.one 3 (by kernel_rfl) ?_
      refine WO.sto rfl rfl .no (Sto.agg sz34 rfl rfl (by repeat (first | exact Take1.head | apply Take1.tail)) (tm_ones (some y)) rfl (by rfl) (show _ = tmC (some y) from rfl)) ⟨_, (by repeat (first | exact TakeL.nil | (apply TakeL.cons; · repeat (first | exact Take1.head | apply Take1.tail))))⟩ ?_
      refine WD.take 4 rfl (by kernel_rfl) (by kernel_rfl) (by kernel_rfl) rfl rfl (Yl.assign rfl) rfl ?_
      refine WD.done (by kernel_rfl) ?_
      refine WC.ret ?_
      repeat (first | (with_reducible refine peelT ?_) | (with_reducible refine peelB ?_) | (with_reducible refine peelTX ?_) | (with_reducible refine peelBX ?_) | (with_reducible refine peelBN ?_) | (with_reducible refine peelBO rfl ?_))
      exact retCCV (cs := tmC (some x)) (cs2 := tmC (some y)) (.inr rfl) Try.results25 ag34 ag34 rfl rfl rfl (by repeat (first | exact Take1.head | apply Take1.tail)) (by repeat (first | exact Take1.head | apply Take1.tail)) rfl rfl fun w' h => ⟨(), trivial, rfl, h.sub (by repeat (first | exact TakeL.nil | (apply TakeL.cons; · repeat (first | exact Take1.head | apply Take1.tail))))⟩
  · refine WO.y rfl rfl .no (Yl.loadN ag34 rfl (by repeat (first | exact Take1.head | apply Take1.tail)) (by rfl) (show _ = tmC (some y) from rfl)) rfl ?_
    refine WD.one 0 (by kernel_rfl) ?_
    refine WO.y rfl rfl .no (Yl.loadN ag34 rfl (by repeat (first | exact Take1.head | apply Take1.tail)) (by rfl) (show _ = tmC (some x) from rfl)) rfl ?_
    refine WD.one 2 (by kernel_rfl) ?_
    refine WO.sto rfl rfl .no (Sto.agg sz34 rfl rfl (by repeat (first | exact Take1.head | apply Take1.tail)) (tm_ones (some x)) rfl (by rfl) (show _ = tmC (some x) from rfl)) ⟨_, (by repeat (first | exact TakeL.nil | (apply TakeL.cons; · repeat (first | exact Take1.head | apply Take1.tail))))⟩ ?_
    refine WD.one 3 (by kernel_rfl) ?_
    refine WO.sto rfl rfl .no (Sto.agg sz34 rfl rfl (by repeat (first | exact Take1.head | apply Take1.tail)) (tm_ones (some y)) rfl (by rfl) (show _ = tmC (some y) from rfl)) ⟨_, (by repeat (first | exact TakeL.nil | (apply TakeL.cons; · repeat (first | exact Take1.head | apply Take1.tail))))⟩ ?_
    refine WD.take 4 rfl (by kernel_rfl) (by kernel_rfl) (by kernel_rfl) rfl rfl (Yl.assign rfl) rfl ?_
    refine WD.done (by kernel_rfl) ?_
    refine WC.ret ?_
    repeat (first | (with_reducible refine peelT ?_) | (with_reducible refine peelB ?_) | (with_reducible refine peelTX ?_) | (with_reducible refine peelBX ?_) | (with_reducible refine peelBN ?_) | (with_reducible refine peelBO rfl ?_))
    exact retCCV (cs := tmC (some x)) (cs2 := tmC (some y)) (.inr rfl) Try.results25 ag34 ag34 rfl rfl rfl (by repeat (first | exact Take1.head | apply Take1.tail)) (by repeat (first | exact Take1.head | apply Take1.tail)) rfl rfl fun w' h => ⟨(), trivial, rfl, h.sub (by repeat (first | exact TakeL.nil | (apply TakeL.cons; · repeat (first | exact Take1.head | apply Take1.tail))))⟩
theorem open_any (k x : Tm) (key : Option Tm) (hk : k.ok) (hx : x.ok) (hkey : OkO key) (hlen : k.enc.length + x.enc.length ≤ 900000) (w : World) (hw : OK w (fpL []) [] w) :
    Fn Try.prog 26 [tmV key, tmV (some (sealT k x))] [] w (fun _ : Unit => True) (fun _ => if k.enc = encO key then .tuple #[tmV (some x), .int .i64 0] else .tuple #[tmV none, .int .i64 140]) (fun _ => []) := by
  have hok := seal_ok hk hx
  have hel : (sealT k x).enc.length = 1 + (k.enc.length + x.enc.length) := by unfold sealT; rw [enc_mk, encs_cons, encs_cons, encs_nil, List.append_nil, List.length_append, List.length_append]; rfl
  have ho : OkO (some (sealT k x)) := fun s h => by cases h; exact hok
  have hko : OkO (some k) := fun s h => by cases h; exact hk
  unfold tmV
  refine enterF Try.func26 rfl Try.ntmps26 rfl hw ?_
  refine WC.seq ?_
  refine WC.region ?_
  refine WL.to (To.box (cs := tmC key) rfl rfl) rfl ?_
  intro b2
  refine WL.to (To.box (cs := tmC (some (sealT k x))) rfl rfl) rfl ?_
  intro b3
  refine WL.to (To.alloc (cs := tmC none) zr34 rfl) rfl ?_
  intro b4
  refine WL.y (Yl.assign rfl) rfl ?_
  refine WL.nil ?_
  refine WC.seq ?_
  refine WC.seq ?_
  refine WC.region ?_
  refine WL.y (Yl.loadN ag34 rfl (by repeat (first | exact Take1.head | apply Take1.tail)) (by rfl) (show _ = tmC (some (sealT k x)) from rfl)) rfl ?_
  refine WL.callC (xs := [.tmp 8]) (cap := []) rfl rfl en11 (by repeat (first | exact TakeL.nil | (apply TakeL.cons; · repeat (first | exact Take1.head | apply Take1.tail)))) (fun w hw => kind_any (some (sealT k x)) ho w hw.left.here) rfl ?_
  rintro ⟨⟩ -
  refine WL.y (Yl.eql rfl rfl) rfl ?_
  refine WL.nil ?_
  refine WC.condT rfl (show decide ((4 : Int) = 4) = true by decide) ?_
  refine WC.seq ?_
  refine WC.region ?_
  refine WL.y (Yl.loadN ag34 rfl (by repeat (first | exact Take1.head | apply Take1.tail)) (by rfl) (show _ = tmC (some (sealT k x)) from rfl)) rfl ?_
  refine WL.callC (xs := [.tmp 12]) (cap := []) rfl rfl en34 (by repeat (first | exact TakeL.nil | (apply TakeL.cons; · repeat (first | exact Take1.head | apply Take1.tail)))) (fun w hw => two_any (sealT k x) k x hok rfl (by omega) w hw.left.here) rfl ?_
  rintro ⟨⟩ -
  refine WL.y (Yl.move rfl) rfl ?_
  refine WL.y (Yl.extract rfl rfl) rfl ?_
  refine WL.y (Yl.extract rfl rfl) rfl ?_
  refine WL.to (To.alloc (cs := tmC none) zr34 rfl) rfl ?_
  intro b6
  refine WL.to (To.alloc (cs := tmC none) zr34 rfl) rfl ?_
  intro b7
  refine WL.sto (Sto.agg sz34 rfl rfl (by repeat (first | exact Take1.head | apply Take1.tail)) (tm_ones (some k)) rfl (by rfl) (show _ = tmC (some k) from rfl)) (fun _ h => nomatch h) ?_
  refine WL.sto (Sto.agg sz34 rfl rfl (by repeat (first | exact Take1.head | apply Take1.tail)) (tm_ones (some x)) rfl (by rfl) (show _ = tmC (some x) from rfl)) (fun _ h => nomatch h) ?_
  refine WL.nil ?_
  refine WC.seq ?_
  refine WC.region ?_
  refine WL.y (Yl.loadN ag34 rfl (by repeat (first | exact Take1.head | apply Take1.tail)) (by rfl) (show _ = tmC (some k) from rfl)) rfl ?_
  refine WL.y (Yl.loadN ag34 rfl (by repeat (first | exact Take1.head | apply Take1.tail)) (by rfl) (show _ = tmC key from rfl)) rfl ?_
  refine WL.y (Yl.eqlG rfl rfl (eqM_op hko hkey)) rfl ?_
  refine WL.nil ?_
  refine WC.condD rfl (fun g18 => ?_) (fun g18 => ?_)
  · refine WC.seq ?_
    refine WC.region ?_
    refine WL.y (Yl.loadN ag34 rfl (by repeat (first | exact Take1.head | apply Take1.tail)) (by rfl) (show _ = tmC (some x) from rfl)) rfl ?_
    refine WL.sto (Sto.agg sz34 rfl rfl (by repeat (first | exact Take1.head | apply Take1.tail)) (tm_ones (some x)) rfl (by rfl) (show _ = tmC (some x) from rfl)) (fun _ h => nomatch h) ?_
    refine WL.y (Yl.assign rfl) rfl ?_
    refine WL.nil ?_
    refine WC.ret ?_
    repeat (first | (with_reducible refine peelT ?_) | (with_reducible refine peelB ?_) | (with_reducible refine peelTX ?_) | (with_reducible refine peelBX ?_) | (with_reducible refine peelBN ?_) | (with_reducible refine peelBO rfl ?_))
    rw [if_pos (show k.enc = encO key from g18)]
    exact retC2 (cs := tmC (some x)) (.inr rfl) Try.results26 ag34 rfl rfl (by repeat (first | exact Take1.head | apply Take1.tail)) rfl fun w' h => ⟨(), trivial, rfl, h.sub (by repeat (first | exact TakeL.nil | (apply TakeL.cons; · repeat (first | exact Take1.head | apply Take1.tail))))⟩
  · refine WC.skip ?_
    refine WC.seq ?_
    refine WC.region ?_
    refine WL.y (Yl.build rfl (cs := tmC none) (fun _ => by kernel_rfl)) rfl ?_
    refine WL.sto (Sto.agg sz34 rfl rfl (by repeat (first | exact Take1.head | apply Take1.tail)) (tm_ones none) rfl (by rfl) (show _ = tmC none from rfl)) (fun _ h => nomatch h) ?_
    refine WL.y (Yl.assign rfl) rfl ?_
    refine WL.nil ?_
    refine WC.ret ?_
    repeat (first | (with_reducible refine peelT ?_) | (with_reducible refine peelB ?_) | (with_reducible refine peelTX ?_) | (with_reducible refine peelBX ?_) | (with_reducible refine peelBN ?_) | (with_reducible refine peelBO rfl ?_))
    rw [if_neg (show ¬ k.enc = encO key from g18)]
    exact retC2 (cs := tmC none) (.inr rfl) Try.results26 ag34 rfl rfl (by repeat (first | exact Take1.head | apply Take1.tail)) rfl fun w' h => ⟨(), trivial, rfl, h.sub (by repeat (first | exact TakeL.nil | (apply TakeL.cons; · repeat (first | exact Take1.head | apply Take1.tail))))⟩
end Go.Proofs.Ytifhkjcimhhaiaa
