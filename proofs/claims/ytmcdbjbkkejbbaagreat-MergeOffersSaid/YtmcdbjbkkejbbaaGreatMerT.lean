/- The reference's books: short sums, buckets: the walks. -/
import Derived.Test.YtmcdbjbkkejbbaaGreatMerS
import Derived.Test.YtmcdbjbkkejbbaaGreatShaV
namespace Go.Proofs.YtmcdbjbkkejbbaaGreat
open Go Go.RowKit
theorem Fn.also {P : Program} {f : FuncId} {vs : List Value} {A : List Res} {w : World} {α : Type} {Φ Ψ : α → Prop} {v : α → Value} {B : α → List Res} (h : Fn P f vs A w Φ v B) (k : ∀ x w', OK w (fpL A) (B x) w' → Ψ x) : Fn P f vs A w (fun x => Φ x ∧ Ψ x) v B :=
  Calls.mono h fun _ w' ⟨x, h1, h2, h3⟩ => ⟨x, ⟨h1, k x w' h3⟩, h2, h3⟩
theorem own_cap {w0 : World} {S : Pm} {w : World} {a : Option Addr} {n c e size : Nat} {xs : List Value} {F : List Res} (h : OK w0 S (ownR (.slice a n c) e size n xs :: F) w) : n ≤ c := by
  obtain ⟨_, _, he, hcl, hml⟩ := (h.get .head : Sown _ _ _ _ _ _).rd.form
  cases he
  exact hcl
section
variable {c : Cx} {env : Env} {ds : List Deferred} {H : List Res} {dst : Option Tmp} {ty : TypeId} {pos : String} {af : Array Edge} {g : Option (Nat × Bool)}
/-- An element of an array that lies in a row. -/
theorem Yl.indexO {t e : TypeId} {x i : Operand} {k' : IntKind} {z : Int} {j n size k m s : Nat} {v : Value} {cs : List Value} (hu : c.P.underlying t = some (.array n e)) (hsz : (c.P.info? e).map (·.size) = some size)
    (hx : ev env x = some (elemO v k)) (hr : Reads c H v s m cs) (hne : 0 < cs.length) (hi : ev env i = some (.int k' z)) (hz : z = (j : Int)) (hj : j < n) : Yl c env ds H ⟨dst, .indexAddr t x i, ty, pos, af, g⟩ (elemO v (k + j * size)) := fun a w ha hw => by
  subst hz
  have r := hr w hw
  rcases r.2 with ⟨rfl, rfl⟩ | ⟨ad, cap, rfl, h1, h2, h3⟩
  · have := r.1; omega
  · have hsp := (h3 0 cs[0] (List.getElem?_eq_getElem hne)).1
    obtain ⟨b, o, sp⟩ := ad
    cases hsp
    cases hi' : c.P.info? e with
    | none => simp [hi'] at hsz
    | some i' =>
      have hs : i'.size = size := by simpa [hi'] using hsz
      simp [execOp, ha.ev hx, ha.ev hi, elemO, Instr.indexAt, asIntOf, run_underlying hu, hj, sizeOf, typeInfo, hi', hs, Instr.sureAddr, Addr.add_lit, Nat.add_assoc]
end
theorem rc_b0 {xs : List Rc} (hG : ROk xs) {a : Nat} {x : Rc} (h : xs[a]? = some x) : (vcs rcV xs)[a * 22]? = some (.int .u8 (x.id.headD 0)) := by
  have hxo := hG.get h
  have h1 := rc_drop hG a
  have e : (vcs rcV xs)[a * 22]? = ((vcs rcV xs).drop (a * 22))[0]? := by rw [List.getElem?_drop, Nat.add_zero]
  have hd : xs.drop a = x :: xs.drop (a + 1) := by rw [List.drop_eq_getElem?_toList_append, h]; rfl
  rw [e, h1, hd, vcs_cons]
  show (x.cells ++ _)[0]? = _
  rw [List.getElem?_append_left (by rw [Rc.cells_len hxo.len]; omega)]
  exact (buI_is hxo).1
theorem b0_at {xs : List Rc} (hG : ROk xs) {a : Nat} {x : Rc} (h : xs[a]? = some x) : (vcs rcV xs)[a * 22 + 0 + 0 * 1]? = some (.int .u8 (x.id.headD 0)) := by
  have e : a * 22 + 0 + 0 * 1 = a * 22 := by omega
  rw [e]
  exact rc_b0 hG h
def allN (xs : List Rc) (i : Nat) : List Int := allB (xs.take i)
theorem allN_next {xs : List Rc} {i : Nat} {x : Rc} (h : xs[i]? = some x) : allN xs (i + 1) = allN xs i ++ recB x := by unfold allN; rw [← take_snoc _ _ _ h, allB_snoc]
set_option maxRecDepth 100000 in
theorem digestR_any (v : Value) (xs : List Rc) (hG : ROk xs) (hl : xs.length ≤ 2000) (w : World) (hx : RdS w (fpL []) v 22 xs.length (vcs rcV xs)) (hw : OK w (fpL []) [] w) :
    Fn Tryz.prog 9 [v] [] w (fun _ : Option Addr × Nat => True) (fun y => subS (.slice y.1 (8 * 4) y.2) 0 8 y.2 1) (fun y => [rdR (subS (.slice y.1 (8 * 4) y.2) 0 8 y.2 1) 1 8 (ints .u8 (digF xs))]) := by
  obtain ⟨al, cl, rfl, hcl, hml⟩ := hx.rd.form
  have hal := allB_len hG
  refine enterF Tryz.func9 rfl Tryz.ntmps9 rfl hw ?_
  refine WC.seq ?_
  refine WC.region ?_
  refine WL.y (Yl.assign rfl) rfl ?_ -- t2
  refine WL.nil ?_
  refine WC.seq ?_
  refine WC.region ?_
  refine WL.y (Yl.assign rfl) rfl ?_ -- t3
  refine WL.nil ?_
  refine WC.seq ?_
  refine WC.seq ?_
  refine WC.region ?_
  refine WL.y (Yl.assign rfl) rfl ?_ -- t4
  refine WL.nil ?_
  refine WC.block ?_
  refine WC.view (fun w h => h.addNil 5 1) ?_
  refine WC.loop (α := Nat × (Option Addr × Nat)) (fun p => [(0, .slice al xs.length cl), (3, .slice p.2.1 (allN xs p.1).length p.2.2), (4, .int .i64 (p.1 : Int))]) (fun p => [ownR (.slice p.2.1 (allN xs p.1).length p.2.2) 5 1 (allN xs p.1).length (ints .u8 (allN xs p.1))]) (fun p => p.1 ≤ xs.length) (fun p => xs.length - p.1) (0, none, 0) (Nat.zero_le _) ⟨(by repeat (first | exact Sub.nil | refine Sub.cons rfl ?_)), _, (by repeat (first | exact TakeL.nil | (apply TakeL.cons; · repeat (first | exact Take1.head | apply Take1.tail))))⟩ ?_
  rintro ⟨i, ao, ca⟩ hi
  dsimp only at hi ⊢
  refine WC.seq ?_
  refine WC.seq ?_
  refine WC.region ?_
  refine WL.y (Yl.move rfl) rfl ?_ -- t5
  refine WL.y (Yl.move rfl) rfl ?_ -- t6
  refine WL.y (Yl.len un22 rfl) rfl ?_ -- t7
  refine WL.y (Yl.lss rfl rfl) rfl ?_ -- t8
  refine WL.nil ?_
  refine WC.condD rfl (fun g8 => ?_) (fun g8 => ?_)
  · refine WC.skip ?_
    refine WC.seq ?_
    refine WC.block ?_
    refine WC.region ?_
    refine WL.y (Yl.move rfl) rfl ?_ -- t11
    refine WL.y (Yl.move rfl) rfl ?_ -- t12
    refine WL.y (Yl.move rfl) rfl ?_ -- t13
    have hil : i < xs.length := by omega
    obtain ⟨x, hx0⟩ : ∃ x, xs[i]? = some x := ⟨_, List.getElem?_eq_getElem hil⟩
    have hxo := hG.get hx0
    have hnext := allN_next hx0
    have hrl := recB_len hxo.len
    have hni : (allN xs i).length = 43 * (xs.take i).length := allB_len (fun q hq => hG q (List.mem_of_mem_take hq))
    have htl : (xs.take i).length ≤ 2000 := by rw [List.length_take]; omega
    have hnl : (allN xs (i + 1)).length = (allN xs i).length + 43 := by rw [hnext, List.length_append, hrl]
    refine WL.y (Yl.index un22 sz33 rfl rfl (Reads.s hx) rfl (by omega)) rfl ?_ -- t14
    refine WL.y (Yl.loadV (j := i) (u := x) vtR hG rfl (Reads.s hx) rfl hx0) rfl ?_
    refine WL.callC (xs := [.tmp 15]) (cap := []) rfl rfl en11 (by repeat (first | exact TakeL.nil | (apply TakeL.cons; · repeat (first | exact Take1.head | apply Take1.tail)))) (fun w hw => rbytes_any x hxo w hw.left.here) rfl ?_ -- t16 hailer/hailerref11.Bytes
    rintro ⟨a16, c16⟩ -
    dsimp only
    refine WL.to (To.append sl23 rfl rfl (by repeat (first | exact Take1.head | apply Take1.tail)) (Reads.of (RdOf.own (v := .slice a16 43 c16)) (by repeat (first | exact Take1.head | apply Take1.tail))) (ints_one _ _) (show _ = (allN xs (i + 1)).length by rw [hnl]) (show _ = ints .u8 (allN xs (i + 1)) by rw [hnext]; simp [ints]) (by unfold maxLen; omega) (by omega)) rfl ?_ -- t17
    rintro ⟨⟨ao17, c17⟩, hc17⟩
    dsimp only at hc17 ⊢
    refine WL.y (Yl.assign rfl) rfl ?_ -- t3
    refine WL.nil ?_
    refine WC.region ?_
    refine WL.y (Yl.move rfl) rfl ?_ -- t9
    refine WL.y (Yl.add rfl rfl (IntWalk.i64_in _ (by omega))) rfl ?_ -- t10
    refine WL.y (Yl.assign rfl) rfl ?_ -- t4
    refine WL.nil ?_
    exact ⟨rfl, (i + 1, ao17, c17), by dsimp only; omega, by dsimp only; omega, (by repeat (first | exact Sub.nil | refine Sub.cons rfl ?_)), _, (by repeat (first | exact TakeL.nil | (apply TakeL.cons; · repeat (first | exact Take1.head | apply Take1.tail))))⟩
  · refine WC.exit ?_
    refine WC.seq ?_
    have hil : i = xs.length := by omega
    subst hil
    rw [show allN xs xs.length = allB xs by unfold allN; rw [List.take_length]]
    have hse : (rsumF 32 4 64 4294967296 (allB xs)).take 8 = digF xs := by rw [← sum256_eq (allB_bytes hG) (by omega)]; rfl
    refine WC.region ?_
    refine WL.y (Yl.move rfl) rfl ?_ -- t18
    refine WL.callC (xs := [.tmp 18, _]) (cap := []) rfl rfl en27 (by repeat (first | exact TakeL.nil | (apply TakeL.cons; · repeat (first | exact Take1.head | apply Take1.tail)))) (fun w hw => Fn.also (Ψ := fun y : Option Addr × Nat => 32 ≤ y.2) (rsum32_any (allB xs) (.slice ao (allB xs).length ca) (by omega) w (hw.src (A := []) RdOf.own (by repeat (first | exact Take1.head | apply Take1.tail))) hw.left.here) (fun y w' h => own_cap h)) rfl ?_ -- t19 hailer/hailerref01.Sum
    rintro ⟨a19, c19⟩ ⟨-, hc19⟩
    dsimp only at hc19 ⊢
    refine WL.y (Yl.slice (l := 0) (h := 8) un23 sz5 rfl rfl ⟨_, rfl⟩ (by omega) (by omega)) rfl ?_
    refine WL.y (Yl.assign rfl) rfl ?_ -- t2
    refine WL.nil ?_
    refine WC.ret ?_
    repeat (first | (with_reducible refine peelT ?_) | (with_reducible refine peelB ?_) | (with_reducible refine peelTX ?_) | (with_reducible refine peelBX ?_) | (with_reducible refine peelBN ?_) | (with_reducible refine peelBO rfl ?_))
    exact ret1 (.inr rfl) Tryz.results9 rfl fun w' h => ⟨(a19, c19), trivial, rfl, OK.sub (OK.readOnly (h.subG .head (l := 0) (hh := 8) (m := c19) (by omega) (by omega) (by omega) (by omega) (cs' := ints .u8 (digF xs)) (by rw [← hse, Nat.zero_mul, List.drop_zero, ints_take])) .head) (by repeat (first | exact TakeL.nil | (apply TakeL.cons; · repeat (first | exact Take1.head | apply Take1.tail))))⟩
theorem bucketR_any (v : Value) (xs : List Rc) (n : Int) (hG : ROk xs) (hl : xs.length ≤ 100000) (w : World) (hx : RdS w (fpL []) v 22 xs.length (vcs rcV xs)) (hw : OK w (fpL []) [] w) :
    Fn Tryz.prog 10 [v, .int .i64 n] [] w (fun _ : Option Addr × Nat => True) (fun y => .slice y.1 (buF xs n).length y.2) (fun y => [ownR (.slice y.1 (buF xs n).length y.2) 33 22 (buF xs n).length (vcs rcV (buF xs n))]) := by
  obtain ⟨al, cl, rfl, hcl, hml⟩ := hx.rd.form
  refine enterF Tryz.func10 rfl Tryz.ntmps10 rfl hw ?_
  refine WC.seq ?_
  refine WC.region ?_
  refine WL.y (Yl.assign rfl) rfl ?_ -- t4
  refine WL.nil ?_
  refine WC.seq ?_
  refine WC.region ?_
  refine WL.y (Yl.assign rfl) rfl ?_ -- t5
  refine WL.nil ?_
  refine WC.seq ?_
  refine WC.seq ?_
  refine WC.region ?_
  refine WL.y (Yl.assign rfl) rfl ?_ -- t6
  refine WL.nil ?_
  refine WC.block ?_
  refine WC.view (fun w h => h.addNil 33 22) ?_
  refine WC.loop (α := Nat × (Option Addr × Nat)) (fun p => [(0, .slice al xs.length cl), (1, .int .i64 n), (5, .slice p.2.1 (buF (xs.take p.1) n).length p.2.2), (6, .int .i64 (p.1 : Int))]) (fun p => [ownR (.slice p.2.1 (buF (xs.take p.1) n).length p.2.2) 33 22 (buF (xs.take p.1) n).length (vcs rcV (buF (xs.take p.1) n))]) (fun p => p.1 ≤ xs.length) (fun p => xs.length - p.1) (0, none, 0) (Nat.zero_le _) ⟨(by repeat (first | exact Sub.nil | refine Sub.cons rfl ?_)), _, (by repeat (first | exact TakeL.nil | (apply TakeL.cons; · repeat (first | exact Take1.head | apply Take1.tail))))⟩ ?_
  rintro ⟨i, ao, ca⟩ hi
  dsimp only at hi ⊢
  refine WC.seq ?_
  refine WC.seq ?_
  refine WC.region ?_
  refine WL.y (Yl.move rfl) rfl ?_ -- t7
  refine WL.y (Yl.move rfl) rfl ?_ -- t8
  refine WL.y (Yl.len un22 rfl) rfl ?_ -- t9
  refine WL.y (Yl.lss rfl rfl) rfl ?_ -- t10
  refine WL.nil ?_
  refine WC.condD rfl (fun g10 => ?_) (fun g10 => ?_)
  · refine WC.skip ?_
    refine WC.seq ?_
    refine WC.block ?_
    refine WC.seq ?_
    refine WC.region ?_
    refine WL.y (Yl.move rfl) rfl ?_ -- t13
    refine WL.y (Yl.move rfl) rfl ?_ -- t14
    have hil : i < xs.length := by omega
    obtain ⟨x, hx0⟩ : ∃ x, xs[i]? = some x := ⟨_, List.getElem?_eq_getElem hil⟩
    have hxo := hG.get hx0
    have h22 := Rc.cells_len hxo.len
    obtain ⟨hb0, hb1, hb2⟩ := buI_is hxo
    have hnext : buF (xs.take (i + 1)) n = buF (xs.take i) n ++ (if decide (buI x = n) then [x] else []) := filter_take (p := fun r => decide (buI r = n)) hx0
    have hbl : (buF (xs.take i) n).length ≤ 100000 := Nat.le_trans (buF_len _ _) (by rw [List.length_take]; omega)
    have hbl2 : (buF (xs.take i) n ++ [x]).length = (buF (xs.take i) n).length + 1 := by rw [List.length_append]; rfl
    refine WL.y (Yl.index un22 sz33 rfl rfl (Reads.s hx) rfl (by omega)) rfl ?_ -- t15
    refine WL.y (Yl.fieldV (v := .slice al xs.length cl) (k := i * 22) fo33_0 rfl (Reads.s hx) (by rw [rc_len hG]; omega)) rfl ?_
    refine WL.y (Yl.indexO (v := .slice al xs.length cl) (k := i * 22 + 0) (j := 0) un30 sz5 rfl (Reads.s hx) (by rw [rc_len hG]; omega) rfl rfl (by omega)) rfl ?_
    refine WL.y (Yl.loadO (v := .slice al xs.length cl) (k := i * 22 + 0 + 0 * 1) on5 rfl (Reads.s hx) (b0_at hG hx0)) rfl ?_
    refine WL.y (Yl.conv un5 un3 rfl (IntWalk.i64_in _ (by omega))) rfl ?_ -- t19
    refine WL.y (Yl.rem rfl rfl (by omega) (i64_rem (by omega))) rfl ?_ -- t20
    refine WL.y (Yl.move rfl) rfl ?_ -- t21
    refine WL.y (Yl.eql rfl rfl) rfl ?_ -- t22
    refine WL.nil ?_
    refine WC.condD rfl (fun g22 => ?_) (fun g22 => ?_)
    · refine WC.region ?_
      refine WL.y (Yl.move rfl) rfl ?_ -- t23
      refine WL.y (Yl.move rfl) rfl ?_ -- t24
      refine WL.y (Yl.move rfl) rfl ?_ -- t25
      refine WL.y (Yl.index un22 sz33 rfl rfl (Reads.s hx) rfl (by omega)) rfl ?_ -- t26
      refine WL.y (Yl.loadV (j := i) (u := x) vtR hG rfl (Reads.s hx) rfl hx0) rfl ?_
      refine WL.to (To.buildSlice (vs := [.agg x.cells.toArray]) un22 zs33 rfl rfl (by simp [Value.cells, h22]) (by decide) (by decide)) rfl ?_ -- t28
      intro b28
      rw [flat1]
      refine WL.to (To.append sl22 rfl rfl (by repeat (first | exact Take1.head | apply Take1.tail)) (Reads.of (rdRc hxo) (by repeat (first | exact Take1.head | apply Take1.tail))) (Rc.ones _) (show _ = (buF (xs.take i) n ++ [x]).length by rw [hbl2]) (show _ = vcs rcV (buF (xs.take i) n ++ [x]) by rw [vcs_app, vcs_one]; rfl) (by unfold maxLen; omega) (by omega)) rfl ?_ -- t29
      rintro ⟨⟨ao29, c29⟩, hc29⟩
      dsimp only at hc29 ⊢
      refine WL.y (Yl.assign rfl) rfl ?_ -- t5
      refine WL.nil ?_
      refine WC.region ?_
      refine WL.y (Yl.move rfl) rfl ?_ -- t11
      refine WL.y (Yl.add rfl rfl (IntWalk.i64_in _ (by omega))) rfl ?_ -- t12
      refine WL.y (Yl.assign rfl) rfl ?_ -- t6
      refine WL.nil ?_
      have hb : buI x = n := g22
      rw [if_pos (decide_eq_true hb)] at hnext
      exact ⟨rfl, (i + 1, ao29, c29), by dsimp only; omega, by dsimp only; omega, by dsimp only; rw [hnext]; exact (by repeat (first | exact Sub.nil | refine Sub.cons rfl ?_)), _, by dsimp only; rw [hnext]; exact (by repeat (first | exact TakeL.nil | (apply TakeL.cons; · repeat (first | exact Take1.head | apply Take1.tail))))⟩
    · refine WC.skip ?_
      refine WC.region ?_
      refine WL.y (Yl.move rfl) rfl ?_ -- t11
      refine WL.y (Yl.add rfl rfl (IntWalk.i64_in _ (by omega))) rfl ?_ -- t12
      refine WL.y (Yl.assign rfl) rfl ?_ -- t6
      refine WL.nil ?_
      have hb : ¬ buI x = n := g22
      rw [if_neg (by simpa using hb), List.append_nil] at hnext
      exact ⟨rfl, (i + 1, ao, ca), by dsimp only; omega, by dsimp only; omega, by dsimp only; rw [hnext]; exact (by repeat (first | exact Sub.nil | refine Sub.cons rfl ?_)), _, by dsimp only; rw [hnext]; exact (by repeat (first | exact TakeL.nil | (apply TakeL.cons; · repeat (first | exact Take1.head | apply Take1.tail))))⟩
  · refine WC.exit ?_
    refine WC.seq ?_
    refine WC.region ?_
    refine WL.y (Yl.move rfl) rfl ?_ -- t30
    refine WL.y (Yl.assign rfl) rfl ?_ -- t4
    refine WL.nil ?_
    refine WC.ret ?_
    repeat (first | (with_reducible refine peelT ?_) | (with_reducible refine peelB ?_) | (with_reducible refine peelTX ?_) | (with_reducible refine peelBX ?_) | (with_reducible refine peelBN ?_) | (with_reducible refine peelBO rfl ?_))
    have hil : i = xs.length := by omega
    subst hil
    rw [List.take_length]
    exact ret1 (.inr rfl) Tryz.results10 rfl fun w' h => ⟨(ao, ca), trivial, rfl, h.sub (by repeat (first | exact TakeL.nil | (apply TakeL.cons; · repeat (first | exact Take1.head | apply Take1.tail))))⟩
end Go.Proofs.YtmcdbjbkkejbbaaGreat
