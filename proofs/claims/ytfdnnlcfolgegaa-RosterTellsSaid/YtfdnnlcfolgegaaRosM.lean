/- Rosters: the digest: the walk. -/
import Derived.Test.YtfdnnlcfolgegaaRosJ
import Derived.Test.YtfdnnlcfolgegaaWireC
import Derived.Test.YtfdnnlcfolgegaaShaH
namespace Go.Proofs.Ytfdnnlcfolgegaa
open Go Go.RowKit

theorem oneV {w : World} {T : Pm} {v : Value} {c : List Int} (h : RdS w T v 1 c.length (ints .u8 c)) : ∀ (i : Nat) (v' : Value) (c' : List Int), [v][i]? = some v' → [c][i]? = some c' → RdS w T v' 1 c'.length (ints .u8 c') := by
  intro i v' c' h1 h2
  cases i with
  | zero =>
    simp at h1 h2
    subst h1 h2
    exact h
  | succ i => simp at h1
theorem mnyOk {lim : Int} {bs : List Int} {most : Int} {n : Nat} (h1 : (n : Int) ≤ most) (h2 : (n : Int) < 65536) (h : (bs.length : Int) + 2 ≤ lim) : mny lim (bs, false) most n = (bs ++ be n 2, false) := by
  unfold mny
  have e : decide ((if (65535 : Int) < most then 65535 else most) < (n : Int)) = false := by
    simp only [decide_eq_false_iff_not]; split <;> omega
  rw [e, Bool.or_false, IntWalk.u16_in _ (by omega)]
  exact pt_ok (by rw [be_len]; omega)
def dvB (ms : List Dv) : List Int := (ms.map fun d => [d.a, d.d]).flatten
theorem dvB_len (ms : List Dv) : (dvB ms).length = 2 * ms.length := by
  unfold dvB
  induction ms with
  | nil => rfl
  | cons d ms ih => rw [List.map_cons, List.flatten_cons, List.length_append, ih, List.length_cons]; simp; omega
theorem dvB_snoc {ms : List Dv} {d : Dv} : dvB (ms ++ [d]) = dvB ms ++ [d.a, d.d] := by simp [dvB]
theorem ptOne_any (b : Nat) (x : Option Addr × Nat) (lim : Int) (bs : List Int) (d : Dv) (hlo : -9223372036854775808 ≤ lim ∧ lim ≤ 9223372036854775807) (hsz : (bs.length : Int) + 2 ≤ lim) (hs2 : bs.length + 2 ≤ 140737488355328) (w : World)
    (hw : OK w (fpL (oR b x lim bs false)) (oR b x lim bs false) w) :
    Fn Try.prog 46 [.pointer (some ⟨b, 0, none⟩), d.val] (oR b x lim bs false) w (fun _ : Option Addr × Nat => True) (fun _ => .tuple #[]) (fun y => oR b y lim (bs ++ [d.a, d.d]) false) := by
  refine enterF Try.func46 rfl Try.ntmps46 rfl hw ?_
  refine WC.seq ?_
  refine WC.region ?_
  refine WL.to (To.box (cs := d.cells) rfl rfl) rfl ?_ -- t3
  intro b3
  refine WL.nil ?_
  refine WC.region ?_
  refine WL.y (Yl.move rfl) rfl ?_ -- t4
  refine WL.y (Yl.field fo31_0 rfl) rfl ?_ -- t5
  refine WL.y (Yl.load on5 rfl (by repeat (first | exact Take1.head | apply Take1.tail)) (by rfl)) rfl ?_ -- t6
  refine WL.y (Yl.field fo31_1 rfl) rfl ?_ -- t7
  refine WL.y (Yl.load on5 rfl (by repeat (first | exact Take1.head | apply Take1.tail)) (by rfl)) rfl ?_ -- t8
  refine WL.to (To.buildSlice (vs := [.int .u8 d.a, .int .u8 d.d]) un53 zs5 rfl rfl (by simp [Value.cells]) (by decide) (by decide)) rfl ?_ -- t9
  intro b9
  refine WL.callC (xs := [.tmp 4, .tmp 9]) (cap := []) rfl rfl en47 (by repeat (first | exact TakeL.nil | (apply TakeL.cons; · repeat (first | exact Take1.head | apply Take1.tail)))) (fun w hw => outU8_any b x lim bs false [d.a, d.d] (.slice (some ⟨b9, 0, none⟩) 2 2) hlo (.inr (by dsimp only; omega)) (by simp; omega) w (hw.src (RdOf.blk (cs := [.int .u8 d.a, .int .u8 d.d]) (Nat.le_refl _) (by unfold maxLen; omega) (by simp) rfl) (by repeat (first | exact Take1.head | apply Take1.tail))) hw.left.here) rfl ?_ -- t10 (*hailer/wire.Out).U8
  intro y10 _
  rw [pt_ok (by simp; omega)]
  refine WL.nil ?_
  repeat (first | (with_reducible refine peelT ?_) | (with_reducible refine peelB ?_) | (with_reducible refine peelTX ?_) | (with_reducible refine peelBX ?_) | (with_reducible refine peelBN ?_) | (with_reducible refine peelBO rfl ?_))
  exact ret0 (.inl rfl) Try.results46 fun w' h => ⟨y10, trivial, rfl, h.sub (by repeat (first | exact TakeL.nil | (apply TakeL.cons; · repeat (first | exact Take1.head | apply Take1.tail))))⟩
theorem plist_any (b : Nat) (x : Option Addr × Nat) (lim : Int) (bs : List Int) (ms : List Dv) (lv : Value) (hlo : -9223372036854775808 ≤ lim ∧ lim ≤ 9223372036854775807) (hsz : (bs.length : Int) + 2 + 2 * ms.length ≤ lim) (hs2 : bs.length + 2 + 2 * ms.length ≤ 140737488355328) (hm : ms.length ≤ 65535) (w : World)
    (hx : RdS w (fpL (oR b x lim bs false)) lv 2 ms.length (vcs Dv.val ms)) (hw : OK w (fpL (oR b x lim bs false)) (oR b x lim bs false) w) :
    Fn Try.prog 45 [.pointer (some ⟨b, 0, none⟩), .int .i64 65535, lv, .func (.func 46) #[] #[]] (oR b x lim bs false) w (fun _ : Option Addr × Nat => True) (fun _ => .tuple #[]) (fun y => oR b y lim (bs ++ be ms.length 2 ++ dvB ms) false) := by
  obtain ⟨al, cl, rfl, hcl, hml⟩ := hx.rd.form
  refine enterF Try.func45 rfl Try.ntmps45 rfl hw ?_
  refine WC.seq ?_
  refine WC.seq ?_
  refine WC.region ?_
  refine WL.y (Yl.move rfl) rfl ?_ -- t10
  refine WL.y (Yl.nilNe un76 rfl rfl) rfl ?_ -- t11
  refine WL.nil ?_
  refine WC.condT rfl (by first | rfl | (simp; done) | (simp; omega)) ?_
  refine WC.region ?_
  refine WL.y (Yl.move rfl) rfl ?_ -- t12
  refine WL.y (Yl.move rfl) rfl ?_ -- t13
  refine WL.y (Yl.nilCheck rfl) rfl ?_ -- t14
  refine WL.y (Yl.field fo95_2 rfl) rfl ?_ -- t15
  refine WL.y (Yl.load on4 rfl (by repeat (first | exact Take1.head | apply Take1.tail)) (by rfl)) rfl ?_ -- t16
  refine WL.know (t := 16) (b' := false) rfl (by first | rfl | (simp; done) | (simp; omega)) ?_
  refine WL.y (Yl.move rfl) rfl ?_ -- t17
  refine WL.on rfl rfl ?_
  refine WL.y (Yl.move rfl) rfl ?_ -- t18
  refine WL.on rfl rfl ?_
  refine WL.y (Yl.eqlG rfl rfl (b := false) (fun w => by kernel_rfl)) rfl ?_
  refine WL.know (t := 19) (b' := false) rfl (by first | rfl | (simp; done) | (simp; omega)) ?_
  refine WL.y (Yl.pickF rfl rfl) rfl ?_ -- t20
  refine WL.y (Yl.move rfl) rfl ?_ -- t21
  refine WL.on rfl rfl ?_
  refine WL.y (Yl.move rfl) rfl ?_ -- t22
  refine WL.on rfl rfl ?_
  refine WL.y (Yl.lss rfl rfl) rfl ?_ -- t23
  refine WL.know (t := 23) (b' := false) rfl (by first | rfl | (simp; done) | (simp; omega)) ?_
  refine WL.y (Yl.pickF rfl rfl) rfl ?_ -- t24
  refine WL.y (Yl.nilCheck rfl) rfl ?_ -- t25
  refine WL.y (Yl.field fo95_2 rfl) rfl ?_ -- t26
  refine WL.sto (Sto.one sz4 rfl rfl (by repeat (first | exact Take1.head | apply Take1.tail)) rfl (by rfl) (by rfl)) (fun _ h => nomatch h) ?_ -- st 1
  refine WL.nil ?_
  refine WC.seq ?_
  refine WC.seq ?_
  refine WC.region ?_
  refine WL.y (Yl.move rfl) rfl ?_ -- t27
  refine WL.y (Yl.move rfl) rfl ?_ -- t28
  refine WL.y (Yl.move rfl) rfl ?_ -- t29
  refine WL.y (Yl.len un25 rfl) rfl ?_ -- t30
  refine WL.callC (xs := [.tmp 27, .tmp 28, .tmp 30]) (cap := []) rfl rfl en62 (by repeat (first | exact TakeL.nil | (apply TakeL.cons; · repeat (first | exact Take1.head | apply Take1.tail)))) (fun w hw => outMany_any b x lim bs false 65535 ms.length hlo (.inr (by dsimp only; omega)) (by omega) w hw.left.here) rfl ?_ -- t31 (*hailer/wire.Out).many
  intro y31 _
  rw [mnyOk (by omega) (by omega) (by omega)]
  dsimp only
  refine WL.know (t := 31) (b' := true) rfl (by first | rfl | (simp; done) | (simp; omega)) ?_
  refine WL.y (Yl.not rfl) rfl ?_ -- t32
  refine WL.nil ?_
  refine WC.condF rfl (by first | rfl | (simp; done) | (simp; omega)) ?_
  refine WC.skip ?_
  refine WC.seq ?_
  refine WC.region ?_
  refine WL.y (Yl.move rfl) rfl ?_ -- t33
  refine WL.y (Yl.len un25 rfl) rfl ?_ -- t34
  refine WL.y (Yl.move rfl) rfl ?_ -- t35
  refine WL.nil ?_
  refine WC.block ?_
  refine WC.loop (α := Nat × (Option Addr × Nat)) (fun p => [(0, .pointer (some ⟨b, 0, none⟩)), (3, .func (.func 46) #[] #[]), (33, .slice al ms.length cl), (34, .int .i64 (ms.length : Int)), (35, .int .i64 (p.1 : Int))]) (fun p => oR b p.2 lim (bs ++ be ms.length 2 ++ dvB (ms.take p.1)) false) (fun p => p.1 ≤ ms.length) (fun p => ms.length - p.1) (0, y31) (Nat.zero_le _) ⟨(by repeat (first | exact Sub.nil | refine Sub.cons rfl ?_)), _, (by rw [show bs ++ be ms.length 2 ++ dvB (ms.take (0, y31).1) = bs ++ be ms.length 2 by simp [dvB]]; exact (by repeat (first | exact TakeL.nil | (apply TakeL.cons; · repeat (first | exact Take1.head | apply Take1.tail)))))⟩ ?_
  rintro ⟨j, y⟩ hj
  dsimp only at hj ⊢
  refine WC.seq ?_
  refine WC.region ?_
  refine WL.y (Yl.lss rfl rfl) rfl ?_ -- t36
  refine WL.nil ?_
  refine WC.seq ?_
  refine WC.condD rfl (fun g36 => ?_) (fun g36 => ?_)
  · refine WC.skip ?_
    refine WC.seq ?_
    refine WC.block ?_
    refine WC.seq ?_
    refine WC.region ?_
    obtain ⟨d, hdd⟩ : ∃ d, ms[j]? = some d := ⟨_, List.getElem?_eq_getElem (by omega)⟩
    have hl1 : (bs ++ be ms.length 2 ++ dvB (ms.take j)).length = bs.length + 2 + 2 * j := by rw [List.length_append, List.length_append, be_len, dvB_len, List.length_take, Nat.min_eq_left hj]
    refine WL.y (Yl.index un25 sz31 rfl rfl (Reads.s hx) rfl (by omega)) rfl ?_ -- t37
    refine WL.y (Yl.loadV (j := j) (u := d) dvV dvAll rfl (Reads.s hx) rfl hdd) rfl ?_
    refine WL.to (To.alloc (cs := d0.cells) zr31 rfl) rfl ?_ -- t9
    intro b9
    refine WL.sto (Sto.agg sz31 rfl rfl (by repeat (first | exact Take1.head | apply Take1.tail)) (Dv.ones d) rfl (by rfl) (show _ = d.cells from rfl)) (fun _ h => nomatch h) ?_ -- st 2
    refine WL.nil ?_
    refine WC.region ?_
    refine WL.y (Yl.move rfl) rfl ?_ -- t39
    refine WL.y (Yl.move rfl) rfl ?_ -- t40
    refine WL.y (Yl.loadN ag31 rfl (by repeat (first | exact Take1.head | apply Take1.tail)) (by rfl) (by rfl)) rfl ?_ -- t41
    refine WL.callC (f := .tmp 39) (xs := [.tmp 40, .tmp 41]) (cap := []) rfl rfl en46 (by repeat (first | exact TakeL.nil | (apply TakeL.cons; · repeat (first | exact Take1.head | apply Take1.tail)))) (fun w hw => ptOne_any b y lim (bs ++ be ms.length 2 ++ dvB (ms.take j)) d hlo (by rw [hl1]; omega) (by rw [hl1]; omega) w hw.left.here) rfl ?_ -- t42
    intro y2 _
    rw [List.append_assoc _ (dvB _), ← dvB_snoc, take_snoc _ _ _ hdd]
    refine WL.nil ?_
    refine WC.region ?_
    refine WL.y (Yl.add rfl rfl (IntWalk.i64_in _ (by omega))) rfl ?_ -- t43
    refine WL.y (Yl.move rfl) rfl ?_ -- t35
    refine WL.nil ?_
    exact ⟨rfl, (j + 1, y2), by dsimp only; omega, by dsimp only; omega, (by repeat (first | exact Sub.nil | refine Sub.cons rfl ?_)), _, (by repeat (first | exact TakeL.nil | (apply TakeL.cons; · repeat (first | exact Take1.head | apply Take1.tail))))⟩
  · refine WC.exit ?_
    repeat (first | (with_reducible refine peelT ?_) | (with_reducible refine peelB ?_) | (with_reducible refine peelTX ?_) | (with_reducible refine peelBX ?_) | (with_reducible refine peelBN ?_) | (with_reducible refine peelBO rfl ?_))
    have hj2 : j = ms.length := by omega
    exact ret0 (.inl rfl) Try.results45 fun w' h => ⟨y, trivial, rfl, by rw [hj2, List.take_length] at h; exact h.sub (by repeat (first | exact TakeL.nil | (apply TakeL.cons; · repeat (first | exact Take1.head | apply Take1.tail))))⟩
/-- The bytes that are summed up. -/
def digB (r : Rs) (ms : List Dv) : List Int := r.g ++ be r.e 8 ++ be ms.length 2 ++ dvB ms
def digF (r : Rs) (ms : List Dv) : List Int := sum256 (digB r ms)
theorem digB_len {r : Rs} {ms : List Dv} (hg : r.g.length = 16) : (digB r ms).length = 26 + 2 * ms.length := by unfold digB; simp [be_len, dvB_len, hg]; omega
set_option maxRecDepth 100000 in
theorem digest_any (r : Rs) (ms : List Dv) (hr : r.ok) (hl : ms.length ≤ 1000) (w : World) (hx : RdS w (fpL []) r.v 2 ms.length (vcs Dv.val ms)) (hw : OK w (fpL []) [] w) :
    Fn Try.prog 15 [.agg r.cells.toArray] [] w (fun _ : Unit => True) (fun _ => .agg (ints .u8 (digF r ms)).toArray) (fun _ => []) := by
  have hg := hr.len
  have a16 := Rs.at16 hg
  have a17 := Rs.at17 hg
  have hlo : -9223372036854775808 ≤ (1048576 : Int) ∧ (1048576 : Int) ≤ 9223372036854775807 := by omega
  have l1 : (r.g ++ be r.e 8).length = 24 := by simp [be_len, hg]
  have hdl := digB_len (r := r) (ms := ms) hg
  have h32 : (ints .u8 (digF r ms)).length = 32 := by rw [ints_length]; unfold digF; rw [sum256_len]
  refine enterF Try.func15 rfl Try.ntmps15 rfl hw ?_
  refine WC.seq ?_
  refine WC.region ?_
  refine WL.to (To.box (cs := r.cells) rfl rfl) rfl ?_ -- t1
  intro b1
  refine WL.to (To.alloc (cs := List.replicate 32 (.int .u8 0)) zr46 rfl) rfl ?_ -- t2
  intro b2
  refine WL.nil ?_
  refine WC.seq ?_
  refine WC.region ?_
  refine WL.callC (xs := [_]) (cap := []) rfl rfl en42 (by repeat (first | exact TakeL.nil | (apply TakeL.cons; · repeat (first | exact Take1.head | apply Take1.tail)))) (fun w hw => newOut_any 1048576 w hw.left.here) rfl ?_ -- t6 hailer/wire.NewOut
  intro b6 _
  refine WL.y (Yl.assign rfl) rfl ?_ -- t3
  refine WL.nil ?_
  refine WC.seq ?_
  refine WC.region ?_
  refine WL.y (Yl.move rfl) rfl ?_ -- t7
  refine WL.y (Yl.field fo27_0 rfl) rfl ?_ -- t8
  refine WL.y (Yl.sliceArr un23 sz5 (by decide) rfl) rfl ?_ -- t9
  refine WL.to (To.buildSlice (vs := [.slice (some ⟨b1, 0 + 0, none⟩) 16 16]) un96 zs53 rfl rfl (by simp [Value.cells]) (by decide) (by decide)) rfl ?_ -- t10
  intro b10
  refine WL.callC (xs := [.tmp 7, .tmp 10]) (cap := []) rfl rfl en43 (by repeat (first | exact TakeL.nil | (apply TakeL.cons; · repeat (first | exact Take1.head | apply Take1.tail)))) (fun w hw => outFixed_any b6 (none, 0) 1048576 [] false [r.g] [.slice (some ⟨b1, 0 + 0, none⟩) 16 16] (.slice (some ⟨b10, 0, none⟩) 1 1) rfl hlo (.inl rfl) (by simp [total, hg]) w (hw.src (RdOf.blk (cs := [.slice (some ⟨b1, 0 + 0, none⟩) 16 16]) (Nat.le_refl _) (by unfold maxLen; omega) (by simp) rfl) (by repeat (first | exact Take1.head | apply Take1.tail))) (oneV (by rw [hg]; exact hw.src (RdOf.blk (cs := r.cells) (Nat.le_refl _) (by unfold maxLen; omega) (by rw [Rs.len18 hg]; omega) (Rs.grp hg)) (by repeat (first | exact Take1.head | apply Take1.tail)))) hw.left.here) rfl ?_ -- t11 (*hailer/wire.Out).Fixed
  intro y11 _
  rw [show pts 1048576 ([], false) [r.g] = (r.g, false) from pt_ok (by simp [hg])]
  dsimp only
  refine WL.nil ?_
  refine WC.seq ?_
  refine WC.region ?_
  refine WL.y (Yl.move rfl) rfl ?_ -- t12
  refine WL.y (Yl.field fo27_1 rfl) rfl ?_ -- t13
  refine WL.y (Yl.load on24 rfl (by repeat (first | exact Take1.head | apply Take1.tail)) a16) rfl ?_ -- t14
  refine WL.to (To.buildSlice (vs := [.int .u64 r.e]) un97 zs24 rfl rfl (by simp [Value.cells]) (by decide) (by decide)) rfl ?_ -- t15
  intro b15
  refine WL.callC (xs := [.tmp 12, .tmp 15]) (cap := []) rfl rfl en44 (by repeat (first | exact TakeL.nil | (apply TakeL.cons; · repeat (first | exact Take1.head | apply Take1.tail)))) (fun w hw => outU64_any b6 y11 1048576 r.g false [r.e] (.slice (some ⟨b15, 0, none⟩) 1 1) hlo (.inr (by dsimp only; omega)) (by simp [total, b8, be_len, hg]) (by intro x hx; rw [List.mem_singleton.1 hx]; exact hr.e) w (hw.src (RdOf.blk (cs := [.int .u64 r.e]) (Nat.le_refl _) (by unfold maxLen; omega) (by simp) rfl) (by repeat (first | exact Take1.head | apply Take1.tail))) hw.left.here) rfl ?_ -- t16 (*hailer/wire.Out).U64
  intro y16 _
  rw [show pts 1048576 (r.g, false) (b8 [r.e]) = (r.g ++ be r.e 8, false) from pt_ok (by rw [be_len]; omega)]
  dsimp only
  refine WL.nil ?_
  refine WC.seq ?_
  refine WC.region ?_
  refine WL.y (Yl.move rfl) rfl ?_ -- t17
  refine WL.y (Yl.field fo27_2 rfl) rfl ?_ -- t18
  refine WL.y (Yl.load on25 rfl (by repeat (first | exact Take1.head | apply Take1.tail)) a17) rfl ?_ -- t19
  refine WL.callC (xs := [.tmp 17, _, .tmp 19, .func 46]) (cap := []) rfl rfl en45 (by repeat (first | exact TakeL.nil | (apply TakeL.cons; · repeat (first | exact Take1.head | apply Take1.tail)))) (fun w hw => plist_any b6 y16 1048576 (r.g ++ be r.e 8) ms r.v hlo (by rw [l1]; omega) (by rw [l1]; omega) (by omega) w (hw.srcS hx) hw.left.here) rfl ?_ -- t20 hailer/wire.PutList[hailer/api.Dev]
  intro y20 _
  rw [show r.g ++ be r.e 8 ++ be ms.length 2 ++ dvB ms = digB r ms from rfl]
  refine WL.nil ?_
  refine WC.seq ?_
  refine WC.region ?_
  refine WL.y (Yl.move rfl) rfl ?_ -- t22
  refine WL.callC (xs := [.tmp 22]) (cap := []) rfl rfl en48 (by repeat (first | exact TakeL.nil | (apply TakeL.cons; · repeat (first | exact Take1.head | apply Take1.tail)))) (fun w hw => outBytes_ok b6 y20 1048576 (digB r ms) (by omega) (by omega) w hw.left.here) rfl ?_ -- t23 (*hailer/wire.Out).Bytes
  intro y23 _
  refine WL.y (Yl.move rfl) rfl ?_ -- t21
  refine WL.y (Yl.extract rfl rfl) rfl ?_ -- t24
  refine WL.y (Yl.extract rfl rfl) rfl ?_ -- t25
  refine WL.y (Yl.assign rfl) rfl ?_ -- t4
  refine WL.y (Yl.assign rfl) rfl ?_ -- t5
  refine WL.nil ?_
  refine WC.seq ?_
  refine WC.region ?_
  refine WL.y (Yl.move rfl) rfl ?_ -- t26
  refine WL.to (To.buildSlice (vs := [.slice y23.1 (digB r ms).length y23.2]) un96 zs53 rfl rfl (by simp [Value.cells]) (by decide) (by decide)) rfl ?_ -- t27
  intro b27
  refine WL.callC (xs := [.tmp 27]) (cap := []) rfl rfl en49 (by repeat (first | exact TakeL.nil | (apply TakeL.cons; · repeat (first | exact Take1.head | apply Take1.tail)))) (fun w hw => sum256_any [digB r ms] [.slice y23.1 (digB r ms).length y23.2] (.slice (some ⟨b27, 0, none⟩) 1 1) rfl (by simp; omega) (by simp) w (hw.src (A := []) (RdOf.blk (size := 1) (cs := [.slice y23.1 (digB r ms).length y23.2]) (Nat.le_refl _) (by unfold maxLen; omega) (by simp) rfl) (by repeat (first | exact Take1.head | apply Take1.tail))) (oneV (hw.src (A := []) RdOf.own (by repeat (first | exact Take1.head | apply Take1.tail)))) hw.left.here) rfl ?_ -- t28 hailer/sha.Sum256
  rintro ⟨⟩ -
  rw [show sum256 [digB r ms].flatten = digF r ms by simp [digF]]
  refine WL.sto (Sto.agg sz46 rfl rfl (by repeat (first | exact Take1.head | apply Take1.tail)) (ints_one _ _) h32 (by rfl) (show (List.replicate 32 (Value.int .u8 0)).take 0 ++ ints .u8 (digF r ms) ++ (List.replicate 32 (Value.int .u8 0)).drop (0 + 32) = ints .u8 (digF r ms) by simp)) (fun _ h => nomatch h) ?_ -- st 1
  refine WL.nil ?_
  refine WC.ret ?_
  repeat (first | (with_reducible refine peelT ?_) | (with_reducible refine peelB ?_) | (with_reducible refine peelTX ?_) | (with_reducible refine peelBX ?_) | (with_reducible refine peelBN ?_) | (with_reducible refine peelBO rfl ?_))
  exact retC1 (cs := ints .u8 (digF r ms)) (.inr rfl) Try.results15 ag46 rfl (by repeat (first | exact Take1.head | apply Take1.tail)) h32 fun w' h => ⟨(), trivial, rfl, h.sub (by repeat (first | exact TakeL.nil | (apply TakeL.cons; · repeat (first | exact Take1.head | apply Take1.tail))))⟩
end Go.Proofs.Ytfdnnlcfolgegaa
