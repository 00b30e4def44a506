/- Signals: what a kind puts. -/
import Derived.Test.YtnmeoleahcnnkaaSignC
import Derived.Test.YtnmeoleahcnnkaaRecQ
import Derived.Test.YtnmeoleahcnnkaaLibN
namespace Go.Proofs.Ytnmeoleahcnnkaa
open Go Go.RowKit
set_option linter.unusedSectionVars false

def putOf (k : Int) : FuncId := if k = 1 then 31 else if k = 2 then 33 else if k = 3 then 35 else if k = 5 then 41 else 43
def takeOf (k : Int) : FuncId := if k = 1 then 32 else if k = 2 then 34 else if k = 3 then 38 else if k = 5 then 42 else 44
theorem enPut (k : Int) : ∀ args w, (callFunc (putOf k) args).run Try.prog w = .ok (.enter (putOf k) args) w := by
  unfold putOf; split
  · exact en31
  split
  · exact en33
  split
  · exact en35
  split
  · exact en41
  · exact en43
theorem enTake (k : Int) : ∀ args w, (callFunc (takeOf k) args).run Try.prog w = .ok (.enter (takeOf k) args) w := by
  unfold takeOf; split
  · exact en32
  split
  · exact en34
  split
  · exact en38
  split
  · exact en42
  · exact en44

theorem of_sign (k : Int) (w : World) (hw : OK w (fpL []) [] w) : Fn Try.prog 18 [.int .u8 k] [] w (fun _ : Unit => True) (fun _ => .agg #[.func (.func (putOf k)) #[] #[], .func (.func (takeOf k)) #[] #[]]) (fun _ => []) := by
  refine enterF Try.func18 rfl Try.ntmps18 rfl hw ?_
  refine WC.seq ?_
  refine WC.region ?_
  refine WL.to (To.alloc (cs := [.nilFunc, .nilFunc]) zr53 rfl) rfl ?_ -- t2
  intro b2
  refine WL.nil ?_
  refine WC.seq ?_
  refine WC.seq ?_
  refine WC.region ?_
  refine WL.y (Yl.move rfl) rfl ?_ -- t3
  refine WL.nil ?_
  refine WC.block ?_
  refine WC.seq ?_
  refine WC.region ?_
  refine WL.y (Yl.eql rfl rfl) rfl ?_ -- t5
  refine WL.y (Yl.assign rfl) rfl ?_ -- t4
  refine WL.nil ?_
  refine WC.condD rfl (fun g4 => ?_) (fun g4 => ?_)
  · refine WC.seq ?_
    refine WC.region ?_
    refine WL.y (Yl.build rfl (cs := [.func (.func 31) #[] #[], .func (.func 32) #[] #[]]) (fun _ => by kernel_rfl)) rfl ?_ -- t6
    refine WL.sto (Sto.agg sz53 rfl rfl (by repeat (first | exact Take1.head | apply Take1.tail)) (by intro v hv; simp at hv; rcases hv with rfl | rfl <;> rfl) rfl (by rfl) (by rfl)) (fun _ h => nomatch h) ?_ -- st 1
    refine WL.nil ?_
    refine WC.ret ?_
    repeat (first | (with_reducible refine peelT ?_) | (with_reducible refine peelB ?_) | (with_reducible refine peelTX ?_) | (with_reducible refine peelBX ?_) | (with_reducible refine peelBN ?_) | (with_reducible refine peelBO rfl ?_))
    exact retC1 (.inr rfl) Try.results18 ag53 rfl (by repeat (first | exact Take1.head | apply Take1.tail)) rfl fun w' h => ⟨(), trivial, by simp [putOf, takeOf, *], h.sub (by repeat (first | exact TakeL.nil | (apply TakeL.cons; · repeat (first | exact Take1.head | apply Take1.tail))))⟩
  · refine WC.seq ?_
    refine WC.region ?_
    refine WL.y (Yl.eql rfl rfl) rfl ?_ -- t8
    refine WL.y (Yl.assign rfl) rfl ?_ -- t7
    refine WL.nil ?_
    refine WC.condD rfl (fun g7 => ?_) (fun g7 => ?_)
    · refine WC.seq ?_
      refine WC.region ?_
      refine WL.y (Yl.build rfl (cs := [.func (.func 33) #[] #[], .func (.func 34) #[] #[]]) (fun _ => by kernel_rfl)) rfl ?_ -- t9
      refine WL.sto (Sto.agg sz53 rfl rfl (by repeat (first | exact Take1.head | apply Take1.tail)) (by intro v hv; simp at hv; rcases hv with rfl | rfl <;> rfl) rfl (by rfl) (by rfl)) (fun _ h => nomatch h) ?_ -- st 2
      refine WL.nil ?_
      refine WC.ret ?_
      repeat (first | (with_reducible refine peelT ?_) | (with_reducible refine peelB ?_) | (with_reducible refine peelTX ?_) | (with_reducible refine peelBX ?_) | (with_reducible refine peelBN ?_) | (with_reducible refine peelBO rfl ?_))
      exact retC1 (.inr rfl) Try.results18 ag53 rfl (by repeat (first | exact Take1.head | apply Take1.tail)) rfl fun w' h => ⟨(), trivial, by simp [putOf, takeOf, *], h.sub (by repeat (first | exact TakeL.nil | (apply TakeL.cons; · repeat (first | exact Take1.head | apply Take1.tail))))⟩
    · refine WC.seq ?_
      refine WC.region ?_
      refine WL.y (Yl.eql rfl rfl) rfl ?_ -- t11
      refine WL.y (Yl.assign rfl) rfl ?_ -- t10
      refine WL.nil ?_
      refine WC.condD rfl (fun g10 => ?_) (fun g10 => ?_)
      · refine WC.seq ?_
        refine WC.region ?_
        refine WL.y (Yl.build rfl (cs := [.func (.func 35) #[] #[], .func (.func 38) #[] #[]]) (fun _ => by kernel_rfl)) rfl ?_ -- t12
        refine WL.sto (Sto.agg sz53 rfl rfl (by repeat (first | exact Take1.head | apply Take1.tail)) (by intro v hv; simp at hv; rcases hv with rfl | rfl <;> rfl) rfl (by rfl) (by rfl)) (fun _ h => nomatch h) ?_ -- st 3
        refine WL.nil ?_
        refine WC.ret ?_
        repeat (first | (with_reducible refine peelT ?_) | (with_reducible refine peelB ?_) | (with_reducible refine peelTX ?_) | (with_reducible refine peelBX ?_) | (with_reducible refine peelBN ?_) | (with_reducible refine peelBO rfl ?_))
        exact retC1 (.inr rfl) Try.results18 ag53 rfl (by repeat (first | exact Take1.head | apply Take1.tail)) rfl fun w' h => ⟨(), trivial, by simp [putOf, takeOf, *], h.sub (by repeat (first | exact TakeL.nil | (apply TakeL.cons; · repeat (first | exact Take1.head | apply Take1.tail))))⟩
      · refine WC.seq ?_
        refine WC.region ?_
        refine WL.y (Yl.eql rfl rfl) rfl ?_ -- t14
        refine WL.y (Yl.assign rfl) rfl ?_ -- t13
        refine WL.nil ?_
        refine WC.condD rfl (fun g13 => ?_) (fun g13 => ?_)
        · refine WC.seq ?_
          refine WC.region ?_
          refine WL.y (Yl.build rfl (cs := [.func (.func 41) #[] #[], .func (.func 42) #[] #[]]) (fun _ => by kernel_rfl)) rfl ?_ -- t15
          refine WL.sto (Sto.agg sz53 rfl rfl (by repeat (first | exact Take1.head | apply Take1.tail)) (by intro v hv; simp at hv; rcases hv with rfl | rfl <;> rfl) rfl (by rfl) (by rfl)) (fun _ h => nomatch h) ?_ -- st 4
          refine WL.nil ?_
          refine WC.ret ?_
          repeat (first | (with_reducible refine peelT ?_) | (with_reducible refine peelB ?_) | (with_reducible refine peelTX ?_) | (with_reducible refine peelBX ?_) | (with_reducible refine peelBN ?_) | (with_reducible refine peelBO rfl ?_))
          exact retC1 (.inr rfl) Try.results18 ag53 rfl (by repeat (first | exact Take1.head | apply Take1.tail)) rfl fun w' h => ⟨(), trivial, by simp [putOf, takeOf, *], h.sub (by repeat (first | exact TakeL.nil | (apply TakeL.cons; · repeat (first | exact Take1.head | apply Take1.tail))))⟩
        · refine WC.skip ?_
          refine WC.seq ?_
          refine WC.region ?_
          refine WL.y (Yl.build rfl (cs := [.func (.func 43) #[] #[], .func (.func 44) #[] #[]]) (fun _ => by kernel_rfl)) rfl ?_ -- t16
          refine WL.sto (Sto.agg sz53 rfl rfl (by repeat (first | exact Take1.head | apply Take1.tail)) (by intro v hv; simp at hv; rcases hv with rfl | rfl <;> rfl) rfl (by rfl) (by rfl)) (fun _ h => nomatch h) ?_ -- st 5
          refine WL.nil ?_
          refine WC.ret ?_
          repeat (first | (with_reducible refine peelT ?_) | (with_reducible refine peelB ?_) | (with_reducible refine peelTX ?_) | (with_reducible refine peelBX ?_) | (with_reducible refine peelBN ?_) | (with_reducible refine peelBO rfl ?_))
          exact retC1 (.inr rfl) Try.results18 ag53 rfl (by repeat (first | exact Take1.head | apply Take1.tail)) rfl fun w' h => ⟨(), trivial, by simp [putOf, takeOf, *], h.sub (by repeat (first | exact TakeL.nil | (apply TakeL.cons; · repeat (first | exact Take1.head | apply Take1.tail))))⟩

/-- What a kind puts, in pieces. -/
def chk (s : Sg) : List (List Int) := if s.kind = 1 then [[s.ca, s.cd, s.ce], s.key] else if s.kind = 2 then [s.key] else if s.kind = 3 then [be s.n 4, be s.data.length 2, s.data] else if s.kind = 5 then [[s.rs]] else []
theorem mny_small {lim : Int} {st : List Int × Bool} {n : Nat} (h : n ≤ 1024) : mny lim st 1024 n = pt lim st (be n 2) := by
  unfold mny
  have e : decide ((if (65535 : Int) < 1024 then 65535 else 1024) < (n : Int)) = false := by simp; omega
  rw [e, Bool.or_false, IntWalk.u16_in _ (by omega)]

section
variable (s : Sg) (hs : s.ok) (hd : s.data.length ≤ 1024) (b : Nat) (x : Option Addr × Nat) (lim : Int) (bs : List Int) (wr : Bool) (hlo : -9223372036854775808 ≤ lim ∧ lim ≤ 9223372036854775807) (hf : Fit lim (bs, wr)) (hsz : bs.length + 2000 ≤ 140737488355328) (w : World)
  (xs : RdS w (fpL (oR b x lim bs wr)) (.slice s.da s.data.length s.dc) 1 s.data.length (ints .u8 s.data)) (hw : OK w (fpL (oR b x lim bs wr)) (oR b x lim bs wr) w)
include hs hlo hf hsz hw
theorem put1_any : Fn Try.prog 31 [.pointer (some ⟨b, 0, none⟩), .agg s.cells.toArray] (oR b x lim bs wr) w (fun _ : Option Addr × Nat => True) (fun _ => .tuple #[]) (fun y => oR b y lim (pts lim (bs, wr) [[s.ca, s.cd, s.ce], s.key]).1 (pts lim (bs, wr) [[s.ca, s.cd, s.ce], s.key]).2) := by
  have hpl := pt_len lim (bs, wr) [s.ca, s.cd, s.ce]
  have hk := hs.kl
  refine enterF Try.func31 rfl Try.ntmps31 rfl hw ?_
  refine WC.seq ?_
  refine WC.region ?_
  refine WL.to (To.box (cs := s.cells) rfl rfl) rfl ?_ -- t3
  intro b3
  refine WL.nil ?_
  refine WC.seq ?_
  refine WC.region ?_
  refine WL.y (Yl.move rfl) rfl ?_ -- t4
  refine WL.y (Yl.field fo34_2 rfl) rfl ?_ -- t5
  refine WL.y (Yl.field fo29_0 rfl) rfl ?_ -- t6
  refine WL.y (Yl.load on5 rfl (by repeat (first | exact Take1.head | apply Take1.tail)) (Sg.c17 hs)) rfl ?_ -- t7
  refine WL.y (Yl.field fo34_2 rfl) rfl ?_ -- t8
  refine WL.y (Yl.field fo29_1 rfl) rfl ?_ -- t9
  refine WL.y (Yl.load on5 rfl (by repeat (first | exact Take1.head | apply Take1.tail)) (Sg.c18 hs)) rfl ?_ -- t10
  refine WL.y (Yl.field fo34_3 rfl) rfl ?_ -- t11
  refine WL.y (Yl.load on5 rfl (by repeat (first | exact Take1.head | apply Take1.tail)) (Sg.c19 hs)) rfl ?_ -- t12
  refine WL.to (To.buildSlice (vs := [.int .u8 s.ca, .int .u8 s.cd, .int .u8 s.ce]) un22 zs5 rfl rfl (by simp [Value.cells]) (by decide) (by decide)) rfl ?_ -- t13
  intro b13
  refine WL.callC (xs := [.tmp 4, .tmp 13]) (cap := []) rfl rfl en16 (by repeat (first | exact TakeL.nil | (apply TakeL.cons; · repeat (first | exact Take1.head | apply Take1.tail)))) (fun w hw => outU8_any b x lim bs wr [s.ca, s.cd, s.ce] (.slice (some ⟨b13, 0, none⟩) 3 3) hlo hf (by simp; omega) w (hw.src (RdOf.blk (cs := [.int .u8 s.ca, .int .u8 s.cd, .int .u8 s.ce]) (Nat.le_refl _) (by unfold maxLen; omega) (by simp) rfl) (by repeat (first | exact Take1.head | apply Take1.tail))) hw.left.here) rfl ?_ -- t14 (*hailer/wire.Out).U8
  intro y14 _
  refine WL.nil ?_
  refine WC.region ?_
  refine WL.y (Yl.move rfl) rfl ?_ -- t15
  refine WL.y (Yl.field fo34_4 rfl) rfl ?_ -- t16
  refine WL.y (Yl.sliceArr un31 sz5 (by decide) rfl) rfl ?_ -- t17
  refine WL.to (To.buildSlice (vs := [.slice (some ⟨b3, 0 + 20, none⟩) 32 32]) un71 zs22 rfl rfl (by simp [Value.cells]) (by decide) (by decide)) rfl ?_ -- t18
  intro b18
  refine WL.callC (xs := [.tmp 15, .tmp 18]) (cap := []) rfl rfl en17 (by repeat (first | exact TakeL.nil | (apply TakeL.cons; · repeat (first | exact Take1.head | apply Take1.tail)))) (fun w hw => outFixed_any b y14 lim (pt lim (bs, wr) [s.ca, s.cd, s.ce]).1 (pt lim (bs, wr) [s.ca, s.cd, s.ce]).2 [s.key] [.slice (some ⟨b3, 0 + 20, none⟩) 32 32] (.slice (some ⟨b18, 0, none⟩) 1 1) rfl hlo (pt_fit hf _) (by simp [total, hk] at hpl ⊢; omega) w (hw.src (RdOf.blk (cs := [.slice (some ⟨b3, 0 + 20, none⟩) 32 32]) (Nat.le_refl _) (by unfold maxLen; omega) (by simp) rfl) (by repeat (first | exact Take1.head | apply Take1.tail))) (fixed1 (by rw [hk]; exact hw.src (RdOf.blk (cs := s.cells) (Nat.le_refl _) (by unfold maxLen; omega) (by rw [Sg.len hs]; omega) (Sg.ckey hs)) (by repeat (first | exact Take1.head | apply Take1.tail)))) hw.left.here) rfl ?_ -- t19 (*hailer/wire.Out).Fixed
  intro y19 _
  refine WL.nil ?_
  repeat (first | (with_reducible refine peelT ?_) | (with_reducible refine peelB ?_) | (with_reducible refine peelTX ?_) | (with_reducible refine peelBX ?_) | (with_reducible refine peelBN ?_) | (with_reducible refine peelBO rfl ?_))
  exact ret0 (.inl rfl) Try.results31 fun w' h => ⟨y19, trivial, rfl, h.sub (by repeat (first | exact TakeL.nil | (apply TakeL.cons; · repeat (first | exact Take1.head | apply Take1.tail))))⟩
theorem put2_any : Fn Try.prog 33 [.pointer (some ⟨b, 0, none⟩), .agg s.cells.toArray] (oR b x lim bs wr) w (fun _ : Option Addr × Nat => True) (fun _ => .tuple #[]) (fun y => oR b y lim (pts lim (bs, wr) [s.key]).1 (pts lim (bs, wr) [s.key]).2) := by
  have hk := hs.kl
  refine enterF Try.func33 rfl Try.ntmps33 rfl hw ?_
  refine WC.seq ?_
  refine WC.region ?_
  refine WL.to (To.box (cs := s.cells) rfl rfl) rfl ?_ -- t3
  intro b3
  refine WL.nil ?_
  refine WC.region ?_
  refine WL.y (Yl.move rfl) rfl ?_ -- t4
  refine WL.y (Yl.field fo34_4 rfl) rfl ?_ -- t5
  refine WL.y (Yl.sliceArr un31 sz5 (by decide) rfl) rfl ?_ -- t6
  refine WL.to (To.buildSlice (vs := [.slice (some ⟨b3, 0 + 20, none⟩) 32 32]) un71 zs22 rfl rfl (by simp [Value.cells]) (by decide) (by decide)) rfl ?_ -- t7
  intro b7
  refine WL.callC (xs := [.tmp 4, .tmp 7]) (cap := []) rfl rfl en17 (by repeat (first | exact TakeL.nil | (apply TakeL.cons; · repeat (first | exact Take1.head | apply Take1.tail)))) (fun w hw => outFixed_any b x lim bs wr [s.key] [.slice (some ⟨b3, 0 + 20, none⟩) 32 32] (.slice (some ⟨b7, 0, none⟩) 1 1) rfl hlo hf (by simp [total, hk]; omega) w (hw.src (RdOf.blk (cs := [.slice (some ⟨b3, 0 + 20, none⟩) 32 32]) (Nat.le_refl _) (by unfold maxLen; omega) (by simp) rfl) (by repeat (first | exact Take1.head | apply Take1.tail))) (fixed1 (by rw [hk]; exact hw.src (RdOf.blk (cs := s.cells) (Nat.le_refl _) (by unfold maxLen; omega) (by rw [Sg.len hs]; omega) (Sg.ckey hs)) (by repeat (first | exact Take1.head | apply Take1.tail)))) hw.left.here) rfl ?_ -- t8 (*hailer/wire.Out).Fixed
  intro y8 _
  refine WL.nil ?_
  repeat (first | (with_reducible refine peelT ?_) | (with_reducible refine peelB ?_) | (with_reducible refine peelTX ?_) | (with_reducible refine peelBX ?_) | (with_reducible refine peelBN ?_) | (with_reducible refine peelBO rfl ?_))
  exact ret0 (.inl rfl) Try.results33 fun w' h => ⟨y8, trivial, rfl, h.sub (by repeat (first | exact TakeL.nil | (apply TakeL.cons; · repeat (first | exact Take1.head | apply Take1.tail))))⟩
theorem put5_any : Fn Try.prog 41 [.pointer (some ⟨b, 0, none⟩), .agg s.cells.toArray] (oR b x lim bs wr) w (fun _ : Option Addr × Nat => True) (fun _ => .tuple #[]) (fun y => oR b y lim (pts lim (bs, wr) [[s.rs]]).1 (pts lim (bs, wr) [[s.rs]]).2) := by
  refine enterF Try.func41 rfl Try.ntmps41 rfl hw ?_
  refine WC.seq ?_
  refine WC.region ?_
  refine WL.to (To.box (cs := s.cells) rfl rfl) rfl ?_ -- t3
  intro b3
  refine WL.nil ?_
  refine WC.region ?_
  refine WL.y (Yl.move rfl) rfl ?_ -- t4
  refine WL.y (Yl.field fo34_7 rfl) rfl ?_ -- t5
  refine WL.y (Yl.load on5 rfl (by repeat (first | exact Take1.head | apply Take1.tail)) (Sg.c54 hs)) rfl ?_ -- t6
  refine WL.to (To.buildSlice (vs := [.int .u8 s.rs]) un22 zs5 rfl rfl (by simp [Value.cells]) (by decide) (by decide)) rfl ?_ -- t7
  intro b7
  refine WL.callC (xs := [.tmp 4, .tmp 7]) (cap := []) rfl rfl en16 (by repeat (first | exact TakeL.nil | (apply TakeL.cons; · repeat (first | exact Take1.head | apply Take1.tail)))) (fun w hw => outU8_any b x lim bs wr [s.rs] (.slice (some ⟨b7, 0, none⟩) 1 1) hlo hf (by simp; omega) w (hw.src (RdOf.blk (cs := [.int .u8 s.rs]) (Nat.le_refl _) (by unfold maxLen; omega) (by simp) rfl) (by repeat (first | exact Take1.head | apply Take1.tail))) hw.left.here) rfl ?_ -- t8 (*hailer/wire.Out).U8
  intro y8 _
  refine WL.nil ?_
  repeat (first | (with_reducible refine peelT ?_) | (with_reducible refine peelB ?_) | (with_reducible refine peelTX ?_) | (with_reducible refine peelBX ?_) | (with_reducible refine peelBN ?_) | (with_reducible refine peelBO rfl ?_))
  exact ret0 (.inl rfl) Try.results41 fun w' h => ⟨y8, trivial, rfl, h.sub (by repeat (first | exact TakeL.nil | (apply TakeL.cons; · repeat (first | exact Take1.head | apply Take1.tail))))⟩
theorem put0_any : Fn Try.prog 43 [.pointer (some ⟨b, 0, none⟩), .agg s.cells.toArray] (oR b x lim bs wr) w (fun _ : Option Addr × Nat => True) (fun _ => .tuple #[]) (fun y => oR b y lim (pts lim (bs, wr) []).1 (pts lim (bs, wr) []).2) := by
  refine enterF Try.func43 rfl Try.ntmps43 rfl hw ?_
  refine WC.region ?_
  refine WL.to (To.box (cs := s.cells) rfl rfl) rfl ?_ -- t3
  intro b3
  refine WL.nil ?_
  repeat (first | (with_reducible refine peelT ?_) | (with_reducible refine peelB ?_) | (with_reducible refine peelTX ?_) | (with_reducible refine peelBX ?_) | (with_reducible refine peelBN ?_) | (with_reducible refine peelBO rfl ?_))
  exact ret0 (.inl rfl) Try.results43 fun w' h => ⟨x, trivial, rfl, h.sub (by repeat (first | exact TakeL.nil | (apply TakeL.cons; · repeat (first | exact Take1.head | apply Take1.tail))))⟩
include hd xs
theorem put3_any : Fn Try.prog 35 [.pointer (some ⟨b, 0, none⟩), .agg s.cells.toArray] (oR b x lim bs wr) w (fun _ : Option Addr × Nat => True) (fun _ => .tuple #[]) (fun y => oR b y lim (pts lim (bs, wr) [be s.n 4, be s.data.length 2, s.data]).1 (pts lim (bs, wr) [be s.n 4, be s.data.length 2, s.data]).2) := by
  have hpl := pt_len lim (bs, wr) (be s.n 4)
  have hb4 : (be s.n 4).length = 4 := be_len _ _
  rw [hb4] at hpl
  refine enterF Try.func35 rfl Try.ntmps35 rfl hw ?_
  refine WC.seq ?_
  refine WC.region ?_
  refine WL.to (To.box (cs := s.cells) rfl rfl) rfl ?_ -- t3
  intro b3
  refine WL.nil ?_
  refine WC.seq ?_
  refine WC.region ?_
  refine WL.y (Yl.move rfl) rfl ?_ -- t4
  refine WL.y (Yl.field fo34_5 rfl) rfl ?_ -- t5
  refine WL.y (Yl.load on32 rfl (by repeat (first | exact Take1.head | apply Take1.tail)) (Sg.c52 hs)) rfl ?_ -- t6
  refine WL.to (To.buildSlice (vs := [.int .u32 s.n]) un78 zs32 rfl rfl (by simp [Value.cells]) (by decide) (by decide)) rfl ?_ -- t7
  intro b7
  refine WL.callC (xs := [.tmp 4, .tmp 7]) (cap := []) rfl rfl en36 (by repeat (first | exact TakeL.nil | (apply TakeL.cons; · repeat (first | exact Take1.head | apply Take1.tail)))) (fun w hw => outU32_any b x lim bs wr [s.n] (.slice (some ⟨b7, 0, none⟩) 1 1) hlo hf (by simp [b4, total, hb4]; omega) (by intro x hx; simp at hx; subst hx; exact hs.n) w (hw.src (RdOf.blk (cs := [.int .u32 s.n]) (Nat.le_refl _) (by unfold maxLen; omega) (by simp) rfl) (by repeat (first | exact Take1.head | apply Take1.tail))) hw.left.here) rfl ?_ -- t8 (*hailer/wire.Out).U32
  intro y8 _
  refine WL.nil ?_
  refine WC.region ?_
  refine WL.y (Yl.move rfl) rfl ?_ -- t9
  refine WL.y (Yl.field fo34_6 rfl) rfl ?_ -- t10
  refine WL.y (Yl.load on22 rfl (by repeat (first | exact Take1.head | apply Take1.tail)) (Sg.c53 hs)) rfl ?_ -- t11
  refine WL.callC (xs := [.tmp 9, _, .tmp 11]) (cap := []) rfl rfl en37 (by repeat (first | exact TakeL.nil | (apply TakeL.cons; · repeat (first | exact Take1.head | apply Take1.tail)))) (fun w hw => outSized_any b y8 lim (pt lim (bs, wr) (be s.n 4)).1 (pt lim (bs, wr) (be s.n 4)).2 1024 s.data (.slice s.da s.data.length s.dc) hlo (pt_fit hf _) (by dsimp only at hpl ⊢; omega) w (hw.srcS xs) hw.left.here) rfl ?_ -- t12 (*hailer/wire.Out).Sized
  intro y12 _
  rw [mny_small hd]
  refine WL.nil ?_
  repeat (first | (with_reducible refine peelT ?_) | (with_reducible refine peelB ?_) | (with_reducible refine peelTX ?_) | (with_reducible refine peelBX ?_) | (with_reducible refine peelBN ?_) | (with_reducible refine peelBO rfl ?_))
  exact ret0 (.inl rfl) Try.results35 fun w' h => ⟨y12, trivial, rfl, h.sub (by repeat (first | exact TakeL.nil | (apply TakeL.cons; · repeat (first | exact Take1.head | apply Take1.tail))))⟩
theorem putOf_any : Fn Try.prog (putOf s.kind) [.pointer (some ⟨b, 0, none⟩), .agg s.cells.toArray] (oR b x lim bs wr) w (fun _ : Option Addr × Nat => True) (fun _ => .tuple #[]) (fun y => oR b y lim (pts lim (bs, wr) (chk s)).1 (pts lim (bs, wr) (chk s)).2) := by
  unfold putOf chk
  split
  · exact put1_any s hs b x lim bs wr hlo hf hsz w hw
  split
  · exact put2_any s hs b x lim bs wr hlo hf hsz w hw
  split
  · exact put3_any s hs hd b x lim bs wr hlo hf hsz w xs hw
  split
  · exact put5_any s hs b x lim bs wr hlo hf hsz w hw
  · exact put0_any s hs b x lim bs wr hlo hf hsz w hw
end
end Go.Proofs.Ytnmeoleahcnnkaa
