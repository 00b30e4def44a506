/- What is taken: the walks. -/
import Derived.Test.YtfdnnlcfolgegaaFacts
import Derived.Test.YtfdnnlcfolgegaaWireP
namespace Go.Proofs.Ytfdnnlcfolgegaa
open Go Go.RowKit
abbrev TkΦ (r : Res) (k : Nat) (bs : List Int) (wr : Bool) (x : (Option Addr × Nat) × (Option Addr × Nat)) : Prop :=
  RdOf r (.slice x.1.1 (tkR k bs wr).length x.1.2) 1 (tkR k bs wr).length (ints .u8 (tkR k bs wr)) ∧ (tkR k bs wr).length ≤ x.1.2 ∧
  RdOf r (.slice x.2.1 (tkB k bs wr).length x.2.2) 1 (tkB k bs wr).length (ints .u8 (tkB k bs wr)) ∧ (tkB k bs wr).length ≤ x.2.2

abbrev NxΦ (r : Res) (k : Nat) (bs : List Int) (wr : Bool) (x : Option Addr × Nat) : Prop :=
  RdOf r (.slice x.1 (tkB k bs wr).length x.2) 1 (tkB k bs wr).length (ints .u8 (tkB k bs wr)) ∧ (tkB k bs wr).length ≤ x.2

def flW (bs : List Int) (wr : Bool) : Bool := tkW 1 bs wr || decide (1 < val (tkR 1 bs wr))
def flR (bs : List Int) (wr : Bool) : Bool := decide (val (tkR 1 bs wr) = 1)

/-- How it ends. -/
def endE (bs : List Int) (wr : Bool) : Int := if wr || decide (0 < bs.length) then 9 else 0

end Go.Proofs.Ytfdnnlcfolgegaa
