/- Walks: the document's table: its pair, its cost. -/
import Derived.Test.YtdbnfhpgmcjngacDoorRb
namespace Go.Proofs.YtdbnfhpgmcjngacDoor
open Go Go.RowKit
section
variable {w:World} {B:Nat} {xs ys:List Nd} {xb xo xc yb yo yc g K:Nat}
theorem rforests_at (xs ys:List Nd) (hx:Fit xs) (hy:Fit ys) (hix:xs.length≤16) (hjy:ys.length≤16) (i0 I j0 J:Nat) (ii jj:Int) (h1:i0≤I) (h2:j0≤J) (h3:I≤xs.length) (h4:J≤ys.length) (cx:Cl xs i0 I) (cy:Cl ys j0 J) (hii:ii=(I:Int)) (hjj:jj=(J:Int)) (w:World) (hA:Apt w B xs ys xb xo xc yb yo yc g K) (hM:Memo w g K xs ys) :
    Calls Tryd.prog 82 #[.pointer (some ⟨B,0,none⟩),.int .i64 i0,.int .i64 ii,.int .i64 j0,.int .i64 jj] w fun e w'=>e=.returned (.int .i64 (fdn xs ys i0 I j0 J:Nat))∧Chg (fun k=>k=g) w w'∧Memo w' g K xs ys :=
  rforests_any xs ys hx hy hix hjy B xb xo xc yb yo yc g K _ i0 I j0 J ii jj w (Nat.lt_succ_self _) h1 h2 h3 h4 cx cy hii hjj hA hM
end
end Go.Proofs.YtdbnfhpgmcjngacDoor
