/- Joined texts of the proof; conditions stand in each theorem. -/
import Derived.Test.YtmaekpnpnjndoaaGreatDoorQYQSta1
import Derived.Test.YtmaekpnpnjndoaaGreatDoorQYQSta4
import Derived.Test.YtmaekpnpnjndoaaGreatDoorQYQSta2
set_option linter.unusedVariables false
set_option linter.unusedSimpArgs false
open Go.IntKind (wrap)
open Go.Proofs.Tryz (prog)
namespace Go.Proofs.YtmaekpnpnjndoaaGreatDoor
namespace FA
open Sh CV LB
abbrev G:Type:=Int×Int×Int×Int×Int×Int×Int×Int×Int×Int×AA×Int×Int×Int×Int×Int×Int×Int×Int×Int×Int×Int×Int×Int×Int×Int×Int×Int×ByteArray×Int
abbrev LG:List DR:=[.int .i64,.int .i64,.int .i64,.int .i64,.int .i64,.int .i64,.int .i64,.int .i64,.int .i64,.int .i64,.Ct,.int .i64,.int .i64,.int .i64,.int .i64,.int .i64,.int .i64,.int .i64,.int .i64,.int .i64,.int .i64,.int .i64,.int .i64,.int .i64,.int .i64,.int .i64,.int .i64,.int .i64,.str,.int .i64]
def Ye (g:G)(x:Int):G:=(g.1,g.2.1,g.2.2.1,g.2.2.2.1,g.2.2.2.2.1,g.2.2.2.2.2.1,x,g.2.2.2.2.2.2.2.1,g.2.2.2.2.2.2.2.2.1,g.2.2.2.2.2.2.2.2.2.1,g.2.2.2.2.2.2.2.2.2.2.1,g.2.2.2.2.2.2.2.2.2.2.2.1,g.2.2.2.2.2.2.2.2.2.2.2.2.1,g.2.2.2.2.2.2.2.2.2.2.2.2.2.1,g.2.2.2.2.2.2.2.2.2.2.2.2.2.2.1,g.2.2.2.2.2.2.2.2.2.2.2.2.2.2.2.1,g.2.2.2.2.2.2.2.2.2.2.2.2.2.2.2.2.1,g.2.2.2.2.2.2.2.2.2.2.2.2.2.2.2.2.2.1,g.2.2.2.2.2.2.2.2.2.2.2.2.2.2.2.2.2.2.1,g.2.2.2.2.2.2.2.2.2.2.2.2.2.2.2.2.2.2.2.1,g.2.2.2.2.2.2.2.2.2.2.2.2.2.2.2.2.2.2.2.2.1,g.2.2.2.2.2.2.2.2.2.2.2.2.2.2.2.2.2.2.2.2.2.1,g.2.2.2.2.2.2.2.2.2.2.2.2.2.2.2.2.2.2.2.2.2.2.1,g.2.2.2.2.2.2.2.2.2.2.2.2.2.2.2.2.2.2.2.2.2.2.2.1,g.2.2.2.2.2.2.2.2.2.2.2.2.2.2.2.2.2.2.2.2.2.2.2.2.1,g.2.2.2.2.2.2.2.2.2.2.2.2.2.2.2.2.2.2.2.2.2.2.2.2.2.1,g.2.2.2.2.2.2.2.2.2.2.2.2.2.2.2.2.2.2.2.2.2.2.2.2.2.2.1,g.2.2.2.2.2.2.2.2.2.2.2.2.2.2.2.2.2.2.2.2.2.2.2.2.2.2.2.1,g.2.2.2.2.2.2.2.2.2.2.2.2.2.2.2.2.2.2.2.2.2.2.2.2.2.2.2.2.1,g.2.2.2.2.2.2.2.2.2.2.2.2.2.2.2.2.2.2.2.2.2.2.2.2.2.2.2.2.2)
theorem AOI (g:G)(x:Int):(AQ.cells LG g).set 6 (.int .i64 x)=AQ.cells LG (Ye g x):=rfl
def p6 (g:G)(x:Int):G:=(g.1,g.2.1,g.2.2.1,g.2.2.2.1,g.2.2.2.2.1,g.2.2.2.2.2.1,g.2.2.2.2.2.2.1,x,g.2.2.2.2.2.2.2.2.1,g.2.2.2.2.2.2.2.2.2.1,g.2.2.2.2.2.2.2.2.2.2.1,g.2.2.2.2.2.2.2.2.2.2.2.1,g.2.2.2.2.2.2.2.2.2.2.2.2.1,g.2.2.2.2.2.2.2.2.2.2.2.2.2.1,g.2.2.2.2.2.2.2.2.2.2.2.2.2.2.1,g.2.2.2.2.2.2.2.2.2.2.2.2.2.2.2.1,g.2.2.2.2.2.2.2.2.2.2.2.2.2.2.2.2.1,g.2.2.2.2.2.2.2.2.2.2.2.2.2.2.2.2.2.1,g.2.2.2.2.2.2.2.2.2.2.2.2.2.2.2.2.2.2.1,g.2.2.2.2.2.2.2.2.2.2.2.2.2.2.2.2.2.2.2.1,g.2.2.2.2.2.2.2.2.2.2.2.2.2.2.2.2.2.2.2.2.1,g.2.2.2.2.2.2.2.2.2.2.2.2.2.2.2.2.2.2.2.2.2.1,g.2.2.2.2.2.2.2.2.2.2.2.2.2.2.2.2.2.2.2.2.2.2.1,g.2.2.2.2.2.2.2.2.2.2.2.2.2.2.2.2.2.2.2.2.2.2.2.1,g.2.2.2.2.2.2.2.2.2.2.2.2.2.2.2.2.2.2.2.2.2.2.2.2.1,g.2.2.2.2.2.2.2.2.2.2.2.2.2.2.2.2.2.2.2.2.2.2.2.2.2.1,g.2.2.2.2.2.2.2.2.2.2.2.2.2.2.2.2.2.2.2.2.2.2.2.2.2.2.1,g.2.2.2.2.2.2.2.2.2.2.2.2.2.2.2.2.2.2.2.2.2.2.2.2.2.2.2.1,g.2.2.2.2.2.2.2.2.2.2.2.2.2.2.2.2.2.2.2.2.2.2.2.2.2.2.2.2.1,g.2.2.2.2.2.2.2.2.2.2.2.2.2.2.2.2.2.2.2.2.2.2.2.2.2.2.2.2.2)
theorem AOJ (g:G)(x:Int):(AQ.cells LG g).set 7 (.int .i64 x)=AQ.cells LG (p6 g x):=rfl
def p7 (g:G)(x:Int):G:=(g.1,g.2.1,g.2.2.1,g.2.2.2.1,g.2.2.2.2.1,g.2.2.2.2.2.1,g.2.2.2.2.2.2.1,g.2.2.2.2.2.2.2.1,x,g.2.2.2.2.2.2.2.2.2.1,g.2.2.2.2.2.2.2.2.2.2.1,g.2.2.2.2.2.2.2.2.2.2.2.1,g.2.2.2.2.2.2.2.2.2.2.2.2.1,g.2.2.2.2.2.2.2.2.2.2.2.2.2.1,g.2.2.2.2.2.2.2.2.2.2.2.2.2.2.1,g.2.2.2.2.2.2.2.2.2.2.2.2.2.2.2.1,g.2.2.2.2.2.2.2.2.2.2.2.2.2.2.2.2.1,g.2.2.2.2.2.2.2.2.2.2.2.2.2.2.2.2.2.1,g.2.2.2.2.2.2.2.2.2.2.2.2.2.2.2.2.2.2.1,g.2.2.2.2.2.2.2.2.2.2.2.2.2.2.2.2.2.2.2.1,g.2.2.2.2.2.2.2.2.2.2.2.2.2.2.2.2.2.2.2.2.1,g.2.2.2.2.2.2.2.2.2.2.2.2.2.2.2.2.2.2.2.2.2.1,g.2.2.2.2.2.2.2.2.2.2.2.2.2.2.2.2.2.2.2.2.2.2.1,g.2.2.2.2.2.2.2.2.2.2.2.2.2.2.2.2.2.2.2.2.2.2.2.1,g.2.2.2.2.2.2.2.2.2.2.2.2.2.2.2.2.2.2.2.2.2.2.2.2.1,g.2.2.2.2.2.2.2.2.2.2.2.2.2.2.2.2.2.2.2.2.2.2.2.2.2.1,g.2.2.2.2.2.2.2.2.2.2.2.2.2.2.2.2.2.2.2.2.2.2.2.2.2.2.1,g.2.2.2.2.2.2.2.2.2.2.2.2.2.2.2.2.2.2.2.2.2.2.2.2.2.2.2.1,g.2.2.2.2.2.2.2.2.2.2.2.2.2.2.2.2.2.2.2.2.2.2.2.2.2.2.2.2.1,g.2.2.2.2.2.2.2.2.2.2.2.2.2.2.2.2.2.2.2.2.2.2.2.2.2.2.2.2.2)
theorem AOK (g:G)(x:Int):(AQ.cells LG g).set 8 (.int .i64 x)=AQ.cells LG (p7 g x):=rfl
def p8 (g:G)(x:Int):G:=(g.1,g.2.1,g.2.2.1,g.2.2.2.1,g.2.2.2.2.1,g.2.2.2.2.2.1,g.2.2.2.2.2.2.1,g.2.2.2.2.2.2.2.1,g.2.2.2.2.2.2.2.2.1,x,g.2.2.2.2.2.2.2.2.2.2.1,g.2.2.2.2.2.2.2.2.2.2.2.1,g.2.2.2.2.2.2.2.2.2.2.2.2.1,g.2.2.2.2.2.2.2.2.2.2.2.2.2.1,g.2.2.2.2.2.2.2.2.2.2.2.2.2.2.1,g.2.2.2.2.2.2.2.2.2.2.2.2.2.2.2.1,g.2.2.2.2.2.2.2.2.2.2.2.2.2.2.2.2.1,g.2.2.2.2.2.2.2.2.2.2.2.2.2.2.2.2.2.1,g.2.2.2.2.2.2.2.2.2.2.2.2.2.2.2.2.2.2.1,g.2.2.2.2.2.2.2.2.2.2.2.2.2.2.2.2.2.2.2.1,g.2.2.2.2.2.2.2.2.2.2.2.2.2.2.2.2.2.2.2.2.1,g.2.2.2.2.2.2.2.2.2.2.2.2.2.2.2.2.2.2.2.2.2.1,g.2.2.2.2.2.2.2.2.2.2.2.2.2.2.2.2.2.2.2.2.2.2.1,g.2.2.2.2.2.2.2.2.2.2.2.2.2.2.2.2.2.2.2.2.2.2.2.1,g.2.2.2.2.2.2.2.2.2.2.2.2.2.2.2.2.2.2.2.2.2.2.2.2.1,g.2.2.2.2.2.2.2.2.2.2.2.2.2.2.2.2.2.2.2.2.2.2.2.2.2.1,g.2.2.2.2.2.2.2.2.2.2.2.2.2.2.2.2.2.2.2.2.2.2.2.2.2.2.1,g.2.2.2.2.2.2.2.2.2.2.2.2.2.2.2.2.2.2.2.2.2.2.2.2.2.2.2.1,g.2.2.2.2.2.2.2.2.2.2.2.2.2.2.2.2.2.2.2.2.2.2.2.2.2.2.2.2.1,g.2.2.2.2.2.2.2.2.2.2.2.2.2.2.2.2.2.2.2.2.2.2.2.2.2.2.2.2.2)
theorem AOL (g:G)(x:Int):(AQ.cells LG g).set 9 (.int .i64 x)=AQ.cells LG (p8 g x):=rfl
def Al (g:G)(x:AA):G:=(g.1,g.2.1,g.2.2.1,g.2.2.2.1,g.2.2.2.2.1,g.2.2.2.2.2.1,g.2.2.2.2.2.2.1,g.2.2.2.2.2.2.2.1,g.2.2.2.2.2.2.2.2.1,g.2.2.2.2.2.2.2.2.2.1,x,g.2.2.2.2.2.2.2.2.2.2.2.1,g.2.2.2.2.2.2.2.2.2.2.2.2.1,g.2.2.2.2.2.2.2.2.2.2.2.2.2.1,g.2.2.2.2.2.2.2.2.2.2.2.2.2.2.1,g.2.2.2.2.2.2.2.2.2.2.2.2.2.2.2.1,g.2.2.2.2.2.2.2.2.2.2.2.2.2.2.2.2.1,g.2.2.2.2.2.2.2.2.2.2.2.2.2.2.2.2.2.1,g.2.2.2.2.2.2.2.2.2.2.2.2.2.2.2.2.2.2.1,g.2.2.2.2.2.2.2.2.2.2.2.2.2.2.2.2.2.2.2.1,g.2.2.2.2.2.2.2.2.2.2.2.2.2.2.2.2.2.2.2.2.1,g.2.2.2.2.2.2.2.2.2.2.2.2.2.2.2.2.2.2.2.2.2.1,g.2.2.2.2.2.2.2.2.2.2.2.2.2.2.2.2.2.2.2.2.2.2.1,g.2.2.2.2.2.2.2.2.2.2.2.2.2.2.2.2.2.2.2.2.2.2.2.1,g.2.2.2.2.2.2.2.2.2.2.2.2.2.2.2.2.2.2.2.2.2.2.2.2.1,g.2.2.2.2.2.2.2.2.2.2.2.2.2.2.2.2.2.2.2.2.2.2.2.2.2.1,g.2.2.2.2.2.2.2.2.2.2.2.2.2.2.2.2.2.2.2.2.2.2.2.2.2.2.1,g.2.2.2.2.2.2.2.2.2.2.2.2.2.2.2.2.2.2.2.2.2.2.2.2.2.2.2.1,g.2.2.2.2.2.2.2.2.2.2.2.2.2.2.2.2.2.2.2.2.2.2.2.2.2.2.2.2.1,g.2.2.2.2.2.2.2.2.2.2.2.2.2.2.2.2.2.2.2.2.2.2.2.2.2.2.2.2.2)
theorem p9 (g:G)(x:AA):(AQ.cells LG g).set 10 (AA.v x)=AQ.cells LG (Al g x):=rfl
def TE (g:G)(x:Int):G:=(g.1,g.2.1,g.2.2.1,g.2.2.2.1,g.2.2.2.2.1,g.2.2.2.2.2.1,g.2.2.2.2.2.2.1,g.2.2.2.2.2.2.2.1,g.2.2.2.2.2.2.2.2.1,g.2.2.2.2.2.2.2.2.2.1,g.2.2.2.2.2.2.2.2.2.2.1,x,g.2.2.2.2.2.2.2.2.2.2.2.2.1,g.2.2.2.2.2.2.2.2.2.2.2.2.2.1,g.2.2.2.2.2.2.2.2.2.2.2.2.2.2.1,g.2.2.2.2.2.2.2.2.2.2.2.2.2.2.2.1,g.2.2.2.2.2.2.2.2.2.2.2.2.2.2.2.2.1,g.2.2.2.2.2.2.2.2.2.2.2.2.2.2.2.2.2.1,g.2.2.2.2.2.2.2.2.2.2.2.2.2.2.2.2.2.2.1,g.2.2.2.2.2.2.2.2.2.2.2.2.2.2.2.2.2.2.2.1,g.2.2.2.2.2.2.2.2.2.2.2.2.2.2.2.2.2.2.2.2.1,g.2.2.2.2.2.2.2.2.2.2.2.2.2.2.2.2.2.2.2.2.2.1,g.2.2.2.2.2.2.2.2.2.2.2.2.2.2.2.2.2.2.2.2.2.2.1,g.2.2.2.2.2.2.2.2.2.2.2.2.2.2.2.2.2.2.2.2.2.2.2.1,g.2.2.2.2.2.2.2.2.2.2.2.2.2.2.2.2.2.2.2.2.2.2.2.2.1,g.2.2.2.2.2.2.2.2.2.2.2.2.2.2.2.2.2.2.2.2.2.2.2.2.2.1,g.2.2.2.2.2.2.2.2.2.2.2.2.2.2.2.2.2.2.2.2.2.2.2.2.2.2.1,g.2.2.2.2.2.2.2.2.2.2.2.2.2.2.2.2.2.2.2.2.2.2.2.2.2.2.2.1,g.2.2.2.2.2.2.2.2.2.2.2.2.2.2.2.2.2.2.2.2.2.2.2.2.2.2.2.2.1,g.2.2.2.2.2.2.2.2.2.2.2.2.2.2.2.2.2.2.2.2.2.2.2.2.2.2.2.2.2)
theorem AB5 (g:G)(x:Int):(AQ.cells LG g).set 11 (.int .i64 x)=AQ.cells LG (TE g x):=rfl
def TF (g:G)(x:Int):G:=(g.1,g.2.1,g.2.2.1,g.2.2.2.1,g.2.2.2.2.1,g.2.2.2.2.2.1,g.2.2.2.2.2.2.1,g.2.2.2.2.2.2.2.1,g.2.2.2.2.2.2.2.2.1,g.2.2.2.2.2.2.2.2.2.1,g.2.2.2.2.2.2.2.2.2.2.1,g.2.2.2.2.2.2.2.2.2.2.2.1,g.2.2.2.2.2.2.2.2.2.2.2.2.1,g.2.2.2.2.2.2.2.2.2.2.2.2.2.1,g.2.2.2.2.2.2.2.2.2.2.2.2.2.2.1,g.2.2.2.2.2.2.2.2.2.2.2.2.2.2.2.1,g.2.2.2.2.2.2.2.2.2.2.2.2.2.2.2.2.1,g.2.2.2.2.2.2.2.2.2.2.2.2.2.2.2.2.2.1,g.2.2.2.2.2.2.2.2.2.2.2.2.2.2.2.2.2.2.1,g.2.2.2.2.2.2.2.2.2.2.2.2.2.2.2.2.2.2.2.1,g.2.2.2.2.2.2.2.2.2.2.2.2.2.2.2.2.2.2.2.2.1,g.2.2.2.2.2.2.2.2.2.2.2.2.2.2.2.2.2.2.2.2.2.1,x,g.2.2.2.2.2.2.2.2.2.2.2.2.2.2.2.2.2.2.2.2.2.2.2.1,g.2.2.2.2.2.2.2.2.2.2.2.2.2.2.2.2.2.2.2.2.2.2.2.2.1,g.2.2.2.2.2.2.2.2.2.2.2.2.2.2.2.2.2.2.2.2.2.2.2.2.2.1,g.2.2.2.2.2.2.2.2.2.2.2.2.2.2.2.2.2.2.2.2.2.2.2.2.2.2.1,g.2.2.2.2.2.2.2.2.2.2.2.2.2.2.2.2.2.2.2.2.2.2.2.2.2.2.2.1,g.2.2.2.2.2.2.2.2.2.2.2.2.2.2.2.2.2.2.2.2.2.2.2.2.2.2.2.2.1,g.2.2.2.2.2.2.2.2.2.2.2.2.2.2.2.2.2.2.2.2.2.2.2.2.2.2.2.2.2)
theorem AB6 (g:G)(x:Int):(AQ.cells LG g).set 22 (.int .i64 x)=AQ.cells LG (TF g x):=rfl
def TG (g:G)(x:Int):G:=(g.1,g.2.1,g.2.2.1,g.2.2.2.1,g.2.2.2.2.1,g.2.2.2.2.2.1,g.2.2.2.2.2.2.1,g.2.2.2.2.2.2.2.1,g.2.2.2.2.2.2.2.2.1,g.2.2.2.2.2.2.2.2.2.1,g.2.2.2.2.2.2.2.2.2.2.1,g.2.2.2.2.2.2.2.2.2.2.2.1,g.2.2.2.2.2.2.2.2.2.2.2.2.1,g.2.2.2.2.2.2.2.2.2.2.2.2.2.1,g.2.2.2.2.2.2.2.2.2.2.2.2.2.2.1,g.2.2.2.2.2.2.2.2.2.2.2.2.2.2.2.1,g.2.2.2.2.2.2.2.2.2.2.2.2.2.2.2.2.1,g.2.2.2.2.2.2.2.2.2.2.2.2.2.2.2.2.2.1,g.2.2.2.2.2.2.2.2.2.2.2.2.2.2.2.2.2.2.1,g.2.2.2.2.2.2.2.2.2.2.2.2.2.2.2.2.2.2.2.1,g.2.2.2.2.2.2.2.2.2.2.2.2.2.2.2.2.2.2.2.2.1,g.2.2.2.2.2.2.2.2.2.2.2.2.2.2.2.2.2.2.2.2.2.1,g.2.2.2.2.2.2.2.2.2.2.2.2.2.2.2.2.2.2.2.2.2.2.1,x,g.2.2.2.2.2.2.2.2.2.2.2.2.2.2.2.2.2.2.2.2.2.2.2.2.1,g.2.2.2.2.2.2.2.2.2.2.2.2.2.2.2.2.2.2.2.2.2.2.2.2.2.1,g.2.2.2.2.2.2.2.2.2.2.2.2.2.2.2.2.2.2.2.2.2.2.2.2.2.2.1,g.2.2.2.2.2.2.2.2.2.2.2.2.2.2.2.2.2.2.2.2.2.2.2.2.2.2.2.1,g.2.2.2.2.2.2.2.2.2.2.2.2.2.2.2.2.2.2.2.2.2.2.2.2.2.2.2.2.1,g.2.2.2.2.2.2.2.2.2.2.2.2.2.2.2.2.2.2.2.2.2.2.2.2.2.2.2.2.2)
theorem AB7 (g:G)(x:Int):(AQ.cells LG g).set 23 (.int .i64 x)=AQ.cells LG (TG g x):=rfl
def TH (g:G)(x:Int):G:=(g.1,g.2.1,g.2.2.1,g.2.2.2.1,g.2.2.2.2.1,g.2.2.2.2.2.1,g.2.2.2.2.2.2.1,g.2.2.2.2.2.2.2.1,g.2.2.2.2.2.2.2.2.1,g.2.2.2.2.2.2.2.2.2.1,g.2.2.2.2.2.2.2.2.2.2.1,g.2.2.2.2.2.2.2.2.2.2.2.1,g.2.2.2.2.2.2.2.2.2.2.2.2.1,g.2.2.2.2.2.2.2.2.2.2.2.2.2.1,g.2.2.2.2.2.2.2.2.2.2.2.2.2.2.1,g.2.2.2.2.2.2.2.2.2.2.2.2.2.2.2.1,g.2.2.2.2.2.2.2.2.2.2.2.2.2.2.2.2.1,g.2.2.2.2.2.2.2.2.2.2.2.2.2.2.2.2.2.1,g.2.2.2.2.2.2.2.2.2.2.2.2.2.2.2.2.2.2.1,g.2.2.2.2.2.2.2.2.2.2.2.2.2.2.2.2.2.2.2.1,g.2.2.2.2.2.2.2.2.2.2.2.2.2.2.2.2.2.2.2.2.1,g.2.2.2.2.2.2.2.2.2.2.2.2.2.2.2.2.2.2.2.2.2.1,g.2.2.2.2.2.2.2.2.2.2.2.2.2.2.2.2.2.2.2.2.2.2.1,g.2.2.2.2.2.2.2.2.2.2.2.2.2.2.2.2.2.2.2.2.2.2.2.1,x,g.2.2.2.2.2.2.2.2.2.2.2.2.2.2.2.2.2.2.2.2.2.2.2.2.2.1,g.2.2.2.2.2.2.2.2.2.2.2.2.2.2.2.2.2.2.2.2.2.2.2.2.2.2.1,g.2.2.2.2.2.2.2.2.2.2.2.2.2.2.2.2.2.2.2.2.2.2.2.2.2.2.2.1,g.2.2.2.2.2.2.2.2.2.2.2.2.2.2.2.2.2.2.2.2.2.2.2.2.2.2.2.2.1,g.2.2.2.2.2.2.2.2.2.2.2.2.2.2.2.2.2.2.2.2.2.2.2.2.2.2.2.2.2)
theorem AB8 (g:G)(x:Int):(AQ.cells LG g).set 24 (.int .i64 x)=AQ.cells LG (TH g x):=rfl
def TI (g:G)(x:Int):G:=(g.1,g.2.1,g.2.2.1,g.2.2.2.1,g.2.2.2.2.1,g.2.2.2.2.2.1,g.2.2.2.2.2.2.1,g.2.2.2.2.2.2.2.1,g.2.2.2.2.2.2.2.2.1,g.2.2.2.2.2.2.2.2.2.1,g.2.2.2.2.2.2.2.2.2.2.1,g.2.2.2.2.2.2.2.2.2.2.2.1,g.2.2.2.2.2.2.2.2.2.2.2.2.1,g.2.2.2.2.2.2.2.2.2.2.2.2.2.1,g.2.2.2.2.2.2.2.2.2.2.2.2.2.2.1,g.2.2.2.2.2.2.2.2.2.2.2.2.2.2.2.1,g.2.2.2.2.2.2.2.2.2.2.2.2.2.2.2.2.1,g.2.2.2.2.2.2.2.2.2.2.2.2.2.2.2.2.2.1,g.2.2.2.2.2.2.2.2.2.2.2.2.2.2.2.2.2.2.1,g.2.2.2.2.2.2.2.2.2.2.2.2.2.2.2.2.2.2.2.1,g.2.2.2.2.2.2.2.2.2.2.2.2.2.2.2.2.2.2.2.2.1,g.2.2.2.2.2.2.2.2.2.2.2.2.2.2.2.2.2.2.2.2.2.1,g.2.2.2.2.2.2.2.2.2.2.2.2.2.2.2.2.2.2.2.2.2.2.1,g.2.2.2.2.2.2.2.2.2.2.2.2.2.2.2.2.2.2.2.2.2.2.2.1,g.2.2.2.2.2.2.2.2.2.2.2.2.2.2.2.2.2.2.2.2.2.2.2.2.1,x,g.2.2.2.2.2.2.2.2.2.2.2.2.2.2.2.2.2.2.2.2.2.2.2.2.2.2.1,g.2.2.2.2.2.2.2.2.2.2.2.2.2.2.2.2.2.2.2.2.2.2.2.2.2.2.2.1,g.2.2.2.2.2.2.2.2.2.2.2.2.2.2.2.2.2.2.2.2.2.2.2.2.2.2.2.2.1,g.2.2.2.2.2.2.2.2.2.2.2.2.2.2.2.2.2.2.2.2.2.2.2.2.2.2.2.2.2)
theorem AB9 (g:G)(x:Int):(AQ.cells LG g).set 25 (.int .i64 x)=AQ.cells LG (TI g x):=rfl
def Qh (g:G)(x:Int):G:=(g.1,g.2.1,g.2.2.1,g.2.2.2.1,g.2.2.2.2.1,g.2.2.2.2.2.1,g.2.2.2.2.2.2.1,g.2.2.2.2.2.2.2.1,g.2.2.2.2.2.2.2.2.1,g.2.2.2.2.2.2.2.2.2.1,g.2.2.2.2.2.2.2.2.2.2.1,g.2.2.2.2.2.2.2.2.2.2.2.1,g.2.2.2.2.2.2.2.2.2.2.2.2.1,g.2.2.2.2.2.2.2.2.2.2.2.2.2.1,g.2.2.2.2.2.2.2.2.2.2.2.2.2.2.1,g.2.2.2.2.2.2.2.2.2.2.2.2.2.2.2.1,g.2.2.2.2.2.2.2.2.2.2.2.2.2.2.2.2.1,g.2.2.2.2.2.2.2.2.2.2.2.2.2.2.2.2.2.1,g.2.2.2.2.2.2.2.2.2.2.2.2.2.2.2.2.2.2.1,g.2.2.2.2.2.2.2.2.2.2.2.2.2.2.2.2.2.2.2.1,g.2.2.2.2.2.2.2.2.2.2.2.2.2.2.2.2.2.2.2.2.1,g.2.2.2.2.2.2.2.2.2.2.2.2.2.2.2.2.2.2.2.2.2.1,g.2.2.2.2.2.2.2.2.2.2.2.2.2.2.2.2.2.2.2.2.2.2.1,g.2.2.2.2.2.2.2.2.2.2.2.2.2.2.2.2.2.2.2.2.2.2.2.1,g.2.2.2.2.2.2.2.2.2.2.2.2.2.2.2.2.2.2.2.2.2.2.2.2.1,g.2.2.2.2.2.2.2.2.2.2.2.2.2.2.2.2.2.2.2.2.2.2.2.2.2.1,x,g.2.2.2.2.2.2.2.2.2.2.2.2.2.2.2.2.2.2.2.2.2.2.2.2.2.2.2.1,g.2.2.2.2.2.2.2.2.2.2.2.2.2.2.2.2.2.2.2.2.2.2.2.2.2.2.2.2.1,g.2.2.2.2.2.2.2.2.2.2.2.2.2.2.2.2.2.2.2.2.2.2.2.2.2.2.2.2.2)
theorem ACA (g:G)(x:Int):(AQ.cells LG g).set 26 (.int .i64 x)=AQ.cells LG (Qh g x):=rfl
def TJ (g:G)(x:Int):G:=(g.1,g.2.1,g.2.2.1,g.2.2.2.1,g.2.2.2.2.1,g.2.2.2.2.2.1,g.2.2.2.2.2.2.1,g.2.2.2.2.2.2.2.1,g.2.2.2.2.2.2.2.2.1,g.2.2.2.2.2.2.2.2.2.1,g.2.2.2.2.2.2.2.2.2.2.1,g.2.2.2.2.2.2.2.2.2.2.2.1,g.2.2.2.2.2.2.2.2.2.2.2.2.1,g.2.2.2.2.2.2.2.2.2.2.2.2.2.1,g.2.2.2.2.2.2.2.2.2.2.2.2.2.2.1,g.2.2.2.2.2.2.2.2.2.2.2.2.2.2.2.1,g.2.2.2.2.2.2.2.2.2.2.2.2.2.2.2.2.1,g.2.2.2.2.2.2.2.2.2.2.2.2.2.2.2.2.2.1,g.2.2.2.2.2.2.2.2.2.2.2.2.2.2.2.2.2.2.1,g.2.2.2.2.2.2.2.2.2.2.2.2.2.2.2.2.2.2.2.1,g.2.2.2.2.2.2.2.2.2.2.2.2.2.2.2.2.2.2.2.2.1,g.2.2.2.2.2.2.2.2.2.2.2.2.2.2.2.2.2.2.2.2.2.1,g.2.2.2.2.2.2.2.2.2.2.2.2.2.2.2.2.2.2.2.2.2.2.1,g.2.2.2.2.2.2.2.2.2.2.2.2.2.2.2.2.2.2.2.2.2.2.2.1,g.2.2.2.2.2.2.2.2.2.2.2.2.2.2.2.2.2.2.2.2.2.2.2.2.1,g.2.2.2.2.2.2.2.2.2.2.2.2.2.2.2.2.2.2.2.2.2.2.2.2.2.1,g.2.2.2.2.2.2.2.2.2.2.2.2.2.2.2.2.2.2.2.2.2.2.2.2.2.2.1,x,g.2.2.2.2.2.2.2.2.2.2.2.2.2.2.2.2.2.2.2.2.2.2.2.2.2.2.2.2.1,g.2.2.2.2.2.2.2.2.2.2.2.2.2.2.2.2.2.2.2.2.2.2.2.2.2.2.2.2.2)
theorem ACB (g:G)(x:Int):(AQ.cells LG g).set 27 (.int .i64 x)=AQ.cells LG (TJ g x):=rfl
def Qi (g:G)(x:ByteArray):G:=(g.1,g.2.1,g.2.2.1,g.2.2.2.1,g.2.2.2.2.1,g.2.2.2.2.2.1,g.2.2.2.2.2.2.1,g.2.2.2.2.2.2.2.1,g.2.2.2.2.2.2.2.2.1,g.2.2.2.2.2.2.2.2.2.1,g.2.2.2.2.2.2.2.2.2.2.1,g.2.2.2.2.2.2.2.2.2.2.2.1,g.2.2.2.2.2.2.2.2.2.2.2.2.1,g.2.2.2.2.2.2.2.2.2.2.2.2.2.1,g.2.2.2.2.2.2.2.2.2.2.2.2.2.2.1,g.2.2.2.2.2.2.2.2.2.2.2.2.2.2.2.1,g.2.2.2.2.2.2.2.2.2.2.2.2.2.2.2.2.1,g.2.2.2.2.2.2.2.2.2.2.2.2.2.2.2.2.2.1,g.2.2.2.2.2.2.2.2.2.2.2.2.2.2.2.2.2.2.1,g.2.2.2.2.2.2.2.2.2.2.2.2.2.2.2.2.2.2.2.1,g.2.2.2.2.2.2.2.2.2.2.2.2.2.2.2.2.2.2.2.2.1,g.2.2.2.2.2.2.2.2.2.2.2.2.2.2.2.2.2.2.2.2.2.1,g.2.2.2.2.2.2.2.2.2.2.2.2.2.2.2.2.2.2.2.2.2.2.1,g.2.2.2.2.2.2.2.2.2.2.2.2.2.2.2.2.2.2.2.2.2.2.2.1,g.2.2.2.2.2.2.2.2.2.2.2.2.2.2.2.2.2.2.2.2.2.2.2.2.1,g.2.2.2.2.2.2.2.2.2.2.2.2.2.2.2.2.2.2.2.2.2.2.2.2.2.1,g.2.2.2.2.2.2.2.2.2.2.2.2.2.2.2.2.2.2.2.2.2.2.2.2.2.2.1,g.2.2.2.2.2.2.2.2.2.2.2.2.2.2.2.2.2.2.2.2.2.2.2.2.2.2.2.1,x,g.2.2.2.2.2.2.2.2.2.2.2.2.2.2.2.2.2.2.2.2.2.2.2.2.2.2.2.2.2)
theorem ACC (g:G)(x:ByteArray):(AQ.cells LG g).set 28 (.string x)=AQ.cells LG (Qi g x):=rfl
def TK (g:G)(x:Int):G:=(g.1,g.2.1,g.2.2.1,g.2.2.2.1,g.2.2.2.2.1,g.2.2.2.2.2.1,g.2.2.2.2.2.2.1,g.2.2.2.2.2.2.2.1,g.2.2.2.2.2.2.2.2.1,g.2.2.2.2.2.2.2.2.2.1,g.2.2.2.2.2.2.2.2.2.2.1,g.2.2.2.2.2.2.2.2.2.2.2.1,g.2.2.2.2.2.2.2.2.2.2.2.2.1,g.2.2.2.2.2.2.2.2.2.2.2.2.2.1,g.2.2.2.2.2.2.2.2.2.2.2.2.2.2.1,g.2.2.2.2.2.2.2.2.2.2.2.2.2.2.2.1,g.2.2.2.2.2.2.2.2.2.2.2.2.2.2.2.2.1,g.2.2.2.2.2.2.2.2.2.2.2.2.2.2.2.2.2.1,g.2.2.2.2.2.2.2.2.2.2.2.2.2.2.2.2.2.2.1,g.2.2.2.2.2.2.2.2.2.2.2.2.2.2.2.2.2.2.2.1,g.2.2.2.2.2.2.2.2.2.2.2.2.2.2.2.2.2.2.2.2.1,g.2.2.2.2.2.2.2.2.2.2.2.2.2.2.2.2.2.2.2.2.2.1,g.2.2.2.2.2.2.2.2.2.2.2.2.2.2.2.2.2.2.2.2.2.2.1,g.2.2.2.2.2.2.2.2.2.2.2.2.2.2.2.2.2.2.2.2.2.2.2.1,g.2.2.2.2.2.2.2.2.2.2.2.2.2.2.2.2.2.2.2.2.2.2.2.2.1,g.2.2.2.2.2.2.2.2.2.2.2.2.2.2.2.2.2.2.2.2.2.2.2.2.2.1,g.2.2.2.2.2.2.2.2.2.2.2.2.2.2.2.2.2.2.2.2.2.2.2.2.2.2.1,g.2.2.2.2.2.2.2.2.2.2.2.2.2.2.2.2.2.2.2.2.2.2.2.2.2.2.2.1,g.2.2.2.2.2.2.2.2.2.2.2.2.2.2.2.2.2.2.2.2.2.2.2.2.2.2.2.2.1,x)
theorem ACD (g:G)(x:Int):(AQ.cells LG g).set 29 (.int .i64 x)=AQ.cells LG (TK g x):=rfl
def Rt (g:G)(c:Int×Int×Int×Int×Int×Int):G:=(c.1,c.2.1,c.2.2.1,c.2.2.2.1,c.2.2.2.2.1,c.2.2.2.2.2,g.2.2.2.2.2.2.1,g.2.2.2.2.2.2.2.1,g.2.2.2.2.2.2.2.2.1,g.2.2.2.2.2.2.2.2.2.1,g.2.2.2.2.2.2.2.2.2.2.1,g.2.2.2.2.2.2.2.2.2.2.2.1,g.2.2.2.2.2.2.2.2.2.2.2.2.1,g.2.2.2.2.2.2.2.2.2.2.2.2.2.1,g.2.2.2.2.2.2.2.2.2.2.2.2.2.2.1,g.2.2.2.2.2.2.2.2.2.2.2.2.2.2.2.1,g.2.2.2.2.2.2.2.2.2.2.2.2.2.2.2.2.1,g.2.2.2.2.2.2.2.2.2.2.2.2.2.2.2.2.2.1,g.2.2.2.2.2.2.2.2.2.2.2.2.2.2.2.2.2.2.1,g.2.2.2.2.2.2.2.2.2.2.2.2.2.2.2.2.2.2.2.1,g.2.2.2.2.2.2.2.2.2.2.2.2.2.2.2.2.2.2.2.2.1,g.2.2.2.2.2.2.2.2.2.2.2.2.2.2.2.2.2.2.2.2.2.1,g.2.2.2.2.2.2.2.2.2.2.2.2.2.2.2.2.2.2.2.2.2.2.1,g.2.2.2.2.2.2.2.2.2.2.2.2.2.2.2.2.2.2.2.2.2.2.2.1,g.2.2.2.2.2.2.2.2.2.2.2.2.2.2.2.2.2.2.2.2.2.2.2.2.1,g.2.2.2.2.2.2.2.2.2.2.2.2.2.2.2.2.2.2.2.2.2.2.2.2.2.1,g.2.2.2.2.2.2.2.2.2.2.2.2.2.2.2.2.2.2.2.2.2.2.2.2.2.2.1,g.2.2.2.2.2.2.2.2.2.2.2.2.2.2.2.2.2.2.2.2.2.2.2.2.2.2.2.1,g.2.2.2.2.2.2.2.2.2.2.2.2.2.2.2.2.2.2.2.2.2.2.2.2.2.2.2.2.1,g.2.2.2.2.2.2.2.2.2.2.2.2.2.2.2.2.2.2.2.2.2.2.2.2.2.2.2.2.2)
theorem ACE (g:G)(c:Int×Int×Int×Int×Int×Int):(((((((AQ.cells LG g).set 0 (.int .i64 c.1)).set 1 (.int .i64 c.2.1)).set 2 (.int .i64 c.2.2.1)).set 3 (.int .i64 c.2.2.2.1)).set 4 (.int .i64 c.2.2.2.2.1)).set 5 (.int .i64 c.2.2.2.2.2))=AQ.cells LG (Rt g c):=rfl
def Nb (g:G)(c:Int×Int×Int×Int×Int):G:=(g.1,g.2.1,g.2.2.1,g.2.2.2.1,g.2.2.2.2.1,g.2.2.2.2.2.1,g.2.2.2.2.2.2.1,g.2.2.2.2.2.2.2.1,g.2.2.2.2.2.2.2.2.1,g.2.2.2.2.2.2.2.2.2.1,g.2.2.2.2.2.2.2.2.2.2.1,g.2.2.2.2.2.2.2.2.2.2.2.1,c.1,c.2.1,c.2.2.1,c.2.2.2.1,c.2.2.2.2,g.2.2.2.2.2.2.2.2.2.2.2.2.2.2.2.2.2.1,g.2.2.2.2.2.2.2.2.2.2.2.2.2.2.2.2.2.2.1,g.2.2.2.2.2.2.2.2.2.2.2.2.2.2.2.2.2.2.2.1,g.2.2.2.2.2.2.2.2.2.2.2.2.2.2.2.2.2.2.2.2.1,g.2.2.2.2.2.2.2.2.2.2.2.2.2.2.2.2.2.2.2.2.2.1,g.2.2.2.2.2.2.2.2.2.2.2.2.2.2.2.2.2.2.2.2.2.2.1,g.2.2.2.2.2.2.2.2.2.2.2.2.2.2.2.2.2.2.2.2.2.2.2.1,g.2.2.2.2.2.2.2.2.2.2.2.2.2.2.2.2.2.2.2.2.2.2.2.2.1,g.2.2.2.2.2.2.2.2.2.2.2.2.2.2.2.2.2.2.2.2.2.2.2.2.2.1,g.2.2.2.2.2.2.2.2.2.2.2.2.2.2.2.2.2.2.2.2.2.2.2.2.2.2.1,g.2.2.2.2.2.2.2.2.2.2.2.2.2.2.2.2.2.2.2.2.2.2.2.2.2.2.2.1,g.2.2.2.2.2.2.2.2.2.2.2.2.2.2.2.2.2.2.2.2.2.2.2.2.2.2.2.2.1,g.2.2.2.2.2.2.2.2.2.2.2.2.2.2.2.2.2.2.2.2.2.2.2.2.2.2.2.2.2)
theorem vZ (g:G)(c:Int×Int×Int×Int×Int):((((((AQ.cells LG g).set 12 (.int .i64 c.1)).set 13 (.int .i64 c.2.1)).set 14 (.int .i64 c.2.2.1)).set 15 (.int .i64 c.2.2.2.1)).set 16 (.int .i64 c.2.2.2.2))=AQ.cells LG (Nb g c):=rfl
def Vv (g:G)(c:Int×Int×Int×Int×Int):G:=(g.1,g.2.1,g.2.2.1,g.2.2.2.1,g.2.2.2.2.1,g.2.2.2.2.2.1,g.2.2.2.2.2.2.1,g.2.2.2.2.2.2.2.1,g.2.2.2.2.2.2.2.2.1,g.2.2.2.2.2.2.2.2.2.1,g.2.2.2.2.2.2.2.2.2.2.1,g.2.2.2.2.2.2.2.2.2.2.2.1,g.2.2.2.2.2.2.2.2.2.2.2.2.1,g.2.2.2.2.2.2.2.2.2.2.2.2.2.1,g.2.2.2.2.2.2.2.2.2.2.2.2.2.2.1,g.2.2.2.2.2.2.2.2.2.2.2.2.2.2.2.1,g.2.2.2.2.2.2.2.2.2.2.2.2.2.2.2.2.1,c.1,c.2.1,c.2.2.1,c.2.2.2.1,c.2.2.2.2,g.2.2.2.2.2.2.2.2.2.2.2.2.2.2.2.2.2.2.2.2.2.2.1,g.2.2.2.2.2.2.2.2.2.2.2.2.2.2.2.2.2.2.2.2.2.2.2.1,g.2.2.2.2.2.2.2.2.2.2.2.2.2.2.2.2.2.2.2.2.2.2.2.2.1,g.2.2.2.2.2.2.2.2.2.2.2.2.2.2.2.2.2.2.2.2.2.2.2.2.2.1,g.2.2.2.2.2.2.2.2.2.2.2.2.2.2.2.2.2.2.2.2.2.2.2.2.2.2.1,g.2.2.2.2.2.2.2.2.2.2.2.2.2.2.2.2.2.2.2.2.2.2.2.2.2.2.2.1,g.2.2.2.2.2.2.2.2.2.2.2.2.2.2.2.2.2.2.2.2.2.2.2.2.2.2.2.2.1,g.2.2.2.2.2.2.2.2.2.2.2.2.2.2.2.2.2.2.2.2.2.2.2.2.2.2.2.2.2)
theorem va (g:G)(c:Int×Int×Int×Int×Int):((((((AQ.cells LG g).set 17 (.int .i64 c.1)).set 18 (.int .i64 c.2.1)).set 19 (.int .i64 c.2.2.1)).set 20 (.int .i64 c.2.2.2.1)).set 21 (.int .i64 c.2.2.2.2))=AQ.cells LG (Vv g c):=rfl
def Ej (g:G):Mx:=(g.1,g.2.1,g.2.2.1,g.2.2.2.1,g.2.2.2.2.1,g.2.2.2.2.2.1)
def BQ (g:G):AA:=g.2.2.2.2.2.2.2.2.2.2.1
theorem at0 (g:G):(AQ.cells LG g)[0]?=some (.int .i64 (g.1)):=rfl
theorem at1 (g:G):(AQ.cells LG g)[1]?=some (.int .i64 (g.2.1)):=rfl
theorem at2 (g:G):(AQ.cells LG g)[2]?=some (.int .i64 (g.2.2.1)):=rfl
theorem at3 (g:G):(AQ.cells LG g)[3]?=some (.int .i64 (g.2.2.2.1)):=rfl
theorem at4 (g:G):(AQ.cells LG g)[4]?=some (.int .i64 (g.2.2.2.2.1)):=rfl
theorem at5 (g:G):(AQ.cells LG g)[5]?=some (.int .i64 (g.2.2.2.2.2.1)):=rfl
theorem at6 (g:G):(AQ.cells LG g)[6]?=some (.int .i64 (g.2.2.2.2.2.2.1)):=rfl
theorem at7 (g:G):(AQ.cells LG g)[7]?=some (.int .i64 (g.2.2.2.2.2.2.2.1)):=rfl
theorem at8 (g:G):(AQ.cells LG g)[8]?=some (.int .i64 (g.2.2.2.2.2.2.2.2.1)):=rfl
theorem at9 (g:G):(AQ.cells LG g)[9]?=some (.int .i64 (g.2.2.2.2.2.2.2.2.2.1)):=rfl
theorem vb (g:G):(AQ.cells LG g)[10]?=some (AA.v (g.2.2.2.2.2.2.2.2.2.2.1)):=rfl
theorem ACF (g:G):(AQ.cells LG g)[11]?=some (.int .i64 (g.2.2.2.2.2.2.2.2.2.2.2.1)):=rfl
theorem ACG (g:G):(AQ.cells LG g)[12]?=some (.int .i64 (g.2.2.2.2.2.2.2.2.2.2.2.2.1)):=rfl
theorem ACH (g:G):(AQ.cells LG g)[13]?=some (.int .i64 (g.2.2.2.2.2.2.2.2.2.2.2.2.2.1)):=rfl
theorem ACI (g:G):(AQ.cells LG g)[14]?=some (.int .i64 (g.2.2.2.2.2.2.2.2.2.2.2.2.2.2.1)):=rfl
theorem ACJ (g:G):(AQ.cells LG g)[15]?=some (.int .i64 (g.2.2.2.2.2.2.2.2.2.2.2.2.2.2.2.1)):=rfl
theorem ACK (g:G):(AQ.cells LG g)[16]?=some (.int .i64 (g.2.2.2.2.2.2.2.2.2.2.2.2.2.2.2.2.1)):=rfl
theorem ACL (g:G):(AQ.cells LG g)[17]?=some (.int .i64 (g.2.2.2.2.2.2.2.2.2.2.2.2.2.2.2.2.2.1)):=rfl
theorem ACN (g:G):(AQ.cells LG g)[18]?=some (.int .i64 (g.2.2.2.2.2.2.2.2.2.2.2.2.2.2.2.2.2.2.1)):=rfl
theorem ACO (g:G):(AQ.cells LG g)[19]?=some (.int .i64 (g.2.2.2.2.2.2.2.2.2.2.2.2.2.2.2.2.2.2.2.1)):=rfl
theorem ACP (g:G):(AQ.cells LG g)[20]?=some (.int .i64 (g.2.2.2.2.2.2.2.2.2.2.2.2.2.2.2.2.2.2.2.2.1)):=rfl
theorem ACQ (g:G):(AQ.cells LG g)[21]?=some (.int .i64 (g.2.2.2.2.2.2.2.2.2.2.2.2.2.2.2.2.2.2.2.2.2.1)):=rfl
theorem ACR (g:G):(AQ.cells LG g)[22]?=some (.int .i64 (g.2.2.2.2.2.2.2.2.2.2.2.2.2.2.2.2.2.2.2.2.2.2.1)):=rfl
theorem ACS (g:G):(AQ.cells LG g)[23]?=some (.int .i64 (g.2.2.2.2.2.2.2.2.2.2.2.2.2.2.2.2.2.2.2.2.2.2.2.1)):=rfl
theorem ACT (g:G):(AQ.cells LG g)[24]?=some (.int .i64 (g.2.2.2.2.2.2.2.2.2.2.2.2.2.2.2.2.2.2.2.2.2.2.2.2.1)):=rfl
theorem ACU (g:G):(AQ.cells LG g)[25]?=some (.int .i64 (g.2.2.2.2.2.2.2.2.2.2.2.2.2.2.2.2.2.2.2.2.2.2.2.2.2.1)):=rfl
theorem ACV (g:G):(AQ.cells LG g)[26]?=some (.int .i64 (g.2.2.2.2.2.2.2.2.2.2.2.2.2.2.2.2.2.2.2.2.2.2.2.2.2.2.1)):=rfl
theorem ACW (g:G):(AQ.cells LG g)[27]?=some (.int .i64 (g.2.2.2.2.2.2.2.2.2.2.2.2.2.2.2.2.2.2.2.2.2.2.2.2.2.2.2.1)):=rfl
theorem ACX (g:G):(AQ.cells LG g)[28]?=some (.string (g.2.2.2.2.2.2.2.2.2.2.2.2.2.2.2.2.2.2.2.2.2.2.2.2.2.2.2.2.1)):=rfl
theorem ACY (g:G):(AQ.cells LG g)[29]?=some (.int .i64 (g.2.2.2.2.2.2.2.2.2.2.2.2.2.2.2.2.2.2.2.2.2.2.2.2.2.2.2.2.2)):=rfl
def er (g:G):G:=Al g CU
theorem FG (g:G)(t:AA):BQ (Al g t)=t:=by
 unfold BQ Al;dsimp only
theorem XV (g:G)(t:AA):er (Al g t)=er g:=by
 unfold er Al;dsimp only
theorem JO (g:G):Ej (er g)=Ej g:=by
 unfold Ej er Al;dsimp only
theorem ACZ (g:G)(c:Int):BQ (Ye g c)=BQ g:=by
 unfold BQ Ye;dsimp only
theorem AOM (g:G)(c:Int):er (Ye g c)=Ye (er g) c:=by
 unfold er Al Ye;dsimp only
theorem ACa (g:G)(c:Int):BQ (p6 g c)=BQ g:=by
 unfold BQ p6;dsimp only
theorem AON (g:G)(c:Int):er (p6 g c)=p6 (er g) c:=by
 unfold er Al p6;dsimp only
theorem ACb (g:G)(c:Int):BQ (p7 g c)=BQ g:=by
 unfold BQ p7;dsimp only
theorem AOO (g:G)(c:Int):er (p7 g c)=p7 (er g) c:=by
 unfold er Al p7;dsimp only
theorem ACc (g:G)(c:Int):BQ (p8 g c)=BQ g:=by
 unfold BQ p8;dsimp only
theorem AOP (g:G)(c:Int):er (p8 g c)=p8 (er g) c:=by
 unfold er Al p8;dsimp only
theorem ACd (g:G)(c:Int):er (TE g c)=TE (er g) c:=by
 unfold er Al TE;dsimp only
theorem vc (g:G)(c:Int):BQ (TF g c)=BQ g:=by
 unfold BQ TF;dsimp only
theorem ACe (g:G)(c:Int):er (TF g c)=TF (er g) c:=by
 unfold er Al TF;dsimp only
theorem ve (g:G)(c:Int):BQ (TG g c)=BQ g:=by
 unfold BQ TG;dsimp only
theorem ACf (g:G)(c:Int):er (TG g c)=TG (er g) c:=by
 unfold er Al TG;dsimp only
theorem vf (g:G)(c:Int):BQ (TH g c)=BQ g:=by
 unfold BQ TH;dsimp only
theorem ACg (g:G)(c:Int):er (TH g c)=TH (er g) c:=by
 unfold er Al TH;dsimp only
theorem vg (g:G)(c:Int):BQ (TI g c)=BQ g:=by
 unfold BQ TI;dsimp only
theorem ACh (g:G)(c:Int):er (TI g c)=TI (er g) c:=by
 unfold er Al TI;dsimp only
theorem vh (g:G)(c:Int):BQ (Qh g c)=BQ g:=by
 unfold BQ Qh;dsimp only
theorem ACi (g:G)(c:Int):er (Qh g c)=Qh (er g) c:=by
 unfold er Al Qh;dsimp only
theorem vj (g:G)(c:Int):BQ (TJ g c)=BQ g:=by
 unfold BQ TJ;dsimp only
theorem ACj (g:G)(c:Int):er (TJ g c)=TJ (er g) c:=by
 unfold er Al TJ;dsimp only
theorem vk (g:G)(c:ByteArray):BQ (Qi g c)=BQ g:=by
 unfold BQ Qi;dsimp only
theorem ACk (g:G)(c:ByteArray):er (Qi g c)=Qi (er g) c:=by
 unfold er Al Qi;dsimp only
theorem vl (g:G)(c:Int):BQ (TK g c)=BQ g:=by
 unfold BQ TK;dsimp only
theorem ACl (g:G)(c:Int):er (TK g c)=TK (er g) c:=by
 unfold er Al TK;dsimp only
theorem qA (g:G)(c:Int×Int×Int×Int×Int×Int):BQ (Rt g c)=BQ g:=by
 unfold BQ Rt;dsimp only
theorem ACm (g:G)(c:Int×Int×Int×Int×Int×Int):er (Rt g c)=Rt (er g) c:=by
 unfold er Al Rt;dsimp only
theorem iT (g:G)(c:Int×Int×Int×Int×Int):BQ (Nb g c)=BQ g:=by
 unfold BQ Nb;dsimp only
theorem vm (g:G)(c:Int×Int×Int×Int×Int):er (Nb g c)=Nb (er g) c:=by
 unfold er Al Nb;dsimp only
theorem iU (g:G)(c:Int×Int×Int×Int×Int):BQ (Vv g c)=BQ g:=by
 unfold BQ Vv;dsimp only
theorem vn (g:G)(c:Int×Int×Int×Int×Int):er (Vv g c)=Vv (er g) c:=by
 unfold er Al Vv;dsimp only
abbrev P:=G×List Int
def num (o:Ob):Except Int Int:=match U3 o with
 |some n=> .ok n
 |none=> .error 2
def CT:List Ob->Except Int (List Int)
 |[]=> .ok []
 |o::r=>match num o with
  | .error e=> .error e
  | .ok n=>match CT r with
   | .error e=> .error e
   | .ok l=> .ok (n::l)
def Kn (o:Ob):Except Int Int:=match num o with
 | .error e=> .error e
 | .ok n=>if 0<=n then .ok n else .error 2
def Ei:List Ob->Except Int (List Int)
 |[]=> .ok []
 |o::r=>match Kn o with
  | .error e=> .error e
  | .ok n=>match Ei r with
   | .error e=> .error e
   | .ok l=> .ok (n::l)
def N3 (o:Ob)(Cf:Int):Except Int Int:=match num o with
 | .error e=> .error e
 | .ok n=>if 0<=n/\n<=Cf*10000/\Int.tmod n 10000=0 then .ok (Int.tdiv n 10000)else .error 2
def NY (sp:Int)(L:List Ob):Except Int (Int×Int×Int×Int×Int):=match CT L with
 | .error e=> .error e
 | .ok l=>if l.all (fun n=>decide (0<=n)&&decide (n<=10000))=true then .ok (sp,l.getD 0 0,l.getD 1 0,l.getD 2 0,l.getD 3 0)else .error 2
def Ko (K:List Ob)(ph:Ob):Except Int (List Int×Int):=if 32<K.length then .error 6 else if K.all (fun k=>k.1==2||k.1==3)=false then .error 28 else match Ei K with
 | .error e=> .error e
 | .ok l=>match Kn ph with
  | .error e=> .error e
  | .ok x=> .ok (l,x)
def mx (l:List Int):Mx:=(l.getD 0 0,l.getD 1 0,l.getD 2 0,l.getD 3 0,l.getD 4 0,l.getD 5 0)
def DC {α β:Type}(x:Except Int α)(f:α->Except Int β):Except Int β:=match x with
 | .error e=> .error e
 | .ok a=>f a
theorem A7 {α β:Type}{x:Except Int α}{a:α}(f:α->Except Int β)(h:x= .ok a):DC x f=f a:=by rw[h];rfl
theorem BV {α β:Type}{x:Except Int α}{e:Int}(f:α->Except Int β)(h:x= .error e):DC x f= .error e:=by rw[h];rfl
def KC (p:P)(l:List Int):Except Int P:=match DT (mx l) (Ej p.1)with
 |some m=> .ok (Rt p.1 m,p.2)
 |none=> .error 2
theorem HP {p:P}{l:List Int}{m:Mx}(h:DT (mx l) (Ej p.1)=some m):KC p l= .ok (Rt p.1 m,p.2):=by unfold KC;rw[h]
theorem HR {p:P}{l:List Int}(h:DT (mx l) (Ej p.1)=none):KC p l= .error 2:=by unfold KC;rw[h]
def Bk (L:List Ob):Ob:=L.getD 0 CV.Bk
def fN (L:List Ob):Ob:=L.getD 1 CV.Bk
def Ba (nm:By)(L K:List Ob)(p:P):Except Int P:=
 if nm=[99,109]then (DC (CT L) (KC p))
 else if nm=[119]then (DC (Kn (Bk L)) fun n=> .ok (Ye p.1 n,p.2))
 else if nm=[77]then (DC (Kn (Bk L)) fun n=> .ok (p8 p.1 n,p.2))
 else if nm=[74]then (DC (N3 (Bk L) 2) fun n=> .ok (p6 p.1 n,p.2))
 else if nm=[106]then (DC (N3 (Bk L) 2) fun n=> .ok (p7 p.1 n,p.2))
 else if nm=[100]then (DC (Ko K (fN L)) fun x=> .ok (TE p.1 x.2,x.1))
 else if nm=[103]then (DC (NY 0 L) fun c=> .ok (Nb p.1 c,p.2))
 else if nm=[71]then (DC (NY 0 L) fun c=> .ok (Vv p.1 c,p.2))
 else if nm=[114,103]then (DC (NY 1 L) fun c=> .ok (Nb p.1 c,p.2))
 else if nm=[82,71]then (DC (NY 1 L) fun c=> .ok (Vv p.1 c,p.2))
 else if nm=[107]then (DC (NY 2 L) fun c=> .ok (Nb p.1 c,p.2))
 else if nm=[75]then (DC (NY 2 L) fun c=> .ok (Vv p.1 c,p.2))
 else if nm=[105]then (.ok p)
 else if nm=[114,105]then (.ok p)
 else if nm=[103,115]then (.ok p)
 else if nm=[84,99]then (DC (num (Bk L)) fun n=> .ok (TF p.1 n,p.2))
 else if nm=[84,119]then (DC (num (Bk L)) fun n=> .ok (TG p.1 n,p.2))
 else if nm=[84,122]then (DC (num (Bk L)) fun n=> .ok (TH p.1 n,p.2))
 else if nm=[84,76]then (DC (num (Bk L)) fun n=> .ok (TI p.1 n,p.2))
 else if nm=[84,115]then (DC (num (Bk L)) fun n=> .ok (TJ p.1 n,p.2))
 else if nm=[84,102]then (DC (num (fN L)) fun n=> .ok (Qh (Qi p.1 (Bk L).2.2.2.1) n,p.2))
 else if nm=[84,114]then (DC (N3 (Bk L) 7) fun n=> .ok (TK p.1 n,p.2))
 else .error 0
def known:List By:=[[113],[81],[99,109],[119],[77],[74],[106],[100],[105],[114,105],[103,115],[103],[71],[114,103],[82,71],[107],[75],[84,99],[84,119],[84,122],[84,76],[84,115],[84,102],[84,114]]
structure Mc where
 now:P
 saved:List P
structure Opn where
 nm:By
 d:By
 L:List Ob
 K:List Ob
def MR (m:Mc)(q:Opn):Int×Mc:=if q.nm∉known then (8,m)else if CK q.nm q.L q.d≠0 then (CK q.nm q.L q.d,m)
 else if q.nm=[113]then (if m.saved.length<28 then (0,⟨m.now,m.now::m.saved⟩)else (6,m))
 else if q.nm=[81]then (match m.saved with
  |[]=>(29,m)
  |p::r=>(0,⟨p,r⟩))
 else match Ba q.nm q.L q.K m.now with
  | .error e=>(e,m)
  | .ok p=>(0,⟨p,m.saved⟩)
end FA
set_option maxRecDepth 100000
section
open Sh
def C15 (m1:Int×Int×Int×Int×Int×Int):=K1 (α:=EA) (vA A0) 15 #[.agg #[.int .i64 (m1.1),.int .i64 (m1.2.1),.int .i64 (m1.2.2.1),.int .i64 (m1.2.2.2.1),.int .i64 (m1.2.2.2.2.1),.int .i64 (m1.2.2.2.2.2)]]
def C4 (m1:Int×Int×Int×Int×Int×Int):=K1 Value.pointer 4 #[.agg #[.int .i64 (m1.1),.int .i64 (m1.2.1),.int .i64 (m1.2.2.1),.int .i64 (m1.2.2.2.1),.int .i64 (m1.2.2.2.2.1),.int .i64 (m1.2.2.2.2.2)]]
def C16 (Cv:ByteArray):=K1 Value.bool 16 #[.string Cv]
def MH (c1:Addr)(u:Option Value)(w:World)(R:Q0):Prop:=Df prog 18 #[.pointer (some c1)] u w R
theorem MH.mono{c1:Addr}{u:Option Value}{w:World}{R R':World->Prop}(h:MH c1 u w R)(hr:∀w',R w'->R' w'):MH c1 u w R':=
 CallsD.mono h fun _ _ _ ⟨h1,h2,h3⟩=>⟨h1,h2,hr _ h3⟩
def Tp (HO:Bool)(Ec:Int):=P0 19 #[.bool HO,.int .i64 Ec]
def C39 (s1:AA):=K1 AA.v 39 #[AA.v s1]
def C20 (g1:EA):=K1 (α:=EA) (vA A0) 20 #[.agg (AQ.cells A0 g1).toArray]
def eW (o1:Int×Int×Int×ByteArray×AA×AA):=P1 vi 64 #[.agg #[.int .i64 (o1.1),.int .i64 (o1.2.1),.int .i64 (o1.2.2.1),.string o1.2.2.2.1,AA.v o1.2.2.2.2.1,AA.v o1.2.2.2.2.2]]
def C63 (o1:ByteArray×AA×ByteArray):=P1 AA.v 63 #[.agg #[.string o1.1,AA.v o1.2.1,.string o1.2.2]]
def C40 (g1:Option Addr)(o2:ByteArray×AA×ByteArray):=P0 40 #[.pointer g1,.agg #[.string o2.1,AA.v o2.2.1,.string o2.2.2]]
def xE (o1:Int×Int×Int×ByteArray×AA×AA):=P1 vi 41 #[.agg #[.int .i64 (o1.1),.int .i64 (o1.2.1),.int .i64 (o1.2.2.1),.string o1.2.2.2.1,AA.v o1.2.2.2.2.1,AA.v o1.2.2.2.2.2]]
def C42 (o1:Int×Int×Int×ByteArray×AA×AA)(MI:Int):=P1 vi 42 #[.agg #[.int .i64 (o1.1),.int .i64 (o1.2.1),.int .i64 (o1.2.2.1),.string o1.2.2.2.1,AA.v o1.2.2.2.2.1,AA.v o1.2.2.2.2.2],.int .i64 MI]
def C43 (g1:Option Addr)(o2:ByteArray×AA×ByteArray):=P0 43 #[.pointer g1,.agg #[.string o2.1,AA.v o2.2.1,.string o2.2.2]]
def og (FD:Int)(o2:ByteArray×AA×ByteArray):=P1 (α:=Int×Int×Int×Int×Int) (vA [ti,ti,ti,ti,ti]) 44 #[.int .i64 FD,.agg #[.string o2.1,AA.v o2.2.1,.string o2.2.2]]
def C45 (t1:Option Addr)(o2:ByteArray×AA×ByteArray):=P1 Value.bool 45 #[.pointer t1,.agg #[.string o2.1,AA.v o2.2.1,.string o2.2.2]]
def C21 (g1:Option Addr)(o2:ByteArray×AA×ByteArray):=P1 Value.bool 21 #[.pointer g1,.agg #[.string o2.1,AA.v o2.2.1,.string o2.2.2]]
def C6 (x1:Option Addr)(o2:ByteArray×AA×ByteArray):=K1 vi 6 #[.pointer x1,.agg #[.string o2.1,AA.v o2.2.1,.string o2.2.2]]
def C8 (x1:Option Addr):=K1 (α:=EA) (vA A0) 8 #[.pointer x1]
def wc (x1:Option Addr):=K1 vi 13 #[.pointer x1]
def C31 (Zo:AA)(Zp:AA):=K1 Value.bool 31 #[AA.v Zo,AA.v Zp]
def C12 (a1:EA)(b2:EA):=K1 Value.bool 12 #[.agg (AQ.cells A0 a1).toArray,.agg (AQ.cells A0 b2).toArray]
def C7 (l1:AA):=K1 AA.v 7 #[AA.v l1]
def S15 (m1:Int×Int×Int×Int×Int×Int)(w:World)(R:Q1 (EA)):Prop:=Nw w (.cells #[.int .i64 (m1.1),.int .i64 (m1.2.1),.int .i64 (m1.2.2.1),.int .i64 (m1.2.2.2.1),.int .i64 (m1.2.2.2.2.1),.int .i64 (m1.2.2.2.2.2)] 24) fun z2=>Nw z2 (.cells #[.int .i64 0,.int .i64 0,.int .i64 0,.int .i64 0,.int .i64 0,.int .i64 0,.int .i64 0,.int .i64 0,.int .i64 0,.int .i64 0,AA.v ⟨none,0,0⟩,.int .i64 0,.int .i64 0,.int .i64 0,.int .i64 0,.int .i64 0,.int .i64 0,.int .i64 0,.int .i64 0,.int .i64 0,.int .i64 0,.int .i64 0,.int .i64 0,.int .i64 0,.int .i64 0,.int .i64 0,.int .i64 0,.int .i64 0,.string (⟨#[]⟩:cI),.int .i64 0] 40) fun z3=>Ld z3 ⟨w.heap.size,0,none⟩ (Value.int .i64) fun x4=>Ld z3 (.add ⟨w.heap.size,0,none⟩ 1) (Value.int .i64) fun x5=>Ld z3 (.add ⟨w.heap.size,0,none⟩ 2) (Value.int .i64) fun x6=>Ld z3 (.add ⟨w.heap.size,0,none⟩ 3) (Value.int .i64) fun x7=>Ld z3 (.add ⟨w.heap.size,0,none⟩ 4) (Value.int .i64) fun x8=>Ld z3 (.add ⟨w.heap.size,0,none⟩ 5) (Value.int .i64) fun x9=>Ak ⟨z2.heap.size,0,none⟩ 0 A0 ((x4,x5,x6,x7,x8,x9,10000,0,0,100000,(⟨none,0,0⟩:AA),0,0,0,0,0,0,0,0,0,0,0,0,0,1000000,0,0,0,(⟨#[]⟩:cI),0):EA) z3 fun Ar=>Ab Ar ⟨z2.heap.size,0,none⟩ 0 A0 fun Ef=>R Ef Ar
theorem T15 (m1 w R):S15 m1 w R->C15 (m1.1,m1.2.1,m1.2.2.1,m1.2.2.2.1,m1.2.2.2.2.1,m1.2.2.2.2.2) w R:=B2 (.agg [(.int .i64),(.int .i64),(.int .i64),(.int .i64),(.int .i64),(.int .i64),(.int .i64),(.int .i64),(.int .i64),(.int .i64),.Ct,(.int .i64),(.int .i64),(.int .i64),(.int .i64),(.int .i64),(.int .i64),(.int .i64),(.int .i64),(.int .i64),(.int .i64),(.int .i64),(.int .i64),(.int .i64),(.int .i64),(.int .i64),(.int .i64),(.int .i64),.str,(.int .i64)]) (.q (.q .l)) [.agg #[.int .i64 (m1.1),.int .i64 (m1.2.1),.int .i64 (m1.2.2.1),.int .i64 (m1.2.2.2.1),.int .i64 (m1.2.2.2.2.1),.int .i64 (m1.2.2.2.2.2)]] Tryz.func15
def S4 (m1:Int×Int×Int×Int×Int×Int)(w:World)(R:Q1 (Option Addr)):Prop:=Nw w (.cells #[.int .i64 (m1.1),.int .i64 (m1.2.1),.int .i64 (m1.2.2.1),.int .i64 (m1.2.2.2.1),.int .i64 (m1.2.2.2.2.1),.int .i64 (m1.2.2.2.2.2)] 24) fun z2=>Ld z2 ⟨w.heap.size,0,none⟩ (Value.int .i64) fun Ef=>Ld z2 (.add ⟨w.heap.size,0,none⟩ 1) (Value.int .i64) fun GN=>Ld z2 (.add ⟨w.heap.size,0,none⟩ 2) (Value.int .i64) fun JK=>Ld z2 (.add ⟨w.heap.size,0,none⟩ 3) (Value.int .i64) fun Nj=>Ld z2 (.add ⟨w.heap.size,0,none⟩ 4) (Value.int .i64) fun NT=>Ld z2 (.add ⟨w.heap.size,0,none⟩ 5) (Value.int .i64) fun GL=>C9 (Ef,GN,JK,Nj,NT,GL) z2 fun PV DO=>Br (PV !=0) (R none DO) (Ld DO ⟨w.heap.size,0,none⟩ (Value.int .i64) fun HG=>Ld DO (.add ⟨w.heap.size,0,none⟩ 1) (Value.int .i64) fun Gn=>Ld DO (.add ⟨w.heap.size,0,none⟩ 2) (Value.int .i64) fun Hm=>Ld DO (.add ⟨w.heap.size,0,none⟩ 3) (Value.int .i64) fun J0=>Ld DO (.add ⟨w.heap.size,0,none⟩ 4) (Value.int .i64) fun Uy=>Ld DO (.add ⟨w.heap.size,0,none⟩ 5) (Value.int .i64) fun DZ=>C15 (HG,Gn,Hm,J0,Uy,DZ) DO fun GO CQ=>Nw CQ (.cells #[.int .i64 (GO.1),.int .i64 (GO.2.1),.int .i64 (GO.2.2.1),.int .i64 (GO.2.2.2.1),.int .i64 (GO.2.2.2.2.1),.int .i64 (GO.2.2.2.2.2.1),.int .i64 (GO.2.2.2.2.2.2.1),.int .i64 (GO.2.2.2.2.2.2.2.1),.int .i64 (GO.2.2.2.2.2.2.2.2.1),.int .i64 (GO.2.2.2.2.2.2.2.2.2.1),AA.v GO.2.2.2.2.2.2.2.2.2.2.1,.int .i64 (GO.2.2.2.2.2.2.2.2.2.2.2.1),.int .i64 (GO.2.2.2.2.2.2.2.2.2.2.2.2.1),.int .i64 (GO.2.2.2.2.2.2.2.2.2.2.2.2.2.1),.int .i64 (GO.2.2.2.2.2.2.2.2.2.2.2.2.2.2.1),.int .i64 (GO.2.2.2.2.2.2.2.2.2.2.2.2.2.2.2.1),.int .i64 (GO.2.2.2.2.2.2.2.2.2.2.2.2.2.2.2.2.1),.int .i64 (GO.2.2.2.2.2.2.2.2.2.2.2.2.2.2.2.2.2.1),.int .i64 (GO.2.2.2.2.2.2.2.2.2.2.2.2.2.2.2.2.2.2.1),.int .i64 (GO.2.2.2.2.2.2.2.2.2.2.2.2.2.2.2.2.2.2.2.1),.int .i64 (GO.2.2.2.2.2.2.2.2.2.2.2.2.2.2.2.2.2.2.2.2.1),.int .i64 (GO.2.2.2.2.2.2.2.2.2.2.2.2.2.2.2.2.2.2.2.2.2.1),.int .i64 (GO.2.2.2.2.2.2.2.2.2.2.2.2.2.2.2.2.2.2.2.2.2.2.1),.int .i64 (GO.2.2.2.2.2.2.2.2.2.2.2.2.2.2.2.2.2.2.2.2.2.2.2.1),.int .i64 (GO.2.2.2.2.2.2.2.2.2.2.2.2.2.2.2.2.2.2.2.2.2.2.2.2.1),.int .i64 (GO.2.2.2.2.2.2.2.2.2.2.2.2.2.2.2.2.2.2.2.2.2.2.2.2.2.1),.int .i64 (GO.2.2.2.2.2.2.2.2.2.2.2.2.2.2.2.2.2.2.2.2.2.2.2.2.2.2.1),.int .i64 (GO.2.2.2.2.2.2.2.2.2.2.2.2.2.2.2.2.2.2.2.2.2.2.2.2.2.2.2.1),.string GO.2.2.2.2.2.2.2.2.2.2.2.2.2.2.2.2.2.2.2.2.2.2.2.2.2.2.2.2.1,.int .i64 (GO.2.2.2.2.2.2.2.2.2.2.2.2.2.2.2.2.2.2.2.2.2.2.2.2.2.2.2.2.2),AA.v ⟨none,0,0⟩] 57) fun JI=>R (some ⟨CQ.heap.size,0,none⟩) JI)
theorem T4 (m1 w R):S4 m1 w R->C4 (m1.1,m1.2.1,m1.2.2.1,m1.2.2.2.1,m1.2.2.2.2.1,m1.2.2.2.2.2) w R:=B2 op (.q (.s (.q (.c (.q .l) .l)) (.q .l))) [.agg #[.int .i64 (m1.1),.int .i64 (m1.2.1),.int .i64 (m1.2.2.1),.int .i64 (m1.2.2.2.1),.int .i64 (m1.2.2.2.2.1),.int .i64 (m1.2.2.2.2.2)]] Tryz.func4
def S16 (Cv:ByteArray)(w:World)(R:Q1 Bool):Prop:=Nw w (.cells #[.string ((⟨#[113]⟩:cI)),.string ((⟨#[81]⟩:cI)),.string ((⟨#[99,109]⟩:cI)),.string ((⟨#[119]⟩:cI)),.string ((⟨#[77]⟩:cI)),.string ((⟨#[74]⟩:cI)),.string ((⟨#[106]⟩:cI)),.string ((⟨#[100]⟩:cI)),.string ((⟨#[105]⟩:cI)),.string ((⟨#[114,105]⟩:cI)),.string ((⟨#[103,115]⟩:cI)),.string ((⟨#[103]⟩:cI)),.string ((⟨#[71]⟩:cI)),.string ((⟨#[114,103]⟩:cI)),.string ((⟨#[82,71]⟩:cI)),.string ((⟨#[107]⟩:cI)),.string ((⟨#[75]⟩:cI)),.string ((⟨#[84,99]⟩:cI)),.string ((⟨#[84,119]⟩:cI)),.string ((⟨#[84,122]⟩:cI)),.string ((⟨#[84,76]⟩:cI)),.string ((⟨#[84,115]⟩:cI)),.string ((⟨#[84,102]⟩:cI)),.string ((⟨#[84,114]⟩:cI))] 9) fun z2=>zA (⟨some ⟨w.heap.size,0,none⟩,24,24⟩:AA) Cv z2 fun r3 z4=>R r3 z4
theorem T16 (Cv w R):S16 Cv w R->C16 Cv w R:=B2 ob (.q (.q .l)) [.string Cv] Tryz.func16
def Pq (c1:Addr)(w:World)(R:Q0):Prop:=R w
def eX:Ah:=(.q (.c (.q (.s (.q (.c .r .l)) .r)) .l))
theorem lM (c1:Addr)(w:World)(R:Q0)(h:Pq c1 w R):MH c1 none w R:=by
 have e:KY prog FF Fu eX Tryz.f18 [.pointer (some c1)] none w R=Pq c1 w R:=by kernel_rfl
 exact BU okF De Tryz.func18 (by kernel_rfl) (by kernel_rfl) (e.mpr h)
def Pr (c1:Addr)(u2:Int)(w:World)(R:Q0):Prop:=Nw w (.cells #[.int .i64 0] 60) fun z3=>St z3 ⟨w.heap.size,0,none⟩ (.int .i64 u2) fun z4=>Ld z4 ⟨w.heap.size,0,none⟩ (Value.int .i64) fun x5=>St z4 c1 (.int .i64 x5) fun z6=>R z6
def eY:Ah:=(.q (.c (.q (.s (.q (.c .r .l)) .r)) .l))
theorem lN (c1:Addr)(u2:Int)(w:World)(R:Q0)(h:Pr c1 u2 w R):MH c1 (some (.iface 60 (.agg #[.int .i64 u2]))) w R:=by
 have e:KY prog FF Fu eY Tryz.f18 [.pointer (some c1)] (some (.iface 60 (.agg #[.int .i64 u2]))) w R=Pr c1 u2 w R:=by kernel_rfl
 exact BU okF De Tryz.func18 (by kernel_rfl) (by kernel_rfl) (e.mpr h)
def S19 (HO:Bool)(Ec:Int)(w:World)(R:Q0)(PR:Q1 Value):Prop:=Br (!HO) (PR (.iface 60 (.agg #[.int .i64 Ec])) w) (R w)
theorem T19 (HO Ec w R PR):S19 HO Ec w R PR->Tp HO Ec w R PR:=Zf (.q (.c .r .l)) [.bool HO,.int .i64 Ec] Tryz.func19
def S39 (s1:AA)(w:World)(R:Q1 AA):Prop:=Br s1.p.isNone (R (⟨none,0,0⟩:AA) w) (Nw w (.cells #[] 2) fun z2=>Rn prog (Builtin.append_ #[34,34] 34 #[AA.v ⟨some ⟨w.heap.size,0,none⟩,0,0⟩,AA.v s1]) z2 AA.v fun x3 z4=>R x3 z4)
theorem T39 (s1 w R):S39 s1 w R->C39 s1 w R:=B2 ol (.q (.s (.q (.c (.q .l) .l)) (.q .l))) [AA.v s1] Tryz.func39
def S20 (g1:EA)(w:World)(R:Q1 (EA)):Prop:=Nw w (.cells (AQ.cells A0 g1).toArray 40) fun z2=>Nw z2 (.cells #[.int .i64 0,.int .i64 0,.int .i64 0,.int .i64 0,.int .i64 0,.int .i64 0,.int .i64 0,.int .i64 0,.int .i64 0,.int .i64 0,AA.v ⟨none,0,0⟩,.int .i64 0,.int .i64 0,.int .i64 0,.int .i64 0,.int .i64 0,.int .i64 0,.int .i64 0,.int .i64 0,.int .i64 0,.int .i64 0,.int .i64 0,.int .i64 0,.int .i64 0,.int .i64 0,.int .i64 0,.int .i64 0,.int .i64 0,.string (⟨#[]⟩:cI),.int .i64 0] 40) fun z3=>Ld z3 (.add ⟨w.heap.size,0,none⟩ 10) AA.v fun x4=>C39 x4 z3 fun r5 z6=>St z6 (.add ⟨w.heap.size,0,none⟩ 10) (AA.v r5) fun z7=>Ab z7 ⟨w.heap.size,0,none⟩ 0 A0 fun x8=>Ak ⟨z2.heap.size,0,none⟩ 0 A0 x8 z7 fun z9=>Ab z9 ⟨z2.heap.size,0,none⟩ 0 A0 fun EB=>R EB z9
theorem T20 (g1 w R):S20 g1 w R->C20 g1 w R:=B2 (.agg [(.int .i64),(.int .i64),(.int .i64),(.int .i64),(.int .i64),(.int .i64),(.int .i64),(.int .i64),(.int .i64),(.int .i64),.Ct,(.int .i64),(.int .i64),(.int .i64),(.int .i64),(.int .i64),(.int .i64),(.int .i64),(.int .i64),(.int .i64),(.int .i64),(.int .i64),(.int .i64),(.int .i64),(.int .i64),(.int .i64),(.int .i64),(.int .i64),.str,(.int .i64)]) (.q (.q (.q .l))) [.agg (AQ.cells A0 g1).toArray] Tryz.func20
def S64 (o1:Int×Int×Int×ByteArray×AA×AA)(w:World)(R:Q1 Int)(PR:Q1 Value):Prop:=Nw w (.cells #[.int .i64 (o1.1),.int .i64 (o1.2.1),.int .i64 (o1.2.2.1),.string o1.2.2.2.1,AA.v o1.2.2.2.2.1,AA.v o1.2.2.2.2.2] 68) fun z2=>Ld z2 ⟨w.heap.size,0,none⟩ (Value.int .i64) fun x3=>Ld z2 (.add ⟨w.heap.size,0,none⟩ 1) (Value.int .i64) fun x4=>Ld z2 (.add ⟨w.heap.size,0,none⟩ 2) (Value.int .i64) fun x5=>Ld z2 (.add ⟨w.heap.size,0,none⟩ 3) Value.string fun x6=>Ld z2 (.add ⟨w.heap.size,0,none⟩ 4) AA.v fun x7=>Ld z2 (.add ⟨w.heap.size,0,none⟩ 5) AA.v fun x8=>C91 (x3,x4,x5,x6,x7,x8) z2 fun r9 Ng Dg=>Tp Ng 2 Dg (fun z12=>R r9 z12) PR
theorem T64 (o1 w R PR):S64 o1 w R PR->eW (o1.1,o1.2.1,o1.2.2.1,o1.2.2.2.1,o1.2.2.2.2.1,o1.2.2.2.2.2) w R PR:=Jw oi (.q (.q (.q (.q .l)))) [.agg #[.int .i64 (o1.1),.int .i64 (o1.2.1),.int .i64 (o1.2.2.1),.string o1.2.2.2.1,AA.v o1.2.2.2.2.1,AA.v o1.2.2.2.2.2]] Tryz.func64
def oh (x3:AA)(R:Q1 AA)(PR:Q1 Value)(I6:Q1 (AA×Int))(s4:AA×Int)(z5:World):Prop:=Br (decide (s4.2<(x3.len:Int))) (0<=s4.2/\s4.2<(x3.len:Nat)/\Nn x3.p fun a7=>Ld z5 (a7.add ((s4.2).toNat*6)) (Value.int .i64) fun x8=>Ld z5 ((a7.add ((s4.2).toNat*6)).add 1) (Value.int .i64) fun x9=>Ld z5 ((a7.add ((s4.2).toNat*6)).add 2) (Value.int .i64) fun EB=>Ld z5 ((a7.add ((s4.2).toNat*6)).add 3) Value.string fun Ef=>Ld z5 ((a7.add ((s4.2).toNat*6)).add 4) AA.v fun GN=>Ld z5 ((a7.add ((s4.2).toNat*6)).add 5) AA.v fun JK=>Nw z5 (.cells #[.int .i64 0,.int .i64 0,.int .i64 0,.string (⟨#[]⟩:cI),AA.v ⟨none,0,0⟩,AA.v ⟨none,0,0⟩] 68) fun AM=>St AM ⟨z5.heap.size,0,none⟩ (.int .i64 x8) fun EN=>St EN (.add ⟨z5.heap.size,0,none⟩ 1) (.int .i64 x9) fun EX=>St EX (.add ⟨z5.heap.size,0,none⟩ 2) (.int .i64 EB) fun JE=>St JE (.add ⟨z5.heap.size,0,none⟩ 3) (.string Ef) fun DO=>St DO (.add ⟨z5.heap.size,0,none⟩ 4) (AA.v GN) fun Bz=>St Bz (.add ⟨z5.heap.size,0,none⟩ 5) (AA.v JK) fun z20=>Ld z20 ⟨z5.heap.size,0,none⟩ (Value.int .i64) fun Hm=>Ld z20 (.add ⟨z5.heap.size,0,none⟩ 1) (Value.int .i64) fun J0=>Ld z20 (.add ⟨z5.heap.size,0,none⟩ 2) (Value.int .i64) fun Uy=>Ld z20 (.add ⟨z5.heap.size,0,none⟩ 3) Value.string fun DZ=>Ld z20 (.add ⟨z5.heap.size,0,none⟩ 4) AA.v fun WE=>Ld z20 (.add ⟨z5.heap.size,0,none⟩ 5) AA.v fun PW=>eW (Hm,J0,Uy,DZ,WE,PW) z20 (fun r27 z28=>Nw z28 (.cells #[.int .i64 r27] 2) fun CS=>Rn prog (Builtin.append_ #[34,34] 34 #[AA.v s4.1,AA.v ⟨some ⟨z28.heap.size,0,none⟩,1,1⟩]) CS AA.v fun Qu z31=>I6 (Qu,wrap .i64 (s4.2+1)) z31) PR) (R s4.1 z5)
def S63 (o1:ByteArray×AA×ByteArray)(w:World)(R:Q1 AA)(PR:Q1 Value):Prop:=Nw w (.cells #[.string o1.1,AA.v o1.2.1,.string o1.2.2] 33) fun z2=>Ld z2 (.add ⟨w.heap.size,0,none⟩ 1) AA.v fun x3=>Lp (σ:=AA×Int) (oh x3 R PR) ((⟨none,0,0⟩:AA),0) z2
theorem T63 (o1 w R PR):S63 o1 w R PR->C63 (o1.1,o1.2.1,o1.2.2) w R PR:=Jw ol (.q (.q (.s (.q (.b (.o [(3,ol),(9,oi)] [7,8] (.q (.s (.c .l .l) (.s (.b (.q .r)) .r)))))) (.q .l)))) [.agg #[.string o1.1,AA.v o1.2.1,.string o1.2.2]] Tryz.func63
def S40 (g1:Option Addr)(o2:ByteArray×AA×ByteArray)(w:World)(R:Q0)(PR:Q1 Value):Prop:=Nw w (.cells #[.string o2.1,AA.v o2.2.1,.string o2.2.2] 33) fun z3=>Ld z3 ⟨w.heap.size,0,none⟩ Value.string fun x4=>Ld z3 (.add ⟨w.heap.size,0,none⟩ 1) AA.v fun x5=>Ld z3 (.add ⟨w.heap.size,0,none⟩ 2) Value.string fun x6=>C63 (x4,x5,x6) z3 (fun r7 z8=>∃Ri:World->Prop,Ri z8.drew/\0<=(0:Int)/\(0:Int)<(r7.len:Nat)/\Nn r7.p fun a37=>AP Ri (a37.add (((0:Int)).toNat*1)) (Value.int .i64) fun I1=>0<=(1:Int)/\(1:Int)<(r7.len:Nat)/\Nn r7.p fun qh=>AP Ri (qh.add (((1:Int)).toNat*1)) (Value.int .i64) fun NS=>0<=(2:Int)/\(2:Int)<(r7.len:Nat)/\Nn r7.p fun tK=>AP Ri (tK.add (((2:Int)).toNat*1)) (Value.int .i64) fun K7=>0<=(3:Int)/\(3:Int)<(r7.len:Nat)/\Nn r7.p fun zj=>AP Ri (zj.add (((3:Int)).toNat*1)) (Value.int .i64) fun Ho=>0<=(4:Int)/\(4:Int)<(r7.len:Nat)/\Nn r7.p fun a45=>AP Ri (a45.add (((4:Int)).toNat*1)) (Value.int .i64) fun Gi=>0<=(5:Int)/\(5:Int)<(r7.len:Nat)/\Nn r7.p fun zq=>AP Ri (zq.add (((5:Int)).toNat*1)) (Value.int .i64) fun ID=>(Nw z8.drew (.cells #[.int .i64 0,.int .i64 0,.int .i64 0,.int .i64 0,.int .i64 0,.int .i64 0] 24) fun z49=>St z49 ⟨z8.drew.heap.size,0,none⟩ (.int .i64 I1) fun HE=>St HE (.add ⟨z8.drew.heap.size,0,none⟩ 1) (.int .i64 NS) fun z51=>St z51 (.add ⟨z8.drew.heap.size,0,none⟩ 2) (.int .i64 K7) fun cR=>St cR (.add ⟨z8.drew.heap.size,0,none⟩ 3) (.int .i64 Ho) fun z53=>St z53 (.add ⟨z8.drew.heap.size,0,none⟩ 4) (.int .i64 Gi) fun WN=>St WN (.add ⟨z8.drew.heap.size,0,none⟩ 5) (.int .i64 ID) fun JF=>∃JL:World->Prop,JL JF.drew/\AP JL ⟨z8.drew.heap.size,0,none⟩ (Value.int .i64) fun Qw=>AP JL (.add ⟨z8.drew.heap.size,0,none⟩ 1) (Value.int .i64) fun N0=>AP JL (.add ⟨z8.drew.heap.size,0,none⟩ 2) (Value.int .i64) fun Um=>AP JL (.add ⟨z8.drew.heap.size,0,none⟩ 3) (Value.int .i64) fun OI=>AP JL (.add ⟨z8.drew.heap.size,0,none⟩ 4) (Value.int .i64) fun Pf=>AP JL (.add ⟨z8.drew.heap.size,0,none⟩ 5) (Value.int .i64) fun NX=>Nn g1 fun om=>AP JL om (Value.int .i64) fun YS=>AP JL (om.add 1) (Value.int .i64) fun Rc=>AP JL (om.add 2) (Value.int .i64) fun Up=>AP JL (om.add 3) (Value.int .i64) fun dq=>AP JL (om.add 4) (Value.int .i64) fun Nv=>AP JL (om.add 5) (Value.int .i64) fun WI=>we (Qw,N0,Um,OI,Pf,NX) (YS,Rc,Up,dq,Nv,WI) JF.drew fun xF r71 z72=>St z72 ⟨z8.drew.heap.size,0,none⟩ (.int .i64 (xF.1)) fun oH=>St oH (.add ⟨z8.drew.heap.size,0,none⟩ 1) (.int .i64 (xF.2.1)) fun Gg=>St Gg (.add ⟨z8.drew.heap.size,0,none⟩ 2) (.int .i64 (xF.2.2.1)) fun z75=>St z75 (.add ⟨z8.drew.heap.size,0,none⟩ 3) (.int .i64 (xF.2.2.2.1)) fun z76=>St z76 (.add ⟨z8.drew.heap.size,0,none⟩ 4) (.int .i64 (xF.2.2.2.2.1)) fun Xz=>St Xz (.add ⟨z8.drew.heap.size,0,none⟩ 5) (.int .i64 (xF.2.2.2.2.2)) fun D6=>Tp (r71==0) r71 D6 (fun Cb=>Ld Cb ⟨z8.drew.heap.size,0,none⟩ (Value.int .i64) fun da=>Ld Cb (.add ⟨z8.drew.heap.size,0,none⟩ 1) (Value.int .i64) fun Zm=>Ld Cb (.add ⟨z8.drew.heap.size,0,none⟩ 2) (Value.int .i64) fun Ti=>Ld Cb (.add ⟨z8.drew.heap.size,0,none⟩ 3) (Value.int .i64) fun RL=>Ld Cb (.add ⟨z8.drew.heap.size,0,none⟩ 4) (Value.int .i64) fun Re=>Ld Cb (.add ⟨z8.drew.heap.size,0,none⟩ 5) (Value.int .i64) fun Qt=>Nn g1 fun jn=>St Cb jn (.int .i64 da) fun z87=>St z87 (jn.add 1) (.int .i64 Zm) fun Ui=>St Ui (jn.add 2) (.int .i64 Ti) fun PX=>St PX (jn.add 3) (.int .i64 RL) fun Uj=>St Uj (jn.add 4) (.int .i64 Re) fun z91=>St z91 (jn.add 5) (.int .i64 Qt) fun OH=>R OH) PR)/\(Nw z8.drew (.cells #[.int .i64 0,.int .i64 0,.int .i64 0,.int .i64 0,.int .i64 0,.int .i64 0] 24) fun z93=>Ri z93/\St z93 ⟨z8.drew.heap.size,0,none⟩ (.int .i64 I1) fun Tj=>St Tj (.add ⟨z8.drew.heap.size,0,none⟩ 1) (.int .i64 NS) fun wh=>St wh (.add ⟨z8.drew.heap.size,0,none⟩ 2) (.int .i64 K7) fun Xw=>St Xw (.add ⟨z8.drew.heap.size,0,none⟩ 3) (.int .i64 Ho) fun jm=>St jm (.add ⟨z8.drew.heap.size,0,none⟩ 4) (.int .i64 Gi) fun dL=>St dL (.add ⟨z8.drew.heap.size,0,none⟩ 5) (.int .i64 ID) fun Zl=>∃Eh:World->Prop,Eh Zl.drew/\AP Eh ⟨z8.drew.heap.size,0,none⟩ (Value.int .i64) fun Xx=>AP Eh (.add ⟨z8.drew.heap.size,0,none⟩ 1) (Value.int .i64) fun PJ=>AP Eh (.add ⟨z8.drew.heap.size,0,none⟩ 2) (Value.int .i64) fun dR=>AP Eh (.add ⟨z8.drew.heap.size,0,none⟩ 3) (Value.int .i64) fun Lf=>AP Eh (.add ⟨z8.drew.heap.size,0,none⟩ 4) (Value.int .i64) fun Kj=>AP Eh (.add ⟨z8.drew.heap.size,0,none⟩ 5) (Value.int .i64) fun II=>Nn g1 fun a107=>AP Eh a107 (Value.int .i64) fun PY=>AP Eh (a107.add 1) (Value.int .i64) fun Ls=>AP Eh (a107.add 2) (Value.int .i64) fun IK=>AP Eh (a107.add 3) (Value.int .i64) fun PZ=>AP Eh (a107.add 4) (Value.int .i64) fun Ny=>AP Eh (a107.add 5) (Value.int .i64) fun PO=>we (Xx,PJ,dR,Lf,Kj,II) (PY,Ls,IK,PZ,Ny,PO) Zl.drew fun F0 Rj z116=>St z116 ⟨z8.drew.heap.size,0,none⟩ (.int .i64 (F0.1)) fun z117=>St z117 (.add ⟨z8.drew.heap.size,0,none⟩ 1) (.int .i64 (F0.2.1)) fun Nq=>St Nq (.add ⟨z8.drew.heap.size,0,none⟩ 2) (.int .i64 (F0.2.2.1)) fun z119=>St z119 (.add ⟨z8.drew.heap.size,0,none⟩ 3) (.int .i64 (F0.2.2.2.1)) fun Bn=>St Bn (.add ⟨z8.drew.heap.size,0,none⟩ 4) (.int .i64 (F0.2.2.2.2.1)) fun cQ=>St cQ (.add ⟨z8.drew.heap.size,0,none⟩ 5) (.int .i64 (F0.2.2.2.2.2)) fun Lc=>Tp (Rj==0) Rj Lc (fun Cd=>Ld Cd ⟨z8.drew.heap.size,0,none⟩ (Value.int .i64) fun Ce=>Ld Cd (.add ⟨z8.drew.heap.size,0,none⟩ 1) (Value.int .i64) fun Dj=>Ld Cd (.add ⟨z8.drew.heap.size,0,none⟩ 2) (Value.int .i64) fun Nl=>Ld Cd (.add ⟨z8.drew.heap.size,0,none⟩ 3) (Value.int .i64) fun IA=>Ld Cd (.add ⟨z8.drew.heap.size,0,none⟩ 4) (Value.int .i64) fun Fy=>Ld Cd (.add ⟨z8.drew.heap.size,0,none⟩ 5) (Value.int .i64) fun UK=>Nn g1 fun a130=>St Cd a130 (.int .i64 Ce) fun z131=>St z131 (a130.add 1) (.int .i64 Dj) fun Fm=>St Fm (a130.add 2) (.int .i64 Nl) fun IB=>St IB (a130.add 3) (.int .i64 IA) fun Ka=>St Ka (a130.add 4) (.int .i64 Fy) fun CG=>St CG (a130.add 5) (.int .i64 UK) fun UY=>R UY) PR)) PR
theorem T40 (g1 o2 w R PR):S40 g1 o2 w R PR->C40 g1 (o2.1,o2.2.1,o2.2.2) w R PR:=Zf (.q (.q (.s (.BY (.held [18] (.take 0 (.take 1 (.take 2 (.take 3 (.take 4 (.take 5 (.take 6 (.take 7 (.take 8 (.take 9 (.take 10 (.take 11 (.take 12 (.take 13 (.take 14 (.take 15 (.take 16 (.take 17 (.Kl 18 (some [19]) (.BF 19 (some [20]) (.BF 20 (some []) .done)) (.BF 19 none (.BF 18 (some [20]) (.BF 20 (some []) .done)))))))))))))))))))))))) (.s (.BY (.held [5] (.take 0 (.take 1 (.take 2 (.take 3 (.take 4 (.BF 5 (some [9]) (.take 6 (.take 7 (.take 8 (.BF 9 (some []) (.take 10 .done))))))))))))) (.q .r))))) [.pointer g1,.agg #[.string o2.1,AA.v o2.2.1,.string o2.2.2]] Tryz.func40
def S41 (o1:Int×Int×Int×ByteArray×AA×AA)(w:World)(R:Q1 Int)(PR:Q1 Value):Prop:=Nw w (.cells #[.int .i64 (o1.1),.int .i64 (o1.2.1),.int .i64 (o1.2.2.1),.string o1.2.2.2.1,AA.v o1.2.2.2.2.1,AA.v o1.2.2.2.2.2] 68) fun z2=>Ld z2 ⟨w.heap.size,0,none⟩ (Value.int .i64) fun x3=>Ld z2 (.add ⟨w.heap.size,0,none⟩ 1) (Value.int .i64) fun x4=>Ld z2 (.add ⟨w.heap.size,0,none⟩ 2) (Value.int .i64) fun x5=>Ld z2 (.add ⟨w.heap.size,0,none⟩ 3) Value.string fun x6=>Ld z2 (.add ⟨w.heap.size,0,none⟩ 4) AA.v fun x7=>Ld z2 (.add ⟨w.heap.size,0,none⟩ 5) AA.v fun x8=>eW (x3,x4,x5,x6,x7,x8) z2 (fun r9 Ar=>Tp (decide (r9>=0)) 2 Ar (fun Dg=>R r9 Dg) PR) PR
theorem T41 (o1 w R PR):S41 o1 w R PR->xE (o1.1,o1.2.1,o1.2.2.1,o1.2.2.2.1,o1.2.2.2.2.1,o1.2.2.2.2.2) w R PR:=Jw oi (.q (.q (.q (.q .l)))) [.agg #[.int .i64 (o1.1),.int .i64 (o1.2.1),.int .i64 (o1.2.2.1),.string o1.2.2.2.1,AA.v o1.2.2.2.2.1,AA.v o1.2.2.2.2.2]] Tryz.func41
def S42 (o1:Int×Int×Int×ByteArray×AA×AA)(MI:Int)(w:World)(R:Q1 Int)(PR:Q1 Value):Prop:=Nw w (.cells #[.int .i64 (o1.1),.int .i64 (o1.2.1),.int .i64 (o1.2.2.1),.string o1.2.2.2.1,AA.v o1.2.2.2.2.1,AA.v o1.2.2.2.2.2] 68) fun z3=>Ld z3 ⟨w.heap.size,0,none⟩ (Value.int .i64) fun x4=>Ld z3 (.add ⟨w.heap.size,0,none⟩ 1) (Value.int .i64) fun x5=>Ld z3 (.add ⟨w.heap.size,0,none⟩ 2) (Value.int .i64) fun x6=>Ld z3 (.add ⟨w.heap.size,0,none⟩ 3) Value.string fun x7=>Ld z3 (.add ⟨w.heap.size,0,none⟩ 4) AA.v fun x8=>Ld z3 (.add ⟨w.heap.size,0,none⟩ 5) AA.v fun x9=>eW (x4,x5,x6,x7,x8,x9) z3 (fun Ng Dg=>Br (decide (Ng>=0)) (Br (decide (Ng<=(wrap .i64 (MI*10000)))) (Tp ((Int.tmod Ng 10000)==0) 2 Dg (fun z12=>R (wrap .i64 (Int.tdiv Ng 10000)) z12) PR) (Tp false 2 Dg (fun DF=>R (wrap .i64 (Int.tdiv Ng 10000)) DF) PR)) (Tp false 2 Dg (fun AM=>R (wrap .i64 (Int.tdiv Ng 10000)) AM) PR)) PR
theorem T42 (o1 MI w R PR):S42 o1 MI w R PR->C42 (o1.1,o1.2.1,o1.2.2.1,o1.2.2.2.1,o1.2.2.2.2.1,o1.2.2.2.2.2) MI w R PR:=Jw oi (.q (.q (.q (.q .l)))) [.agg #[.int .i64 (o1.1),.int .i64 (o1.2.1),.int .i64 (o1.2.2.1),.string o1.2.2.2.1,AA.v o1.2.2.2.2.1,AA.v o1.2.2.2.2.2],.int .i64 MI] Tryz.func42
def oo (w:World)(g1:Option Addr)(x6:AA)(R:Q0)(PR:Q1 Value)(I80:Q1 (AA×Int))(YW:AA×Int)(Cb:World):Prop:=Br (decide (YW.2<(x6.len:Int))) (0<=YW.2/\YW.2<(x6.len:Nat)/\Nn x6.p fun xG=>Ld Cb (xG.add ((YW.2).toNat*6)) (Value.int .i64) fun Ti=>Ld Cb ((xG.add ((YW.2).toNat*6)).add 1) (Value.int .i64) fun RL=>Ld Cb ((xG.add ((YW.2).toNat*6)).add 2) (Value.int .i64) fun Re=>Ld Cb ((xG.add ((YW.2).toNat*6)).add 3) Value.string fun Qt=>Ld Cb ((xG.add ((YW.2).toNat*6)).add 4) AA.v fun kb=>Ld Cb ((xG.add ((YW.2).toNat*6)).add 5) AA.v fun X9=>Nw Cb (.cells #[.int .i64 0,.int .i64 0,.int .i64 0,.string (⟨#[]⟩:cI),AA.v ⟨none,0,0⟩,AA.v ⟨none,0,0⟩] 68) fun Ui=>St Ui ⟨Cb.heap.size,0,none⟩ (.int .i64 Ti) fun PX=>St PX (.add ⟨Cb.heap.size,0,none⟩ 1) (.int .i64 RL) fun Uj=>St Uj (.add ⟨Cb.heap.size,0,none⟩ 2) (.int .i64 Re) fun z91=>St z91 (.add ⟨Cb.heap.size,0,none⟩ 3) (.string Qt) fun OH=>St OH (.add ⟨Cb.heap.size,0,none⟩ 4) (AA.v kb) fun z93=>St z93 (.add ⟨Cb.heap.size,0,none⟩ 5) (AA.v X9) fun Tj=>Ld Tj ⟨Cb.heap.size,0,none⟩ (Value.int .i64) fun db=>Ld Tj (.add ⟨Cb.heap.size,0,none⟩ 1) (Value.int .i64) fun x96=>Ld Tj (.add ⟨Cb.heap.size,0,none⟩ 2) (Value.int .i64) fun oA=>Ld Tj (.add ⟨Cb.heap.size,0,none⟩ 3) Value.string fun wy=>Ld Tj (.add ⟨Cb.heap.size,0,none⟩ 4) AA.v fun wz=>Ld Tj (.add ⟨Cb.heap.size,0,none⟩ 5) AA.v fun Pn=>xE (db,x96,oA,wy,wz,Pn) Tj (fun sy D5=>Nw D5 (.cells #[.int .i64 sy] 2) fun Fj=>Rn prog (Builtin.append_ #[34,34] 34 #[AA.v YW.1,AA.v ⟨some ⟨D5.heap.size,0,none⟩,1,1⟩]) Fj AA.v fun Lf z105=>I80 (Lf,wrap .i64 (YW.2+1)) z105) PR) (Ld Cb (.add ⟨w.heap.size,0,none⟩ 1) AA.v fun II=>0<=(1:Int)/\(1:Int)<(II.len:Nat)/\Nn II.p fun a107=>Ld Cb (a107.add (((1:Int)).toNat*6)) (Value.int .i64) fun PY=>Ld Cb ((a107.add (((1:Int)).toNat*6)).add 1) (Value.int .i64) fun Ls=>Ld Cb ((a107.add (((1:Int)).toNat*6)).add 2) (Value.int .i64) fun IK=>Ld Cb ((a107.add (((1:Int)).toNat*6)).add 3) Value.string fun PZ=>Ld Cb ((a107.add (((1:Int)).toNat*6)).add 4) AA.v fun Ny=>Ld Cb ((a107.add (((1:Int)).toNat*6)).add 5) AA.v fun PO=>xE (PY,Ls,IK,PZ,Ny,PO) Cb (fun F0 Ed=>Nn g1 fun a116=>St Ed (a116.add 11) (.int .i64 F0) fun z117=>Nn g1 fun tM=>St z117 (tM.add 10) (AA.v YW.1) fun z119=>R z119) PR)
def oq (w:World)(g1:Option Addr)(x6:AA)(R:Q0)(PR:Q1 Value)(I31:Q1 Int)(eZ:Int)(B3:World):Prop:=Br (decide (eZ<(x6.len:Int))) (0<=eZ/\eZ<(x6.len:Nat)/\Nn x6.p fun xH=>Ld B3 (xH.add ((eZ).toNat*6)) (Value.int .i64) fun N2=>Ld B3 ((xH.add ((eZ).toNat*6)).add 1) (Value.int .i64) fun Ph=>Ld B3 ((xH.add ((eZ).toNat*6)).add 2) (Value.int .i64) fun IF=>Ld B3 ((xH.add ((eZ).toNat*6)).add 3) Value.string fun Hl=>Ld B3 ((xH.add ((eZ).toNat*6)).add 4) AA.v fun J8=>Ld B3 ((xH.add ((eZ).toNat*6)).add 5) AA.v fun I1=>Nw B3 (.cells #[.int .i64 0,.int .i64 0,.int .i64 0,.string (⟨#[]⟩:cI),AA.v ⟨none,0,0⟩,AA.v ⟨none,0,0⟩] 68) fun JJ=>St JJ ⟨B3.heap.size,0,none⟩ (.int .i64 N2) fun z40=>St z40 (.add ⟨B3.heap.size,0,none⟩ 1) (.int .i64 Ph) fun Qp=>St Qp (.add ⟨B3.heap.size,0,none⟩ 2) (.int .i64 IF) fun Gh=>St Gh (.add ⟨B3.heap.size,0,none⟩ 3) (.string Hl) fun V9=>St V9 (.add ⟨B3.heap.size,0,none⟩ 4) (AA.v J8) fun I0=>St I0 (.add ⟨B3.heap.size,0,none⟩ 5) (AA.v I1) fun Qo=>Ld Qo ⟨B3.heap.size,0,none⟩ (Value.int .i64) fun Gi=>Br (Gi==2) (Tp true 28 Qo (fun DY=>I31 (wrap .i64 (eZ+1)) DY) PR) (Ld Qo ⟨B3.heap.size,0,none⟩ (Value.int .i64) fun ID=>Tp (ID==3) 28 Qo (fun z49=>I31 (wrap .i64 (eZ+1)) z49) PR)) (Lp (σ:=AA×Int) (oo w g1 x6 R PR) ((⟨none,0,0⟩:AA),0) B3)
def S43 (g1:Option Addr)(o2:ByteArray×AA×ByteArray)(w:World)(R:Q0)(PR:Q1 Value):Prop:=Nw w (.cells #[.string o2.1,AA.v o2.2.1,.string o2.2.2] 33) fun z3=>Ld z3 (.add ⟨w.heap.size,0,none⟩ 1) AA.v fun x4=>0<=(0:Int)/\(0:Int)<(x4.len:Nat)/\Nn x4.p fun a5=>Ld z3 ((a5.add (((0:Int)).toNat*6)).add 5) AA.v fun x6=>Tp (decide ((x6.len:Int)<=32)) 6 z3 (fun z7=>Lp (σ:=Int) (oq w g1 x6 R PR) 0 z7) PR
theorem T43 (g1 o2 w R PR):S43 g1 o2 w R PR->C43 g1 (o2.1,o2.2.1,o2.2.2) w R PR:=Zf (.q (.q (.q (.s (.q (.b (.o [(21,oi)] [0,3,4,19,20] (.q (.s (.c .l .l) (.s (.b (.q .r)) .r)))))) (.q (.s (.q (.b (.o [(7,ol),(37,oi)] [0,3,35,36] (.q (.s (.c .l .l) (.s (.b (.q .r)) .r)))))) (.q .r))))))) [.pointer g1,.agg #[.string o2.1,AA.v o2.2.1,.string o2.2.2]] Tryz.func43
def ot (FD:Int)(z3:World)(z4:World)(Cp:AA)(R:Q1 (Int×Int×Int×Int×Int))(PR:Q1 Value)(xB:Q1 Int)(KB:Int)(CQ:World):Prop:=Br (decide (KB<(Cp.len:Int))) (0<=KB/\KB<(Cp.len:Nat)/\Nn Cp.p fun a28=>Ld CQ (a28.add ((KB).toNat*1)) (Value.int .i64) fun Fz=>Br (decide (Fz>=0)) (Tp (decide (Fz<=10000)) 2 CQ (fun B3=>0<=KB/\KB<(4:Nat)/\St B3 ((⟨z4.heap.size,0,none⟩:Addr).add ((KB).toNat*1)) (.int .i64 Fz) fun z31=>xB (wrap .i64 (KB+1)) z31) PR) (Tp false 2 CQ (fun IE=>0<=KB/\KB<(4:Nat)/\St IE ((⟨z4.heap.size,0,none⟩:Addr).add ((KB).toNat*1)) (.int .i64 Fz) fun Fl=>xB (wrap .i64 (KB+1)) Fl) PR)) (Ld CQ ⟨z4.heap.size,0,none⟩ (Value.int .i64) fun Ph=>Ld CQ (.add ⟨z4.heap.size,0,none⟩ 1) (Value.int .i64) fun IF=>Ld CQ (.add ⟨z4.heap.size,0,none⟩ 2) (Value.int .i64) fun Hl=>Ld CQ (.add ⟨z4.heap.size,0,none⟩ 3) (Value.int .i64) fun J8=>St CQ ⟨z3.heap.size,0,none⟩ (.int .i64 FD) fun PK=>St PK (.add ⟨z3.heap.size,0,none⟩ 1) (.int .i64 Ph) fun JJ=>St JJ (.add ⟨z3.heap.size,0,none⟩ 2) (.int .i64 IF) fun z40=>St z40 (.add ⟨z3.heap.size,0,none⟩ 3) (.int .i64 Hl) fun Qp=>St Qp (.add ⟨z3.heap.size,0,none⟩ 4) (.int .i64 J8) fun Gh=>Ld Gh ⟨z3.heap.size,0,none⟩ (Value.int .i64) fun Kh=>Ld Gh (.add ⟨z3.heap.size,0,none⟩ 1) (Value.int .i64) fun Ho=>Ld Gh (.add ⟨z3.heap.size,0,none⟩ 2) (Value.int .i64) fun Gy=>Ld Gh (.add ⟨z3.heap.size,0,none⟩ 3) (Value.int .i64) fun Gi=>Ld Gh (.add ⟨z3.heap.size,0,none⟩ 4) (Value.int .i64) fun Gj=>R (Kh,Ho,Gy,Gi,Gj) Gh)
def S44 (FD:Int)(o2:ByteArray×AA×ByteArray)(w:World)(R:Q1 (Int×Int×Int×Int×Int))(PR:Q1 Value):Prop:=Nw w (.cells #[.string o2.1,AA.v o2.2.1,.string o2.2.2] 33) fun z3=>Nw z3 (.cells #[.int .i64 0,.int .i64 0,.int .i64 0,.int .i64 0,.int .i64 0] 36) fun z4=>Nw z4 (.cells #[.int .i64 0,.int .i64 0,.int .i64 0,.int .i64 0] 129) fun z5=>Ld z5 ⟨w.heap.size,0,none⟩ Value.string fun Gn=>Ld z5 (.add ⟨w.heap.size,0,none⟩ 1) AA.v fun Hm=>Ld z5 (.add ⟨w.heap.size,0,none⟩ 2) Value.string fun J0=>C63 (Gn,Hm,J0) z5 (fun Cp z24=>Lp (σ:=Int) (ot FD z3 z4 Cp R PR) 0 z24) PR
theorem T44 (FD o2 w R PR):S44 FD o2 w R PR->og FD (o2.1,o2.2.1,o2.2.2) w R PR:=Jw (.agg [(.int .i64),(.int .i64),(.int .i64),(.int .i64),(.int .i64)]) (.q (.q (.s (.q (.b (.o [(11,oi)] [0,4,5,9,10] (.q (.s (.c .l .l) (.s (.b (.q (.q .r))) .r)))))) (.q .l)))) [.int .i64 FD,.agg #[.string o2.1,AA.v o2.2.1,.string o2.2.2]] Tryz.func44
def S45 (t1:Option Addr)(o2:ByteArray×AA×ByteArray)(w:World)(R:Q1 Bool)(PR:Q1 Value):Prop:=Nw w (.cells #[.string o2.1,AA.v o2.2.1,.string o2.2.2] 33) fun z3=>Ld z3 ⟨w.heap.size,0,none⟩ Value.string fun x4=>Br (x4.toList==(⟨#[84,99]⟩:cI).toList) (Ld z3 (.add ⟨w.heap.size,0,none⟩ 1) AA.v fun x5=>0<=(0:Int)/\(0:Int)<(x5.len:Nat)/\Nn x5.p fun a6=>Ld z3 (a6.add (((0:Int)).toNat*6)) (Value.int .i64) fun x7=>Ld z3 ((a6.add (((0:Int)).toNat*6)).add 1) (Value.int .i64) fun x8=>Ld z3 ((a6.add (((0:Int)).toNat*6)).add 2) (Value.int .i64) fun x9=>Ld z3 ((a6.add (((0:Int)).toNat*6)).add 3) Value.string fun EB=>Ld z3 ((a6.add (((0:Int)).toNat*6)).add 4) AA.v fun Ef=>Ld z3 ((a6.add (((0:Int)).toNat*6)).add 5) AA.v fun GN=>eW (x7,x8,x9,EB,Ef,GN) z3 (fun za AM=>Nn t1 fun a15=>St AM a15 (.int .i64 za) fun EX=>R true EX) PR) (Br (x4.toList==(⟨#[84,119]⟩:cI).toList) (Ld z3 (.add ⟨w.heap.size,0,none⟩ 1) AA.v fun Jv=>0<=(0:Int)/\(0:Int)<(Jv.len:Nat)/\Nn Jv.p fun xI=>Ld z3 (xI.add (((0:Int)).toNat*6)) (Value.int .i64) fun HG=>Ld z3 ((xI.add (((0:Int)).toNat*6)).add 1) (Value.int .i64) fun Gn=>Ld z3 ((xI.add (((0:Int)).toNat*6)).add 2) (Value.int .i64) fun Hm=>Ld z3 ((xI.add (((0:Int)).toNat*6)).add 3) Value.string fun J0=>Ld z3 ((xI.add (((0:Int)).toNat*6)).add 4) AA.v fun Uy=>Ld z3 ((xI.add (((0:Int)).toNat*6)).add 5) AA.v fun DZ=>eW (HG,Gn,Hm,J0,Uy,DZ) z3 (fun GO CQ=>Nn t1 fun zi=>St CQ (zi.add 1) (.int .i64 GO) fun z28=>R true z28) PR) (Br (x4.toList==(⟨#[84,122]⟩:cI).toList) (Ld z3 (.add ⟨w.heap.size,0,none⟩ 1) AA.v fun Fz=>0<=(0:Int)/\(0:Int)<(Fz.len:Nat)/\Nn Fz.p fun jr=>Ld z3 (jr.add (((0:Int)).toNat*6)) (Value.int .i64) fun Pd=>Ld z3 ((jr.add (((0:Int)).toNat*6)).add 1) (Value.int .i64) fun Pe=>Ld z3 ((jr.add (((0:Int)).toNat*6)).add 2) (Value.int .i64) fun N2=>Ld z3 ((jr.add (((0:Int)).toNat*6)).add 3) Value.string fun Ph=>Ld z3 ((jr.add (((0:Int)).toNat*6)).add 4) AA.v fun IF=>Ld z3 ((jr.add (((0:Int)).toNat*6)).add 5) AA.v fun Hl=>eW (Pd,Pe,N2,Ph,IF,Hl) z3 (fun r37 PK=>Nn t1 fun qh=>St PK (qh.add 2) (.int .i64 r37) fun z40=>R true z40) PR) (Br (x4.toList==(⟨#[84,76]⟩:cI).toList) (Ld z3 (.add ⟨w.heap.size,0,none⟩ 1) AA.v fun Kg=>0<=(0:Int)/\(0:Int)<(Kg.len:Nat)/\Nn Kg.p fun oQ=>Ld z3 (oQ.add (((0:Int)).toNat*6)) (Value.int .i64) fun Kh=>Ld z3 ((oQ.add (((0:Int)).toNat*6)).add 1) (Value.int .i64) fun Ho=>Ld z3 ((oQ.add (((0:Int)).toNat*6)).add 2) (Value.int .i64) fun Gy=>Ld z3 ((oQ.add (((0:Int)).toNat*6)).add 3) Value.string fun Gi=>Ld z3 ((oQ.add (((0:Int)).toNat*6)).add 4) AA.v fun Gj=>Ld z3 ((oQ.add (((0:Int)).toNat*6)).add 5) AA.v fun ID=>eW (Kh,Ho,Gy,Gi,Gj,ID) z3 (fun WM HE=>Nn t1 fun a51=>St HE (a51.add 3) (.int .i64 WM) fun cR=>R true cR) PR) (Br (x4.toList==(⟨#[84,115]⟩:cI).toList) (Ld z3 (.add ⟨w.heap.size,0,none⟩ 1) AA.v fun Ll=>0<=(0:Int)/\(0:Int)<(Ll.len:Nat)/\Nn Ll.p fun xJ=>Ld z3 (xJ.add (((0:Int)).toNat*6)) (Value.int .i64) fun Un=>Ld z3 ((xJ.add (((0:Int)).toNat*6)).add 1) (Value.int .i64) fun Nz=>Ld z3 ((xJ.add (((0:Int)).toNat*6)).add 2) (Value.int .i64) fun Qw=>Ld z3 ((xJ.add (((0:Int)).toNat*6)).add 3) Value.string fun N0=>Ld z3 ((xJ.add (((0:Int)).toNat*6)).add 4) AA.v fun Um=>Ld z3 ((xJ.add (((0:Int)).toNat*6)).add 5) AA.v fun OI=>eW (Un,Nz,Qw,N0,Um,OI) z3 (fun yh To=>Nn t1 fun om=>St To (om.add 5) (.int .i64 yh) fun dY=>R true dY) PR) (Br (x4.toList==(⟨#[84,102]⟩:cI).toList) (Ld z3 (.add ⟨w.heap.size,0,none⟩ 1) AA.v fun Rc=>0<=(1:Int)/\(1:Int)<(Rc.len:Nat)/\Nn Rc.p fun xK=>Ld z3 (xK.add (((1:Int)).toNat*6)) (Value.int .i64) fun dq=>Ld z3 ((xK.add (((1:Int)).toNat*6)).add 1) (Value.int .i64) fun Nv=>Ld z3 ((xK.add (((1:Int)).toNat*6)).add 2) (Value.int .i64) fun WI=>Ld z3 ((xK.add (((1:Int)).toNat*6)).add 3) Value.string fun kj=>Ld z3 ((xK.add (((1:Int)).toNat*6)).add 4) AA.v fun kk=>Ld z3 ((xK.add (((1:Int)).toNat*6)).add 5) AA.v fun YE=>eW (dq,Nv,WI,kj,kk,YE) z3 (fun r73 Gg=>Ld Gg (.add ⟨w.heap.size,0,none⟩ 1) AA.v fun Zg=>0<=(0:Int)/\(0:Int)<(Zg.len:Nat)/\Nn Zg.p fun a76=>Ld Gg ((a76.add (((0:Int)).toNat*6)).add 3) Value.string fun ku=>Nn t1 fun a78=>St Gg (a78.add 6) (.string ku) fun Cb=>Nn t1 fun a80=>St Cb (a80.add 4) (.int .i64 r73) fun Th=>R true Th) PR) (Br (x4.toList==(⟨#[84,114]⟩:cI).toList) (Ld z3 (.add ⟨w.heap.size,0,none⟩ 1) AA.v fun Ti=>0<=(0:Int)/\(0:Int)<(Ti.len:Nat)/\Nn Ti.p fun xL=>Ld z3 (xL.add (((0:Int)).toNat*6)) (Value.int .i64) fun Re=>Ld z3 ((xL.add (((0:Int)).toNat*6)).add 1) (Value.int .i64) fun Qt=>Ld z3 ((xL.add (((0:Int)).toNat*6)).add 2) (Value.int .i64) fun kb=>Ld z3 ((xL.add (((0:Int)).toNat*6)).add 3) Value.string fun X9=>Ld z3 ((xL.add (((0:Int)).toNat*6)).add 4) AA.v fun Zj=>Ld z3 ((xL.add (((0:Int)).toNat*6)).add 5) AA.v fun WG=>C42 (Re,Qt,kb,X9,Zj,WG) 7 z3 (fun r90 z91=>Nn t1 fun a92=>St z91 (a92.add 7) (.int .i64 r90) fun z93=>R true z93) PR) (R false z3)))))))
theorem T45 (t1 o2 w R PR):S45 t1 o2 w R PR->C45 t1 (o2.1,o2.2.1,o2.2.2) w R PR:=Jw ob (.q (.s (.q (.b (.q (.c .r (.q (.c .r (.q (.c .r (.q (.c .r (.q (.c .r (.q (.c (.q .r) (.q (.c .r (.q .l))))))))))))))))) (.q .l))) [.pointer t1,.agg #[.string o2.1,AA.v o2.2.1,.string o2.2.2]] Tryz.func45
def S21 (g1:Option Addr)(o2:ByteArray×AA×ByteArray)(w:World)(R:Q1 Bool)(PR:Q1 Value):Prop:=Nw w (.cells #[.string o2.1,AA.v o2.2.1,.string o2.2.2] 33) fun z3=>Ld z3 ⟨w.heap.size,0,none⟩ Value.string fun x4=>Br (x4.toList==(⟨#[99,109]⟩:cI).toList) (Ld z3 ⟨w.heap.size,0,none⟩ Value.string fun AHv=>Ld z3 (.add ⟨w.heap.size,0,none⟩ 1) AA.v fun AHw=>Ld z3 (.add ⟨w.heap.size,0,none⟩ 2) Value.string fun AHx=>C40 g1 (AHv,AHw,AHx) z3 (fun AHy=>R true AHy) PR) (Br (x4.toList==(⟨#[119]⟩:cI).toList) (Ld z3 (.add ⟨w.heap.size,0,none⟩ 1) AA.v fun AAI=>0<=(0:Int)/\(0:Int)<(AAI.len:Nat)/\Nn AAI.p fun YX=>Ld z3 (YX.add (((0:Int)).toNat*6)) (Value.int .i64) fun AHz=>Ld z3 ((YX.add (((0:Int)).toNat*6)).add 1) (Value.int .i64) fun AH0=>Ld z3 ((YX.add (((0:Int)).toNat*6)).add 2) (Value.int .i64) fun AH1=>Ld z3 ((YX.add (((0:Int)).toNat*6)).add 3) Value.string fun AH2=>Ld z3 ((YX.add (((0:Int)).toNat*6)).add 4) AA.v fun AH3=>Ld z3 ((YX.add (((0:Int)).toNat*6)).add 5) AA.v fun AH4=>xE (AHz,AH0,AH1,AH2,AH3,AH4) z3 (fun AH5 AH6=>Nn g1 fun AH7=>St AH6 (AH7.add 6) (.int .i64 AH5) fun AH8=>R true AH8) PR) (Br (x4.toList==(⟨#[77]⟩:cI).toList) (Ld z3 (.add ⟨w.heap.size,0,none⟩ 1) AA.v fun AAJ=>0<=(0:Int)/\(0:Int)<(AAJ.len:Nat)/\Nn AAJ.p fun YY=>Ld z3 (YY.add (((0:Int)).toNat*6)) (Value.int .i64) fun AH9=>Ld z3 ((YY.add (((0:Int)).toNat*6)).add 1) (Value.int .i64) fun AIA=>Ld z3 ((YY.add (((0:Int)).toNat*6)).add 2) (Value.int .i64) fun AIB=>Ld z3 ((YY.add (((0:Int)).toNat*6)).add 3) Value.string fun AIC=>Ld z3 ((YY.add (((0:Int)).toNat*6)).add 4) AA.v fun AID=>Ld z3 ((YY.add (((0:Int)).toNat*6)).add 5) AA.v fun AIE=>xE (AH9,AIA,AIB,AIC,AID,AIE) z3 (fun AIF AIH=>Nn g1 fun AII=>St AIH (AII.add 9) (.int .i64 AIF) fun AIJ=>R true AIJ) PR) (Br (x4.toList==(⟨#[74]⟩:cI).toList) (Ld z3 (.add ⟨w.heap.size,0,none⟩ 1) AA.v fun AAK=>0<=(0:Int)/\(0:Int)<(AAK.len:Nat)/\Nn AAK.p fun YZ=>Ld z3 (YZ.add (((0:Int)).toNat*6)) (Value.int .i64) fun AIK=>Ld z3 ((YZ.add (((0:Int)).toNat*6)).add 1) (Value.int .i64) fun AIL=>Ld z3 ((YZ.add (((0:Int)).toNat*6)).add 2) (Value.int .i64) fun AIM=>Ld z3 ((YZ.add (((0:Int)).toNat*6)).add 3) Value.string fun AIN=>Ld z3 ((YZ.add (((0:Int)).toNat*6)).add 4) AA.v fun AIO=>Ld z3 ((YZ.add (((0:Int)).toNat*6)).add 5) AA.v fun AIP=>C42 (AIK,AIL,AIM,AIN,AIO,AIP) 2 z3 (fun AIQ AIR=>Nn g1 fun AIS=>St AIR (AIS.add 7) (.int .i64 AIQ) fun AIT=>R true AIT) PR) (Br (x4.toList==(⟨#[106]⟩:cI).toList) (Ld z3 (.add ⟨w.heap.size,0,none⟩ 1) AA.v fun AAL=>0<=(0:Int)/\(0:Int)<(AAL.len:Nat)/\Nn AAL.p fun Ya=>Ld z3 (Ya.add (((0:Int)).toNat*6)) (Value.int .i64) fun AIU=>Ld z3 ((Ya.add (((0:Int)).toNat*6)).add 1) (Value.int .i64) fun AIV=>Ld z3 ((Ya.add (((0:Int)).toNat*6)).add 2) (Value.int .i64) fun AIW=>Ld z3 ((Ya.add (((0:Int)).toNat*6)).add 3) Value.string fun AIX=>Ld z3 ((Ya.add (((0:Int)).toNat*6)).add 4) AA.v fun AIY=>Ld z3 ((Ya.add (((0:Int)).toNat*6)).add 5) AA.v fun AIZ=>C42 (AIU,AIV,AIW,AIX,AIY,AIZ) 2 z3 (fun AIa AIb=>Nn g1 fun AIc=>St AIb (AIc.add 8) (.int .i64 AIa) fun AId=>R true AId) PR) (Br (x4.toList==(⟨#[100]⟩:cI).toList) (Ld z3 ⟨w.heap.size,0,none⟩ Value.string fun AIe=>Ld z3 (.add ⟨w.heap.size,0,none⟩ 1) AA.v fun AIf=>Ld z3 (.add ⟨w.heap.size,0,none⟩ 2) Value.string fun AIg=>C43 g1 (AIe,AIf,AIg) z3 (fun AIh=>R true AIh) PR) (Br (x4.toList==(⟨#[103]⟩:cI).toList) (Ld z3 ⟨w.heap.size,0,none⟩ Value.string fun AIi=>Ld z3 (.add ⟨w.heap.size,0,none⟩ 1) AA.v fun AIj=>Ld z3 (.add ⟨w.heap.size,0,none⟩ 2) Value.string fun AIk=>og 0 (AIi,AIj,AIk) z3 (fun ea AIl=>Nn g1 fun ec=>St AIl (ec.add 12) (.int .i64 (ea.1)) fun AIm=>St AIm ((ec.add 12).add 1) (.int .i64 (ea.2.1)) fun AIn=>St AIn ((ec.add 12).add 2) (.int .i64 (ea.2.2.1)) fun AIo=>St AIo ((ec.add 12).add 3) (.int .i64 (ea.2.2.2.1)) fun AIp=>St AIp ((ec.add 12).add 4) (.int .i64 (ea.2.2.2.2)) fun AIq=>R true AIq) PR) (Br (x4.toList==(⟨#[71]⟩:cI).toList) (Ld z3 ⟨w.heap.size,0,none⟩ Value.string fun AIr=>Ld z3 (.add ⟨w.heap.size,0,none⟩ 1) AA.v fun AIs=>Ld z3 (.add ⟨w.heap.size,0,none⟩ 2) Value.string fun AIt=>og 0 (AIr,AIs,AIt) z3 (fun ee AIu=>Nn g1 fun ef=>St AIu (ef.add 17) (.int .i64 (ee.1)) fun AIv=>St AIv ((ef.add 17).add 1) (.int .i64 (ee.2.1)) fun AIw=>St AIw ((ef.add 17).add 2) (.int .i64 (ee.2.2.1)) fun AIx=>St AIx ((ef.add 17).add 3) (.int .i64 (ee.2.2.2.1)) fun AIy=>St AIy ((ef.add 17).add 4) (.int .i64 (ee.2.2.2.2)) fun AIz=>R true AIz) PR) (Br (x4.toList==(⟨#[114,103]⟩:cI).toList) (Ld z3 ⟨w.heap.size,0,none⟩ Value.string fun AI0=>Ld z3 (.add ⟨w.heap.size,0,none⟩ 1) AA.v fun AI1=>Ld z3 (.add ⟨w.heap.size,0,none⟩ 2) Value.string fun AI2=>og 1 (AI0,AI1,AI2) z3 (fun eg AI3=>Nn g1 fun eh=>St AI3 (eh.add 12) (.int .i64 (eg.1)) fun AI4=>St AI4 ((eh.add 12).add 1) (.int .i64 (eg.2.1)) fun AI5=>St AI5 ((eh.add 12).add 2) (.int .i64 (eg.2.2.1)) fun AI6=>St AI6 ((eh.add 12).add 3) (.int .i64 (eg.2.2.2.1)) fun AI7=>St AI7 ((eh.add 12).add 4) (.int .i64 (eg.2.2.2.2)) fun AI8=>R true AI8) PR) (Br (x4.toList==(⟨#[82,71]⟩:cI).toList) (Ld z3 ⟨w.heap.size,0,none⟩ Value.string fun AI9=>Ld z3 (.add ⟨w.heap.size,0,none⟩ 1) AA.v fun AJA=>Ld z3 (.add ⟨w.heap.size,0,none⟩ 2) Value.string fun AJB=>og 1 (AI9,AJA,AJB) z3 (fun ei AJC=>Nn g1 fun ej=>St AJC (ej.add 17) (.int .i64 (ei.1)) fun AJD=>St AJD ((ej.add 17).add 1) (.int .i64 (ei.2.1)) fun AJE=>St AJE ((ej.add 17).add 2) (.int .i64 (ei.2.2.1)) fun AJF=>St AJF ((ej.add 17).add 3) (.int .i64 (ei.2.2.2.1)) fun AJG=>St AJG ((ej.add 17).add 4) (.int .i64 (ei.2.2.2.2)) fun AJH=>R true AJH) PR) (Br (x4.toList==(⟨#[107]⟩:cI).toList) (Ld z3 ⟨w.heap.size,0,none⟩ Value.string fun AJI=>Ld z3 (.add ⟨w.heap.size,0,none⟩ 1) AA.v fun AJJ=>Ld z3 (.add ⟨w.heap.size,0,none⟩ 2) Value.string fun AJK=>og 2 (AJI,AJJ,AJK) z3 (fun ek AJL=>Nn g1 fun eo=>St AJL (eo.add 12) (.int .i64 (ek.1)) fun AJM=>St AJM ((eo.add 12).add 1) (.int .i64 (ek.2.1)) fun AJN=>St AJN ((eo.add 12).add 2) (.int .i64 (ek.2.2.1)) fun AJO=>St AJO ((eo.add 12).add 3) (.int .i64 (ek.2.2.2.1)) fun AJP=>St AJP ((eo.add 12).add 4) (.int .i64 (ek.2.2.2.2)) fun AJQ=>R true AJQ) PR) (Br (x4.toList==(⟨#[75]⟩:cI).toList) (Ld z3 ⟨w.heap.size,0,none⟩ Value.string fun AJR=>Ld z3 (.add ⟨w.heap.size,0,none⟩ 1) AA.v fun AJS=>Ld z3 (.add ⟨w.heap.size,0,none⟩ 2) Value.string fun AJT=>og 2 (AJR,AJS,AJT) z3 (fun ep AJU=>Nn g1 fun ew=>St AJU (ew.add 17) (.int .i64 (ep.1)) fun AJV=>St AJV ((ew.add 17).add 1) (.int .i64 (ep.2.1)) fun AJW=>St AJW ((ew.add 17).add 2) (.int .i64 (ep.2.2.1)) fun AJX=>St AJX ((ew.add 17).add 3) (.int .i64 (ep.2.2.2.1)) fun AJY=>St AJY ((ew.add 17).add 4) (.int .i64 (ep.2.2.2.2)) fun AJZ=>R true AJZ) PR) (Br (x4.toList==(⟨#[105]⟩:cI).toList) (R true z3) (Br (x4.toList==(⟨#[114,105]⟩:cI).toList) (Br (x4.toList==(⟨#[114,105]⟩:cI).toList) (R true z3) (Nn g1 fun AJa=>Ld z3.drew ⟨w.heap.size,0,none⟩ Value.string fun AJb=>Ld z3.drew (.add ⟨w.heap.size,0,none⟩ 1) AA.v fun AJc=>Ld z3.drew (.add ⟨w.heap.size,0,none⟩ 2) Value.string fun AJd=>C45 (some (AJa.add 22)) (AJb,AJc,AJd) z3.drew (fun AJe AJf=>R AJe AJf) PR)) (Br (x4.toList==(⟨#[103,115]⟩:cI).toList) (R true z3) (Nn g1 fun AJg=>Ld z3.drew ⟨w.heap.size,0,none⟩ Value.string fun AJh=>Ld z3.drew (.add ⟨w.heap.size,0,none⟩ 1) AA.v fun AJi=>Ld z3.drew (.add ⟨w.heap.size,0,none⟩ 2) Value.string fun AJj=>C45 (some (AJg.add 22)) (AJh,AJi,AJj) z3.drew (fun AJk AJl=>R AJk AJl) PR)))))))))))))))
theorem T21 (g1 o2 w R PR):S21 g1 o2 w R PR->C21 g1 (o2.1,o2.2.1,o2.2.2) w R PR:=Jw ob (.q (.s (.q (.b (.s (.b (.s (.b (.b (.s (.b (.s (.b (.s (.b (.s (.b (.s (.b (.s (.b (.s (.b (.s (.b (.s (.b (.s (.b (.s (.b (.s (.b (.s (.s (.q (.c .l .l)) (.s (.q (.c .l .l)) (.s (.q (.c .l .l)) (.s (.q (.c .l .l)) (.s (.q (.c .l .l)) (.s (.q (.c .l .l)) (.s (.q (.c .l .l)) (.s (.q (.c .l .l)) (.s (.q (.c .l .l)) (.s (.q (.c .l .l)) (.s (.q (.c .l .l)) (.s (.q (.c .l .l)) (.s (.q (.c .l .l)) (.s (.q (.c .l .r)) (.c .l .l))))))))))))))) .l)) (.q .l))) (.q .l))) (.q .l))) (.q .l))) (.q .l))) (.q .l))) (.q .l))) (.q .l))) (.q .l))) (.q .l))) (.q .l))) (.q .l)))) (.s (.q .l) .l))) (.s (.s (.BY (.tail 4)) .l) .l)))) (.q .l))) [.pointer g1,.agg #[.string o2.1,AA.v o2.2.1,.string o2.2.2]] Tryz.func21
def S6P (z3:World)(R:Q1 Int)(Gn:Value)(Bz:World):Prop:=MH ⟨z3.heap.size,0,none⟩ (some Gn) Bz fun z21=>Ld z21 ⟨z3.heap.size,0,none⟩ (Value.int .i64) fun J0=>R J0 z21
def S6 (x1:Option Addr)(o2:ByteArray×AA×ByteArray)(w:World)(R:Q1 Int):Prop:=Nw w (.cells #[.string o2.1,AA.v o2.2.1,.string o2.2.2] 33) fun z3=>Nw z3 (.cells #[.int .i64 0] 28) fun z4=>Br x1.isNone (St z4 ⟨z3.heap.size,0,none⟩ (.int .i64 1) fun z5=>Ld z5 ⟨z3.heap.size,0,none⟩ (Value.int .i64) fun x6=>R x6 z5) (Ld z4 ⟨w.heap.size,0,none⟩ Value.string fun x7=>C16 x7 z4 fun r8 z9=>Br (!r8) (St z9 ⟨z3.heap.size,0,none⟩ (.int .i64 8) fun Ar=>Ld Ar ⟨z3.heap.size,0,none⟩ (Value.int .i64) fun Ef=>R Ef Ar) (Ld z9 ⟨w.heap.size,0,none⟩ Value.string fun GN=>Ld z9 (.add ⟨w.heap.size,0,none⟩ 1) AA.v fun JK=>Ld z9 (.add ⟨w.heap.size,0,none⟩ 2) Value.string fun Nj=>C17 (GN,JK,Nj) z9 fun xC EX=>Br (xC !=0) (St EX ⟨z3.heap.size,0,none⟩ (.int .i64 xC) fun JE=>Ld JE ⟨z3.heap.size,0,none⟩ (Value.int .i64) fun PU=>R PU JE) (Nn x1 fun zk=>Ld EX (zk.add 30) AA.v fun DZ=>Ld EX ⟨w.heap.size,0,none⟩ Value.string fun WE=>Br (WE.toList==(⟨#[113]⟩:cI).toList) (Tp (decide ((DZ.len:Int)<28)) 6 EX (fun CQ=>∃ey:World->Prop,ey CQ.drew/\Nn x1 fun a28=>AP ey (a28.add 30) AA.v fun Fz=>0<=(DZ.len:Int)/\(DZ.len:Int)<=(Fz.cap:Int)/\0<=(DZ.len:Int)/\(DZ.len:Int)<=((((DZ.len:Int)).toNat:Nat):Int)/\Nn x1 fun jr=>Am ey jr 0 A0 fun Pd=>C20 Pd CQ.drew fun EY Fl=>ey Fl/\Nw Fl (.cells #[.int .i64 (EY.1),.int .i64 (EY.2.1),.int .i64 (EY.2.2.1),.int .i64 (EY.2.2.2.1),.int .i64 (EY.2.2.2.2.1),.int .i64 (EY.2.2.2.2.2.1),.int .i64 (EY.2.2.2.2.2.2.1),.int .i64 (EY.2.2.2.2.2.2.2.1),.int .i64 (EY.2.2.2.2.2.2.2.2.1),.int .i64 (EY.2.2.2.2.2.2.2.2.2.1),AA.v EY.2.2.2.2.2.2.2.2.2.2.1,.int .i64 (EY.2.2.2.2.2.2.2.2.2.2.2.1),.int .i64 (EY.2.2.2.2.2.2.2.2.2.2.2.2.1),.int .i64 (EY.2.2.2.2.2.2.2.2.2.2.2.2.2.1),.int .i64 (EY.2.2.2.2.2.2.2.2.2.2.2.2.2.2.1),.int .i64 (EY.2.2.2.2.2.2.2.2.2.2.2.2.2.2.2.1),.int .i64 (EY.2.2.2.2.2.2.2.2.2.2.2.2.2.2.2.2.1),.int .i64 (EY.2.2.2.2.2.2.2.2.2.2.2.2.2.2.2.2.2.1),.int .i64 (EY.2.2.2.2.2.2.2.2.2.2.2.2.2.2.2.2.2.2.1),.int .i64 (EY.2.2.2.2.2.2.2.2.2.2.2.2.2.2.2.2.2.2.2.1),.int .i64 (EY.2.2.2.2.2.2.2.2.2.2.2.2.2.2.2.2.2.2.2.2.1),.int .i64 (EY.2.2.2.2.2.2.2.2.2.2.2.2.2.2.2.2.2.2.2.2.2.1),.int .i64 (EY.2.2.2.2.2.2.2.2.2.2.2.2.2.2.2.2.2.2.2.2.2.2.1),.int .i64 (EY.2.2.2.2.2.2.2.2.2.2.2.2.2.2.2.2.2.2.2.2.2.2.2.1),.int .i64 (EY.2.2.2.2.2.2.2.2.2.2.2.2.2.2.2.2.2.2.2.2.2.2.2.2.1),.int .i64 (EY.2.2.2.2.2.2.2.2.2.2.2.2.2.2.2.2.2.2.2.2.2.2.2.2.2.1),.int .i64 (EY.2.2.2.2.2.2.2.2.2.2.2.2.2.2.2.2.2.2.2.2.2.2.2.2.2.2.1),.int .i64 (EY.2.2.2.2.2.2.2.2.2.2.2.2.2.2.2.2.2.2.2.2.2.2.2.2.2.2.2.1),.string EY.2.2.2.2.2.2.2.2.2.2.2.2.2.2.2.2.2.2.2.2.2.2.2.2.2.2.2.2.1,.int .i64 (EY.2.2.2.2.2.2.2.2.2.2.2.2.2.2.2.2.2.2.2.2.2.2.2.2.2.2.2.2.2)] 40) fun FC=>ey FC/\Rn prog (Builtin.append_ #[55,55] 55 #[AA.v (Fz.cut 30 0 (((DZ.len:Int)).toNat) (((DZ.len:Int)).toNat)),AA.v ⟨some ⟨Fl.heap.size,0,none⟩,1,1⟩]) FC AA.v fun IF Lk=>Nn x1 fun a37=>St Lk (a37.add 30) (AA.v IF) fun PK=>St PK ⟨z3.heap.size,0,none⟩ (.int .i64 0) fun JJ=>MH ⟨z3.heap.size,0,none⟩ none JJ fun z40=>Ld z40 ⟨z3.heap.size,0,none⟩ (Value.int .i64) fun Kg=>R Kg z40) (S6P z3 R)) (Br (WE.toList==(⟨#[81]⟩:cI).toList) (Tp (decide ((DZ.len:Int)>0)) 29 EX (fun Gh=>∃lO:World->Prop,lO Gh.drew/\Nn x1 fun a44=>AP lO (a44.add 30) AA.v fun Gy=>0<=(wrap .i64 ((DZ.len:Int)-1))/\(wrap .i64 ((DZ.len:Int)-1))<(Gy.len:Nat)/\Nn Gy.p fun a46=>Am lO (a46.add ((wrap .i64 ((DZ.len:Int)-1)).toNat*30)) 0 A0 fun Gj=>Nn x1 fun a48=>AP lO (a48.add 30) AA.v fun NV=>0<=(wrap .i64 ((DZ.len:Int)-1))/\(wrap .i64 ((DZ.len:Int)-1))<=(NV.cap:Int)/\0<=(wrap .i64 ((DZ.len:Int)-1))/\(wrap .i64 ((DZ.len:Int)-1))<=(((wrap .i64 ((DZ.len:Int)-1)).toNat:Nat):Int)/\Nn x1 fun zM=>Ak zM 0 A0 Gj Gh.drew fun z51=>Nn x1 fun a52=>St z51 (a52.add 30) (AA.v (NV.cut 30 0 ((wrap .i64 ((DZ.len:Int)-1)).toNat) ((wrap .i64 ((DZ.len:Int)-1)).toNat))) fun z53=>St z53 ⟨z3.heap.size,0,none⟩ (.int .i64 0) fun WN=>MH ⟨z3.heap.size,0,none⟩ none WN fun JF=>Ld JF ⟨z3.heap.size,0,none⟩ (Value.int .i64) fun Nz=>R Nz JF) (S6P z3 R)) (Nn x1 fun a57=>Ab EX a57 0 A0 fun N0=>C20 N0 EX fun lA MD=>Nw MD (.cells #[.int .i64 0,.int .i64 0,.int .i64 0,.int .i64 0,.int .i64 0,.int .i64 0,.int .i64 0,.int .i64 0,.int .i64 0,.int .i64 0,AA.v ⟨none,0,0⟩,.int .i64 0,.int .i64 0,.int .i64 0,.int .i64 0,.int .i64 0,.int .i64 0,.int .i64 0,.int .i64 0,.int .i64 0,.int .i64 0,.int .i64 0,.int .i64 0,.int .i64 0,.int .i64 0,.int .i64 0,.int .i64 0,.int .i64 0,.string (⟨#[]⟩:cI),.int .i64 0] 40) fun OG=>Ak ⟨MD.heap.size,0,none⟩ 0 A0 lA OG fun To=>Ld To ⟨w.heap.size,0,none⟩ Value.string fun lC=>Ld To (.add ⟨w.heap.size,0,none⟩ 1) AA.v fun YS=>Ld To (.add ⟨w.heap.size,0,none⟩ 2) Value.string fun Rc=>C21 (some ⟨MD.heap.size,0,none⟩) (lC,YS,Rc) To (fun r66 Nu=>Br r66 (Ab Nu ⟨MD.heap.size,0,none⟩ 0 A0 fun Nv=>Nn x1 fun a69=>Ak a69 0 A0 Nv Nu fun z70=>St z70 ⟨z3.heap.size,0,none⟩ (.int .i64 0) fun Ln=>MH ⟨z3.heap.size,0,none⟩ none Ln fun z72=>Ld z72 ⟨z3.heap.size,0,none⟩ (Value.int .i64) fun Ug=>R Ug z72) (St Nu ⟨z3.heap.size,0,none⟩ (.int .i64 0) fun Gg=>MH ⟨z3.heap.size,0,none⟩ none Gg fun z75=>Ld z75 ⟨z3.heap.size,0,none⟩ (Value.int .i64) fun Ni=>R Ni z75)) (S6P z3 R))))))
def pl6:Ee:=(.pre (.BY .seq) (.pre (.q (.cond (.q .leaf) .leaf)) (.pre (.q (.cond (.q .leaf) .leaf)) (.pre (.q (.q (.cond (.q .leaf) .leaf))) (.here [4] (.q (.seq (.q (.block (.q (.cond (.q (.BY (.held [14] (.take 0 (.take 1 (.take 2 (.take 3 (.take 4 (.take 5 (.take 6 (.take 7 (.take 8 (.take 9 (.take 10 (.take 11 (.BF 12 none (.BF 13 none (.BF 14 (some [17]) (.take 15 (.take 16 (.BF 17 (some []) .done))))))))))))))))))))) (.q (.cond (.q (.BY (.held [21] (.take 0 (.take 1 (.take 2 (.take 3 (.take 4 (.take 5 (.take 6 (.take 7 (.take 8 (.take 9 (.take 10 (.take 11 (.take 12 (.take 13 (.take 14 (.take 15 (.take 16 (.take 17 (.take 18 (.take 19 (.take 20 (.BF 21 (some [24]) (.take 22 (.take 23 (.BF 24 (some []) .done)))))))))))))))))))))))))))) (.q (.q (.cond (.BY .seq) .leaf))))))))) (.q .leaf))))))))
theorem T6 (x1:Option Addr)(o2:ByteArray×AA×ByteArray)(w:World)(R:Q1 Int)(h:S6 x1 o2 w R):C6 x1 (o2.1,o2.2.1,o2.2.2) w R:=by
 have e:Nk prog FF Fu (fun _ _=>False) pl6 Tryz.f6 [.pointer x1,.agg #[.string o2.1,AA.v o2.2.1,.string o2.2.2]] w [(.one (.int .i64))] (fun s w=>R s w)=S6 x1 o2 w R:=by kernel_rfl
 exact (Cc okF De Tryz.func6 (by kernel_rfl) (by kernel_rfl) (e.mpr h)).mono fun _ _ ⟨s,he,hR⟩=>⟨s,he,hR⟩
def S8 (x1:Option Addr)(w:World)(R:Q1 (EA)):Prop:=Nw w (.cells #[.int .i64 0,.int .i64 0,.int .i64 0,.int .i64 0,.int .i64 0,.int .i64 0,.int .i64 0,.int .i64 0,.int .i64 0,.int .i64 0,AA.v ⟨none,0,0⟩,.int .i64 0,.int .i64 0,.int .i64 0,.int .i64 0,.int .i64 0,.int .i64 0,.int .i64 0,.int .i64 0,.int .i64 0,.int .i64 0,.int .i64 0,.int .i64 0,.int .i64 0,.int .i64 0,.int .i64 0,.int .i64 0,.int .i64 0,.string (⟨#[]⟩:cI),.int .i64 0] 40) fun z2=>Br x1.isNone (Ak ⟨w.heap.size,0,none⟩ 0 A0 ((0,0,0,0,0,0,0,0,0,0,(⟨none,0,0⟩:AA),0,0,0,0,0,0,0,0,0,0,0,0,0,0,0,0,0,(⟨#[]⟩:cI),0):EA) z2 fun z4=>Ab z4 ⟨w.heap.size,0,none⟩ 0 A0 fun x5=>R x5 z4) (Nn x1 fun a6=>Ab z2 a6 0 A0 fun x7=>C20 x7 z2 fun r8 z9=>Ak ⟨w.heap.size,0,none⟩ 0 A0 r8 z9 fun Ar=>Ab Ar ⟨w.heap.size,0,none⟩ 0 A0 fun Ef=>R Ef Ar)
theorem T8 (x1 w R):S8 x1 w R->C8 x1 w R:=B2 (.agg [(.int .i64),(.int .i64),(.int .i64),(.int .i64),(.int .i64),(.int .i64),(.int .i64),(.int .i64),(.int .i64),(.int .i64),.Ct,(.int .i64),(.int .i64),(.int .i64),(.int .i64),(.int .i64),(.int .i64),(.int .i64),(.int .i64),(.int .i64),(.int .i64),(.int .i64),(.int .i64),(.int .i64),(.int .i64),(.int .i64),(.int .i64),(.int .i64),.str,(.int .i64)]) (.q (.s (.q (.c (.q .l) .l)) (.q .l))) [.pointer x1] Tryz.func8
def S13 (x1:Option Addr)(w:World)(R:Q1 Int):Prop:=Br x1.isNone (R 0 w) (Nn x1 fun a2=>Ld w (a2.add 30) AA.v fun x3=>R (x3.len:Int) w)
theorem T13 (x1 w R):S13 x1 w R->wc x1 w R:=B2 oi (.q (.s (.q (.c (.q .l) .l)) (.q .l))) [.pointer x1] Tryz.func13
def ou (Zo:AA)(Zp:AA)(R:Q1 Bool)(I5:Q1 Int)(s3:Int)(z4:World):Prop:=Br (decide (s3<(Zo.len:Int))) (0<=s3/\s3<(Zo.len:Nat)/\Nn Zo.p fun a6=>Ld z4.drew (a6.add ((s3).toNat*1)) (Value.int .i64) fun x7=>0<=s3/\s3<(Zp.len:Nat)/\Nn Zp.p fun a8=>Ld z4.drew (a8.add ((s3).toNat*1)) (Value.int .i64) fun x9=>Br (x7 !=x9) (R false z4.drew) (I5 (wrap .i64 (s3+1)) z4.drew)) (R true z4)
def S31 (Zo:AA)(Zp:AA)(w:World)(R:Q1 Bool):Prop:=Br ((Zo.len:Int) !=(Zp.len:Int)) (R false w) (Lp (σ:=Int) (ou Zo Zp R) 0 w)
theorem T31 (Zo Zp w R):S31 Zo Zp w R->C31 Zo Zp w R:=B2 ob (.q (.s (.q (.c (.q .l) .l)) (.s (.q (.b (.o [(13,oi)] [0,1,12] (.q (.s (.c .l .l) (.s (.b (.q (.s (.BY .still) (.c (.q .l) .l)))) .r)))))) (.q .l)))) [AA.v Zo,AA.v Zp] Tryz.func31
def S12 (a1:EA)(b2:EA)(w:World)(R:Q1 Bool):Prop:=Nw w (.cells (AQ.cells A0 a1).toArray 40) fun z3=>Nw z3 (.cells (AQ.cells A0 b2).toArray 40) fun z4=>Ld z4 ⟨w.heap.size,0,none⟩ (Value.int .i64) fun x5=>Ld z4 (.add ⟨w.heap.size,0,none⟩ 1) (Value.int .i64) fun x6=>Ld z4 (.add ⟨w.heap.size,0,none⟩ 2) (Value.int .i64) fun x7=>Ld z4 (.add ⟨w.heap.size,0,none⟩ 3) (Value.int .i64) fun x8=>Ld z4 (.add ⟨w.heap.size,0,none⟩ 4) (Value.int .i64) fun x9=>Ld z4 (.add ⟨w.heap.size,0,none⟩ 5) (Value.int .i64) fun EB=>Ld z4 ⟨z3.heap.size,0,none⟩ (Value.int .i64) fun Ef=>Ld z4 (.add ⟨z3.heap.size,0,none⟩ 1) (Value.int .i64) fun GN=>Ld z4 (.add ⟨z3.heap.size,0,none⟩ 2) (Value.int .i64) fun JK=>Ld z4 (.add ⟨z3.heap.size,0,none⟩ 3) (Value.int .i64) fun Nj=>Ld z4 (.add ⟨z3.heap.size,0,none⟩ 4) (Value.int .i64) fun NT=>Ld z4 (.add ⟨z3.heap.size,0,none⟩ 5) (Value.int .i64) fun GL=>Lt (((x5==Ef)&&((x6==GN)&&((x7==JK)&&((x8==Nj)&&((x9==NT)&&((EB==GL)&&true))))))) fun (Jv:Bool)=>Br Jv (Ld z4 (.add ⟨w.heap.size,0,none⟩ 6) (Value.int .i64) fun PU=>Ld z4 (.add ⟨z3.heap.size,0,none⟩ 6) (Value.int .i64) fun HG=>Br (PU==HG) (Ld z4 (.add ⟨w.heap.size,0,none⟩ 7) (Value.int .i64) fun Gn=>Ld z4 (.add ⟨z3.heap.size,0,none⟩ 7) (Value.int .i64) fun Hm=>Br (Gn==Hm) (Ld z4 (.add ⟨w.heap.size,0,none⟩ 8) (Value.int .i64) fun J0=>Ld z4 (.add ⟨z3.heap.size,0,none⟩ 8) (Value.int .i64) fun Uy=>Br (J0==Uy) (Ld z4 (.add ⟨w.heap.size,0,none⟩ 9) (Value.int .i64) fun DZ=>Ld z4 (.add ⟨z3.heap.size,0,none⟩ 9) (Value.int .i64) fun WE=>Br (DZ==WE) (Ld z4 (.add ⟨w.heap.size,0,none⟩ 10) AA.v fun PW=>Ld z4 (.add ⟨z3.heap.size,0,none⟩ 10) AA.v fun Tm=>C31 PW Tm z4 fun zc CS=>Br zc (Ld CS (.add ⟨w.heap.size,0,none⟩ 11) (Value.int .i64) fun Qu=>Ld CS (.add ⟨z3.heap.size,0,none⟩ 11) (Value.int .i64) fun Pd=>Br (Qu==Pd) (Ld CS (.add ⟨w.heap.size,0,none⟩ 12) (Value.int .i64) fun Pe=>Ld CS (((⟨w.heap.size,0,none⟩:Addr).add 12).add 1) (Value.int .i64) fun N2=>Ld CS (((⟨w.heap.size,0,none⟩:Addr).add 12).add 2) (Value.int .i64) fun Ph=>Ld CS (((⟨w.heap.size,0,none⟩:Addr).add 12).add 3) (Value.int .i64) fun IF=>Ld CS (((⟨w.heap.size,0,none⟩:Addr).add 12).add 4) (Value.int .i64) fun Hl=>Ld CS (.add ⟨z3.heap.size,0,none⟩ 12) (Value.int .i64) fun J8=>Ld CS (((⟨z3.heap.size,0,none⟩:Addr).add 12).add 1) (Value.int .i64) fun I1=>Ld CS (((⟨z3.heap.size,0,none⟩:Addr).add 12).add 2) (Value.int .i64) fun PM=>Ld CS (((⟨z3.heap.size,0,none⟩:Addr).add 12).add 3) (Value.int .i64) fun NS=>Ld CS (((⟨z3.heap.size,0,none⟩:Addr).add 12).add 4) (Value.int .i64) fun Kg=>Lt (((Pe==J8)&&((N2==I1)&&((Ph==PM)&&((IF==NS)&&((Hl==Kg)&&true)))))) fun (K7:Bool)=>Br K7 (Ld CS (.add ⟨w.heap.size,0,none⟩ 17) (Value.int .i64) fun Kh=>Ld CS (((⟨w.heap.size,0,none⟩:Addr).add 17).add 1) (Value.int .i64) fun Ho=>Ld CS (((⟨w.heap.size,0,none⟩:Addr).add 17).add 2) (Value.int .i64) fun Gy=>Ld CS (((⟨w.heap.size,0,none⟩:Addr).add 17).add 3) (Value.int .i64) fun Gi=>Ld CS (((⟨w.heap.size,0,none⟩:Addr).add 17).add 4) (Value.int .i64) fun Gj=>Ld CS (.add ⟨z3.heap.size,0,none⟩ 17) (Value.int .i64) fun ID=>Ld CS (((⟨z3.heap.size,0,none⟩:Addr).add 17).add 1) (Value.int .i64) fun NV=>Ld CS (((⟨z3.heap.size,0,none⟩:Addr).add 17).add 2) (Value.int .i64) fun Jz=>Ld CS (((⟨z3.heap.size,0,none⟩:Addr).add 17).add 3) (Value.int .i64) fun NU=>Ld CS (((⟨z3.heap.size,0,none⟩:Addr).add 17).add 4) (Value.int .i64) fun NW=>Lt (((Kh==ID)&&((Ho==NV)&&((Gy==Jz)&&((Gi==NU)&&((Gj==NW)&&true)))))) fun (Ll:Bool)=>Br Ll (Ld CS (.add ⟨w.heap.size,0,none⟩ 22) (Value.int .i64) fun X0=>Ld CS (((⟨w.heap.size,0,none⟩:Addr).add 22).add 1) (Value.int .i64) fun Un=>Ld CS (((⟨w.heap.size,0,none⟩:Addr).add 22).add 2) (Value.int .i64) fun Nz=>Ld CS (((⟨w.heap.size,0,none⟩:Addr).add 22).add 3) (Value.int .i64) fun Qw=>Ld CS (((⟨w.heap.size,0,none⟩:Addr).add 22).add 4) (Value.int .i64) fun N0=>Ld CS (((⟨w.heap.size,0,none⟩:Addr).add 22).add 5) (Value.int .i64) fun Um=>Ld CS (((⟨w.heap.size,0,none⟩:Addr).add 22).add 6) Value.string fun OI=>Ld CS (((⟨w.heap.size,0,none⟩:Addr).add 22).add 7) (Value.int .i64) fun Pf=>Ld CS (.add ⟨z3.heap.size,0,none⟩ 22) (Value.int .i64) fun NX=>Ld CS (((⟨z3.heap.size,0,none⟩:Addr).add 22).add 1) (Value.int .i64) fun lC=>Ld CS (((⟨z3.heap.size,0,none⟩:Addr).add 22).add 2) (Value.int .i64) fun YS=>Ld CS (((⟨z3.heap.size,0,none⟩:Addr).add 22).add 3) (Value.int .i64) fun Rc=>Ld CS (((⟨z3.heap.size,0,none⟩:Addr).add 22).add 4) (Value.int .i64) fun Up=>Ld CS (((⟨z3.heap.size,0,none⟩:Addr).add 22).add 5) (Value.int .i64) fun dq=>Ld CS (((⟨z3.heap.size,0,none⟩:Addr).add 22).add 6) Value.string fun Nv=>Ld CS (((⟨z3.heap.size,0,none⟩:Addr).add 22).add 7) (Value.int .i64) fun WI=>Lt (((X0==NX)&&((Un==lC)&&((Nz==YS)&&((Qw==Rc)&&((N0==Up)&&((Um==dq)&&((OI.toList==Nv.toList)&&((Pf==WI)&&true))))))))) fun (kj:Bool)=>R kj CS) (R false CS)) (R false CS)) (R false CS)) (R false CS)) (R false z4)) (R false z4)) (R false z4)) (R false z4)) (R false z4)
theorem T12 (a1 b2 w R):S12 a1 b2 w R->C12 a1 b2 w R:=B2 ob (.q (.q .l)) [.agg (AQ.cells A0 a1).toArray,.agg (AQ.cells A0 b2).toArray] Tryz.func12
def AAN (l1:AA)(R:Q1 AA)(I4:Q1 (AA×Int))(s2:AA×Int)(z3:World):Prop:=Br (decide (s2.2<(l1.len:Int))) (0<=s2.2/\s2.2<(l1.len:Nat)/\Nn l1.p fun a5=>Ld z3 (a5.add ((s2.2).toNat*1)) (Value.int .i64) fun x6=>C22 x6 z3 fun r7 z8=>Nw z8 (.cells #[.int .i64 (r7.1),.int .i64 (r7.2.1),.int .i64 (r7.2.2.1),.string r7.2.2.2.1,AA.v r7.2.2.2.2.1,AA.v r7.2.2.2.2.2] 68) fun z9=>Rn prog (Builtin.append_ #[30,30] 30 #[AA.v s2.1,AA.v ⟨some ⟨z8.heap.size,0,none⟩,1,1⟩]) z9 AA.v fun EB Dg=>I4 (EB,wrap .i64 (s2.2+1)) Dg) (R s2.1 z3)
def S7 (l1:AA)(w:World)(R:Q1 AA):Prop:=Lp (σ:=AA×Int) (AAN l1 R) ((⟨none,0,0⟩:AA),0) w
theorem T7 (l1 w R):S7 l1 w R->C7 l1 w R:=B2 ol (.q (.q (.s (.q (.b (.o [(3,ol),(8,oi)] [6,7] (.q (.s (.c .l .l) (.s (.b (.q .r)) .r)))))) (.q .l)))) [AA.v l1] Tryz.func7
end
set_option maxRecDepth 4000
set_option maxHeartbeats 4000000
namespace FA
open Sh CV LB
def ints (l:List Int):List Value:=l.map fun x=> .int .i64 x
theorem elN:El prog 34 2 1 8 (.int .i64 0):=⟨by kernel_rfl,by kernel_rfl,by kernel_rfl,by kernel_rfl,rfl⟩
theorem TL (l:List Int):(ints l).length=l.length:=by unfold ints;simp
theorem Rv {l:List Int}{i:Nat}(hi:i<l.length):(ints l)[i]?=some (.int .i64 (l.getD i 0)):=by
 unfold ints;rw[aR,al hi,aE,al hi]
 rfl
theorem ints_set (l:List Int)(i:Nat)(x:Int):(ints l).set i (.int .i64 x)=ints (l.set i x):=by unfold ints;rw[List.map_set]
theorem iV (l m:List Int):ints (l++m)=ints l++ints m:=by unfold ints;rw[bd]
def IV (w:World)(s:AA)(l:List Int):Prop:=s.len=l.length/\Bb w s 1 (ints l)
section
variable {w w' w1:World} {s:AA} {l:List Int} {L K:List Ob}
theorem IV.AB(h:IV w s l)(he:Ext (fun _=>False) w w'):IV w' s l:=⟨h.1,h.2.AB he⟩
theorem IV.AF{F:Nat->Prop}(h:IV w s l)(he:Ext F w w')(hF:∀j,s.own j->¬F j):IV w' s l:=⟨h.1,h.2.AF he hF⟩
theorem IV.nil(w:World):IV w ⟨none,0,0⟩ []:=⟨rfl,rfl,fun j v h=>by cases h⟩
theorem IV.get(h:IV w s l){i:Nat}(hi:i<l.length):∃a,s.p=some a/\w.cell? (a.add (i*1))=some (.int .i64 (l.getD i 0)):=by
 obtain ⟨a,ha,hc⟩:=h.2.2 i _ (Rv hi);exact ⟨a,ha,by rw[bU];exact hc⟩
theorem IV.row{t:TypeId}(h:Row w s t 1 (ints l)):IV w s l:=by
 refine ⟨?_,h.view⟩;have:=h.1;rw[TL]at this;omega
theorem Ext.new{F:Nat->Prop}{a b c:World}(h:Ext (fun _=>False) a b)(k:Ext F b c)(hF:∀j,F j->a.heap.size<=j):Ext (fun _=>False) a c:=
 h.trans k (fun _ h=>h) fun i hi hh=>absurd hi (by have:=hF i hh;omega)
def IO (w0 w:World)(r:AA)(l:List Int):Prop:=Row w r 2 1 (ints l)/\∀j,r.own j->w0.heap.size<=j
theorem IO.iv{w0:World}{r:AA}(h:IO w0 w r l):IV w r l:=IV.row h.1
theorem IO.nil(w0 w:World):IO w0 w ⟨none,0,0⟩ []:=⟨Row.nil _ _ _,fun j hj=>by obtain ⟨a,ha,_⟩:=hj;cases ha⟩
attribute [local irreducible] Ld Sh.St Nw Nn Lt AP Ab Am Ak
theorem IO.snoc{w0:World}{r:AA}{x:Int}{ty:TypeId}{K:AA->World->Prop}(h:IO w0 w r l)(he:Ext (fun _=>False) w0 w)(hl:l.length<=1000000)
  (k:∀r' w',IO w0 w' r' (l++[x])->Ext (fun _=>False) w0 w'->K r' w'):
  Nw w (.cells #[.int .i64 x] 2) fun w2=>Rn prog (Builtin.append_ #[34,34] ty #[AA.v r,AA.v (⟨some ⟨w.heap.size,0,none⟩,1,1⟩:AA)]) w2 AA.v fun (r':AA) w3=>K r' w3:=by
 refine (Hn.start w).nw fun w2 H=>?_
 have hb:=H.get 0 rfl;have e2:=H.ext;have hlen:=h.iv.1;obtain ⟨s',w',r1,r2,r3,r4,r5⟩:=elN.Hu (ty:=ty) (ys:=[.int .i64 x]) (h.1.AB e2 fun _ _ e=>e) hb rfl (by intro v hv;rw[av.1 hv];rfl) (by omega) (by omega);have E2:=he.tr e2;refine ⟨s',w',r1,k s' w' ⟨by rw[iV];exact r2,fun j hj=>?_⟩ (Ext.new E2 r4 h.2)⟩;have:=E2.size;rcases r5 j hj with hh|hh
 ·exact h.2 j hh
 ·omega
def iW (e:Int):Value:= .iface 60 (.agg #[.int .i64 e])
theorem A8 (b:Bool)(e:Int)(w:World):Tp b e w (fun w1=>b=true/\w1=w) fun v w1=>v=iW e/\b=false/\w1=w:=by
 refine T19 _ _ _ _ _ ?_;unfold S19;cases b
 ·exact ⟨rfl,rfl,rfl⟩
 ·exact ⟨rfl,rfl⟩
theorem It (o:Ob)(w:World):eW o w (fun r w1=>num o= .ok r/\Ext (fun _=>False) w w1) fun v w1=>∃e,num o= .error e/\v=iW e/\Ext (fun _=>False) w w1:=by
 refine T64 _ _ _ _ ?_;unfold S64;refine (Hn.start w).nw fun w2 H=>?_
 simp only[ae,add_lit,ah]at H⊢
 iterate 6 refine H.ld 0 rfl rfl ?_
 refine (gG o w2).mono ?_;rintro r b w3 ⟨hr,e3⟩;have E:=H.ext.tr e3;refine (A8 b 2 w3).mono ?_ ?_
 ·rintro w4 ⟨rfl,rfl⟩;refine ⟨?_,E⟩;unfold num;cases hn:U3 o with
  |none=>rw[hn]at hr;cases hr
  |some n=>rw[hn]at hr;cases hr;rfl
 ·rintro v w4 ⟨rfl,rfl,rfl⟩;refine ⟨2,?_,rfl,E⟩;unfold num;cases hn:U3 o with
  |none=>rfl
  |some n=>rw[hn]at hr;cases hr
theorem XW (o:Ob)(w:World):xE o w (fun r w1=>Kn o= .ok r/\Ext (fun _=>False) w w1) fun v w1=>∃e,Kn o= .error e/\v=iW e/\Ext (fun _=>False) w w1:=by
 refine T41 _ _ _ _ ?_;unfold S41;refine (Hn.start w).nw fun w2 H=>?_
 simp only[ae,add_lit,ah]at H⊢
 iterate 6 refine H.ld 0 rfl rfl ?_
 refine (It o w2).mono ?_ ?_
 ·rintro r w3 ⟨hr,e3⟩;have E:=H.ext.tr e3;refine (A8 _ 2 w3).mono ?_ ?_
  ·rintro w4 ⟨h,rfl⟩;refine ⟨?_,E⟩;unfold Kn;rw[hr];exact aD (bh h)
  ·rintro v w4 ⟨rfl,h,rfl⟩;refine ⟨2,?_,rfl,E⟩;unfold Kn;rw[hr];exact az (cG h)
 ·rintro v w3 ⟨e,h,rfl,e3⟩;exact ⟨e,by unfold Kn;rw[h],rfl,H.ext.tr e3⟩
theorem iX (o:Ob)(Cf:Int)(hm:0<=Cf/\Cf<=100)(w:World):C42 o Cf w (fun r w1=>N3 o Cf= .ok r/\Ext (fun _=>False) w w1) fun v w1=>∃e,N3 o Cf= .error e/\v=iW e/\Ext (fun _=>False) w w1:=by
 refine T42 _ _ _ _ _ ?_;unfold S42;refine (Hn.start w).nw fun w2 H=>?_
 simp only[ae,add_lit,ah]at H⊢
 iterate 6 refine H.ld 0 rfl rfl ?_
 refine (It o w2).mono ?_ ?_
 ·rintro r w3 ⟨hr,e3⟩;have E:=H.ext.tr e3;rw[AG (n:=Cf*10000) (by omega)];have no:∀{R:Int->World->Prop} {v:Value} {w4:World},¬(0<=r/\r<=Cf*10000/\Int.tmod r 10000=0)->v=iW 2->w4=w3->∃e,N3 o Cf= .error e/\v=iW e/\Ext (fun _=>False) w w4:=fun {R v w4} h hv hw=>by
   subst hv hw;exact ⟨2,by unfold N3;rw[hr];exact az h,rfl,E⟩
  refine Br.dec (fun q=>Br.dec (fun q2=>(A8 _ 2 w3).mono ?_ ?_) fun q2=>(A8 _ 2 w3).mono ?_ ?_) fun q=>(A8 _ 2 w3).mono ?_ ?_
  ·rintro w4 ⟨h,rfl⟩;have h:Int.tmod r 10000=0:=by simpa using h
   have Nc:0<=r:=q;rw[AG (n:=Int.tdiv r 10000) (by rw[PC Nc];omega)];exact ⟨by unfold N3;rw[hr];exact aD ⟨q,q2,h⟩,E⟩
  ·rintro v w4 ⟨rfl,h,rfl⟩;have h:¬Int.tmod r 10000=0:=by simpa using h
   exact no (R:=fun _ _=>True) (fun hh=>h hh.2.2) rfl rfl
  ·rintro w4 ⟨h,rfl⟩;cases h
  ·rintro v w4 ⟨rfl,h,rfl⟩;exact no (R:=fun _ _=>True) (fun hh=>q2 hh.2.1) rfl rfl
  ·rintro w4 ⟨h,rfl⟩;cases h
  ·rintro v w4 ⟨rfl,h,rfl⟩;exact no (R:=fun _ _=>True) (fun hh=>q hh.1) rfl rfl
 ·rintro v w3 ⟨e,h,rfl,e3⟩;exact ⟨e,by unfold N3;rw[h],rfl,H.ext.tr e3⟩
theorem ZR {L:List Ob}{i:Nat}{o:Ob}{l:List Int}(ho:L[i]?=some o)(h:CT L=(match CT (L.drop i)with
   | .error e=> .error e
   | .ok r=> .ok (l++r))):(∀n,num o= .ok n->CT L=(match CT (L.drop (i+1))with
   | .error e=> .error e
   | .ok r=> .ok ((l++[n])++r)))/\∀e,num o= .error e->CT L= .error e:=by
 obtain ⟨Av,rfl⟩:=ao.1 ho;rw[b5 Av]at h;refine ⟨fun n hn=>?_,fun e he=>?_⟩
 ·rw[h];simp only[CT,hn];cases CT (L.drop (i+1))with
  |error e=>rfl
  |ok r=>simp
 ·rw[h];simp only[CT,he]
theorem iY {a d:ByteArray}(h:OV w s L)(hl:L.length<=100000):C63 (a,s,d) w (fun r w1=>∃l,CT L= .ok l/\IO w w1 r l/\l.length=L.length/\Ext (fun _=>False) w w1) fun v w1=>∃e,CT L= .error e/\v=iW e/\Ext (fun _=>False) w w1:=by
 refine T63 (a,s,d) _ _ _ ?_;unfold S63;refine (Hn.start w).nw fun w2 H=>?_
 simp only[ae]at H
 iterate 1 refine H.ld 0 rfl rfl ?_
 have e0:=H.ext;refine ⟨fun n st w3=>∃(i:Nat) (l:List Int),st.2=(i:Int)/\i<=L.length/\l.length=i/\n=L.length-i/\IO w w3 st.1 l/\Ext (fun _=>False) w w3/\CT L=(match CT (L.drop i)with
   | .error e=> .error e
   | .ok r=> .ok (l++r)),L.length,⟨0,[],rfl,by omega,rfl,rfl,IO.nil _ _,e0,by rw[b9];cases CT L<;>rfl⟩,?_⟩
 clear H e0;rintro n ⟨r,i⟩ w3 ⟨i,l,hi,La,pD,rfl,ho,e3,hn⟩;unfold oh;dsimp only at*;subst hi;rw[h.1];refine Br.dec (fun q=>⟨by omega,by omega,?_⟩) fun q=>?_
 ·obtain ⟨o,Sq⟩:∃o,L[i]?=some o:=⟨_,al (by omega)⟩
  obtain ⟨ad,ha,c0,c1,c2,c3,c4,c5⟩:=(h.AB e3).get Sq;obtain ⟨st1,vo⟩:=ZR Sq hn;rw[ha,aF];refine Nn.of (Ld.mk c0 (Ld.mk c1 (Ld.mk c2 (Ld.mk c3 (Ld.mk c4 (Ld.mk c5 ?_))))));refine (Hn.start w3).nw fun w4 H=>?_
  simp only[ae]at H
  iterate 6 (refine H.st 0 rfl (by simp) fun _ H=>?_;simp only[ae,ag,aa,ab,ah]at H)
  simp only[add_lit,ah]
  iterate 6 refine H.ld 0 rfl rfl ?_
  have E4:=e3.tr H.ext;have ho4:IO w _ r l:=⟨ho.1.AB H.ext fun _ _ e=>e,ho.2⟩
  refine (It o _).mono ?_ ?_
  ·rintro x w5 ⟨hx,e5⟩;refine IO.snoc (w0:=w) ⟨ho4.1.AB e5 fun _ _ e=>e,ho4.2⟩ (E4.tr e5) (by omega) fun r' w' I3 e'=>?_
   exact ⟨L.length-(i+1),by omega,i+1,l++[x],by rw[AG (by omega)];rfl,by omega,by simp[pD],rfl,I3,e',st1 x hx⟩
  ·rintro v w5 ⟨e,hx,rfl,e5⟩;exact ⟨e,vo e hx,rfl,E4.tr e5⟩
 ·have:i=L.length:=by omega
  subst this;rw[List.drop_length]at hn;simp only[CT,aN]at hn;exact ⟨l,hn,ho,pD,e3⟩
end
end FA
set_option maxRecDepth 8000
set_option maxHeartbeats 8000000
namespace FA
open Sh CV LB
attribute [local irreducible] Ld Sh.St Nw Nn Lt AP Ab Am Ak
section
variable {w w' w1:World} {s:AA} {l:List Int} {L K:List Ob} {b:Nat} {x:G} {D:List Int} {a d:ByteArray}
theorem nK (x:G):(AQ.cells LG x).length=30:=rfl
theorem xt (x:G){i:Nat}(h:i<30):i<(AQ.cells LG x).length:=h
theorem DE {cs:List Value}{t:TypeId}{i:Nat}{v:Value}{R:World->Prop}(h:AO w b cs.toArray t)(ho:i<cs.length)(k:∀w2,AO w2 b (cs.set i v).toArray t->Ext (·=b) w w2->R w2):Sh.St w ⟨b,i,none⟩ v R:=by
 unfold Sh.St;refine ⟨h.can (by simpa using ho),k _ ?_ ((Ext.refl (·=b) w).set (.inl rfl) v)⟩;have:=h.set i v;rwa[af]at this
theorem Jn {S:World->Prop}{w0:World}{R:Int->Prop}{i:Nat}{ii:Int}(h0:IV w0 s l)(hS:∀w',S w'->IV w' s l)(hi:i<l.length)(e:ii=(i:Int))(k:R (l.getD i 0)):0<=ii/\ii<(s.len:Nat)/\Nn s.p fun a=>AP S (a.add (ii.toNat*1)) (Value.int .i64) R:=by
 subst e;obtain ⟨ad,ha,_⟩:=h0.get hi;have hl:=h0.1;rw[ha,aF];refine ⟨by omega,by omega,Nn.of ?_⟩;unfold AP;refine ⟨l.getD i 0,fun w' hw=>?_,k⟩;obtain ⟨ad',Q5,hc⟩:=(hS w' hw).get hi;rw[ha]at Q5;cases Q5;exact hc
theorem O4 (sp:Int)(h:OV w s L)(hl:L.length<=4):og sp (a,s,d) w (fun r w1=>NY sp L= .ok r/\Ext (fun _=>False) w w1) fun v w1=>∃e,NY sp L= .error e/\v=iW e/\Ext (fun _=>False) w w1:=by
 refine T44 _ (a,s,d) _ _ _ ?_;unfold S44;refine (Hn.start w).nw fun w2 H=>?_
 refine H.nw fun w3 H=>?_
 refine H.nw fun w4 H=>?_
 simp only[ag,ae,add_lit,ah]at H⊢
 iterate 3 refine H.ld 0 rfl rfl ?_
 have AVn:=H.lt 2 rfl;refine (iY (h.AB H.ext) (by omega)).mono ?_ ?_;rotate_left
 ·rintro v w5 ⟨e,he,rfl,e5⟩;exact ⟨e,by unfold NY;rw[he],rfl,H.ext.tr e5⟩
 rintro r w5 ⟨l,hn,ho,pD,e5⟩;have H:=H.AB e5;have LY:=H.lt 2 rfl;have Bm:∀j,r.own j->j≠w3.heap.size:=fun j hj=>by
  have h1:=ho.2 j hj;omega
 refine ⟨fun n st w6=>∃(i:Nat) (A:List Int),st=(i:Int)/\i<=l.length/\n=l.length-i/\A.length=4/\(∀j,A.getD j 0=if j<i then l.getD j 0 else 0)/\(∀j,j<i->0<=l.getD j 0/\l.getD j 0<=10000)/\IV w6 r l/\Hn w w6 [(w.heap.size,[.string a,AA.v s,.string d],33),(w2.heap.size,[.int .i64 0,.int .i64 0,.int .i64 0,.int .i64 0,.int .i64 0],36),(w3.heap.size,ints A,129)],l.length,
  ⟨0,[0,0,0,0],rfl,by omega,rfl,rfl,fun j=>by
   rw[az (by omega)]
   match j with
   |0|1|2|3=>rfl
   |j+4=>rfl,fun j hj=>by omega,ho.iv,H⟩,?_⟩
 clear H;rintro n st w6 ⟨i,A,rfl,hi,rfl,hA,hAj,Az,hv,H⟩;unfold ot;rw[hv.1];refine Br.dec (fun q=>⟨by omega,by omega,?_⟩) fun q=>?_
 ·obtain ⟨ad,ha,hc⟩:=hv.get (i:=i) (by omega);rw[ha,aF];have bad:¬(0<=l.getD i 0/\l.getD i 0<=10000)->NY sp L= .error 2:=fun hb=>by
   unfold NY;rw[hn];refine az fun hh=>hb ?_
   have:=aJ.1 hh (l.getD i 0) (by rw[aE,al (by omega)];exact bH _);simpa using this
  refine Nn.of (Ld.mk hc (Br.dec (fun q2=>(A8 _ 2 _).mono ?_ ?_) fun q2=>(A8 _ 2 _).mono ?_ ?_))
  ·rintro w7 ⟨h1,rfl⟩;have h1:=bh h1;refine ⟨by omega,by omega,?_⟩;simp only[add_lit,bU,ah,aF];refine H.BZ 2 rfl (by rw[TL];omega) fun w8 H e8=>?_
   simp only[aa,ab]at H;rw[ints_set]at H;refine ⟨l.length-(i+1),by omega,i+1,A.set i (l.getD i 0),by rw[AG (by omega)];rfl,by omega,rfl,by simpa using hA,fun j=>?_,fun j hj=>?_,hv.AF e8 fun j hj hh=>Bm j hj hh,H⟩
   ·rw[aE,List.getElem?_set];by_cases e:i=j
    ·subst e;rw[aD rfl,aD (by omega),aD (by omega)]
     rfl
    ·rw[az e,<-aE,hAj j];by_cases hj:j<i
     ·rw[aD hj,aD (by omega)]
     ·rw[az hj,az (by omega)]
   ·by_cases e:j=i
    ·subst e;exact ⟨q2,h1⟩
    ·exact Az j (by omega)
  ·rintro v w7 ⟨rfl,h1,rfl⟩;have h1:=cG h1;exact ⟨2,bad fun hh=>h1 hh.2,rfl,H.ext⟩
  ·rintro w7 ⟨h1,rfl⟩;cases h1
  ·rintro v w7 ⟨rfl,h1,rfl⟩;exact ⟨2,bad fun hh=>q2 hh.1,rfl,H.ext⟩
 ·have La:i=l.length:=by omega
  have Bo:NY sp L= .ok (sp,l.getD 0 0,l.getD 1 0,l.getD 2 0,l.getD 3 0):=by
   unfold NY;rw[hn];refine aD (aJ.2 fun y hy=>?_);obtain ⟨j,hj,rfl⟩:=cq.1 hy;have:=Az j (by omega);rw[aE,al hj,Option.getD_some]at this;simpa using this
  have hAl:∀j,A.getD j 0=l.getD j 0:=fun j=>by
   rw[hAj j];split
   ·rfl
   ·rw[aE,List.getElem?_eq_none (by omega)]
    rfl
  obtain ⟨a0,a1,a2,a3,rfl⟩:∃a0 a1 a2 a3,A=[a0,a1,a2,a3]:=by
   match A,hA with
   |[a0,a1,a2,a3],_=>exact ⟨a0,a1,a2,a3,rfl⟩
  simp only[add_lit,ah]
  iterate 4 refine H.ld 2 rfl rfl ?_
  iterate 5 (refine H.st 1 rfl (by simp) fun _ H=>?_;simp only[ae,ag,aa,ab,ah]at H)
  iterate 5 refine H.ld 1 rfl rfl ?_
  refine ⟨?_,H.ext⟩;rw[Bo,<-hAl 0,<-hAl 1,<-hAl 2,<-hAl 3]
  rfl
theorem ZS {K:List Ob}{i:Nat}{o:Ob}{l:List Int}(ho:K[i]?=some o)(h:Ei K=(match Ei (K.drop i)with
   | .error e=> .error e
   | .ok r=> .ok (l++r))):(∀n,Kn o= .ok n->Ei K=(match Ei (K.drop (i+1))with
   | .error e=> .error e
   | .ok r=> .ok ((l++[n])++r)))/\∀e,Kn o= .error e->Ei K= .error e:=by
 obtain ⟨Av,rfl⟩:=ao.1 ho;rw[b5 Av]at h;refine ⟨fun n hn=>?_,fun e he=>?_⟩
 ·rw[h];simp only[Ei,hn];cases Ei (K.drop (i+1))with
  |error e=>rfl
  |ok r=>simp
 ·rw[h];simp only[Ei,he]
theorem vp (hb:AO w b (AQ.cells LG x).toArray 40)(h:OV w s L)(hL:L.length=2)(hK:OV w (Bk L).2.2.2.2.2 K)(hKl:K.length<=9223372036854775807):
  C43 (some ⟨b,0,none⟩) (a,s,d) w (fun w1=>∃r,Ko K (fN L)= .ok r/\∃t,AO w1 b (AQ.cells LG (Al (TE x r.2) t)).toArray 40/\IO w w1 t r.1/\Ext (·=b) w w1) fun v w1=>∃e,Ko K (fN L)= .error e/\v=iW e/\Ext (·=b) w w1:=by
 refine T43 _ (a,s,d) _ _ _ ?_;unfold S43;obtain ⟨o0,o1,rfl⟩:∃o0 o1,L=[o0,o1]:=by
  match L,hL with
  |[o0,o1],_=>exact ⟨o0,o1,rfl⟩
 have hK:OV w o0.2.2.2.2.2 K:=hK;have AY:∀{w2:World},Ext (fun _=>False) w w2->Ext (·=b) w w2:=fun he=>he.mono fun _ _ e=>e.elim
 refine (Hn.start w).nw fun w2 H=>?_
 simp only[ae]at H
 iterate 1 refine H.ld 0 rfl rfl ?_
 obtain ⟨ad,ha,c0,c1,c2,c3,c4,c5⟩:=(h.AB H.ext).get (i:=0) rfl;rw[h.1,ha];refine ⟨by omega,by show (0:Int)<((2:Nat):Int);omega,Nn.of (Ld.mk c5 ?_)⟩;rw[hK.1];refine (A8 _ 6 _).mono ?_ ?_;rotate_left
 ·rintro v w3 ⟨rfl,hh,rfl⟩;have hh:=cG hh;exact ⟨6,by unfold Ko;rw[aD (by omega)],rfl,AY H.ext⟩
 rintro w3 ⟨hh,rfl⟩;have hh:=bh hh;have e6:Ko K o1=if K.all (fun k=>k.1==2||k.1==3)=false then .error 28 else match Ei K with
  | .error e=> .error e
  | .ok l=>match Kn o1 with
   | .error e=> .error e
   | .ok x=> .ok (l,x):=by
  unfold Ko;rw[az (by omega)]
  all_goals rfl
 have eo1:fN [o0,o1]=o1:=rfl;rw[eo1,e6];refine ⟨fun n st w4=>∃i:Nat,st=(i:Int)/\i<=K.length/\n=K.length-i/\(∀j k,j<i->K[j]?=some k->(k.1==2||k.1==3)=true)/\Hn w w4 [(w.heap.size,[.string a,AA.v s,.string d],33)],K.length,⟨0,rfl,by omega,rfl,fun j k hj=>by omega,H⟩,?_⟩;clear H c0 c1 c2 c3 c4 c5;rintro n st w4 ⟨i,rfl,hi,rfl,Az,H⟩;unfold oq;rw[hK.1];refine Br.dec (fun q=>⟨by omega,by omega,?_⟩) fun q=>?_
 ·obtain ⟨o,Sq⟩:∃o,K[i]?=some o:=⟨_,al (by omega)⟩
  obtain ⟨ad2,MT,c0,c1,c2,c3,c4,c5⟩:=(hK.AB H.ext).get Sq;rw[MT,aF];refine Nn.of (Ld.mk c0 (Ld.mk c1 (Ld.mk c2 (Ld.mk c3 (Ld.mk c4 (Ld.mk c5 ?_))))));have e4:=H.ext;refine (Hn.start w4).nw fun w5 H5=>?_
  simp only[ae]at H5
  iterate 5 (refine H5.st 0 rfl (by simp) fun _ H5=>?_;simp only[aa,ab]at H5)
  refine H5.st 0 rfl (by simp) fun w5b H5=>?_
  simp only[aa,ab]at H5;have e5:=H5.ext;have H:=H.AB e5;have next:∀{w6:World},w6=w5b->(o.1==2||o.1==3)=true->∃n',n'<K.length-i/\∃i':Nat,wrap .i64 ((i:Int)+1)=(i':Int)/\i'<=K.length/\n'=K.length-i'/\(∀j k,j<i'->K[j]?=some k->(k.1==2||k.1==3)=true)/\Hn w w6 [(w.heap.size,[.string a,AA.v s,.string d],33)]:=fun {w6} hw ho=>by
   subst hw;refine ⟨K.length-(i+1),by omega,i+1,by rw[AG (by omega)];rfl,by omega,rfl,fun j k hj hk=>?_,H⟩;by_cases e:j=i
   ·subst e;rw[Sq]at hk;cases hk;exact ho
   ·exact Az j k (by omega) hk
  refine H5.ld 0 rfl rfl (Br.eq (fun q2=>(A8 _ 28 _).mono ?_ ?_) fun q2=>H5.ld 0 rfl rfl ((A8 _ 28 _).mono ?_ ?_))
  ·rintro w7 ⟨_,hw⟩;exact next hw (by rw[q2];rfl)
  ·rintro v w7 ⟨rfl,h7,rfl⟩;cases h7
  ·rintro w7 ⟨h7,hw⟩;exact next hw (by rw[h7,Bool.or_true])
  ·rintro v w7 ⟨rfl,h7,rfl⟩;refine ⟨28,aD ?_,rfl,AY H.ext⟩;rw[List.all_eq_false];refine ⟨o,aA Sq,?_⟩;have q2':(o.1==2)=false:=by rw[bf];exact q2
   rw[q2',h7];simp
 ·have uU:K.all (fun k=>k.1==2||k.1==3)=true:=aJ.2 fun k hk=>by
   obtain ⟨j,hj⟩:=List.mem_iff_getElem?.1 hk;exact Az j k (by have:=(ao.1 hj).1;omega) hj
  rw[az (by rw[uU];simp)];have e4:=H.ext;refine ⟨fun n st w5=>∃(i:Nat) (l:List Int),st.2=(i:Int)/\i<=K.length/\l.length=i/\n=K.length-i/\IO w4 w5 st.1 l/\Ext (fun _=>False) w4 w5/\Ei K=(match Ei (K.drop i)with
   | .error e=> .error e
   | .ok r=> .ok (l++r)),K.length,⟨0,[],rfl,by omega,rfl,rfl,IO.nil _ _,Ext.refl _ _,by rw[b9];cases Ei K<;>rfl⟩,?_⟩
  clear Az;rintro n ⟨r,i⟩ w5 ⟨i,l,hi,La,pD,rfl,ho,e45,hn⟩;have H:=H.AB e45;have s4:=e4.size;unfold oo;dsimp only at*;subst hi;rw[hK.1];refine Br.dec (fun q=>⟨by omega,by omega,?_⟩) fun q=>?_
  ·obtain ⟨o,Sq⟩:∃o,K[i]?=some o:=⟨_,al (by omega)⟩
   obtain ⟨ad2,MT,c0,c1,c2,c3,c4,c5⟩:=(hK.AB H.ext).get Sq;obtain ⟨st1,vo⟩:=ZS Sq hn;rw[MT,aF];refine Nn.of (Ld.mk c0 (Ld.mk c1 (Ld.mk c2 (Ld.mk c3 (Ld.mk c4 (Ld.mk c5 ?_))))));refine (Hn.start w5).nw fun w6 H5=>?_
   simp only[ae]at H5
   iterate 6 (refine H5.st 0 rfl (by simp) fun _ H5=>?_;simp only[aa,ab]at H5)
   simp only[add_lit,ah]
   iterate 6 refine H5.ld 0 rfl rfl ?_
   have e6:=H5.ext;have H:=H.AB e6;refine (XW o _).mono ?_ ?_
   ·rintro y w7 ⟨hy,e7⟩;have H:=H.AB e7;refine IO.snoc (w0:=w4) ⟨(ho.1.AB e6 fun _ _ e=>e).AB e7 fun _ _ e=>e,ho.2⟩ (e45.tr (e6.tr e7)) (by omega) fun r' w' I3 e'=>?_
    exact ⟨K.length-(i+1),by omega,i+1,l++[y],by rw[AG (by omega)];rfl,by omega,by simp[pD],rfl,I3,e',st1 y hy⟩
   ·rintro v w7 ⟨e,hy,rfl,e7⟩;exact ⟨e,by rw[vo e hy],rfl,AY (H.ext.tr e7)⟩
  ·have:i=K.length:=by omega
   subst this;rw[List.drop_length]at hn;simp only[Ei,aN]at hn;obtain ⟨ad2,MT,c0,c1,c2,c3,c4,c5⟩:=(h.AB H.ext).get (i:=1) rfl;refine H.ld 0 rfl rfl ?_;rw[h.1,MT];refine ⟨by omega,by show (1:Int)<((2:Nat):Int);omega,Nn.of (Ld.mk c0 (Ld.mk c1 (Ld.mk c2 (Ld.mk c3 (Ld.mk c4 (Ld.mk c5 ?_))))))⟩;rw[hn];dsimp only;refine (XW o1 _).mono ?_ ?_
   ·rintro y w7 ⟨hy,e7⟩;have E:=H.ext.tr e7;have hb7:=E.AR hb id;refine Nn.of ?_;simp only[add_lit,ah];refine DE hb7 (xt _ (by decide)) fun w8 hb8 e8=>Nn.of ?_
    simp only[add_lit,ah];rw[AB5]at hb8;refine DE hb8 (xt _ (by decide)) fun w9 hb9 e9=>?_
    rw[p9]at hb9;have Av:=hb.lt;refine ⟨(l,y),by rw[hy],r,hb9,⟨?_,fun j hj=>by have:=ho.2 j hj;omega⟩,(AY E).tr (e8.tr e9)⟩;exact ((ho.1.AB e7 fun _ _ e=>e).AB e8 fun j hj hh=>by have:=ho.2 j hj;omega).AB e9 fun j hj hh=>by have:=ho.2 j hj;omega
   ·rintro v w7 ⟨e,hy,rfl,e7⟩;exact ⟨e,by rw[hy],rfl,AY (H.ext.tr e7)⟩
end
end FA
namespace FA
open Sh CV LB
theorem qC (L K:List Ob)(p:P):Ba [119] L K p=DC (Kn (Bk L)) fun n=> .ok (Ye p.1 n,p.2):=rfl
theorem qD (L K:List Ob)(p:P):Ba [77] L K p=DC (Kn (Bk L)) fun n=> .ok (p8 p.1 n,p.2):=rfl
theorem qE (L K:List Ob)(p:P):Ba [74] L K p=DC (N3 (Bk L) 2) fun n=> .ok (p6 p.1 n,p.2):=rfl
theorem qF (L K:List Ob)(p:P):Ba [106] L K p=DC (N3 (Bk L) 2) fun n=> .ok (p7 p.1 n,p.2):=rfl
theorem iZ (L K:List Ob)(p:P):Ba [84,99] L K p=DC (num (Bk L)) fun n=> .ok (TF p.1 n,p.2):=rfl
theorem ia (L K:List Ob)(p:P):Ba [84,119] L K p=DC (num (Bk L)) fun n=> .ok (TG p.1 n,p.2):=rfl
theorem ic (L K:List Ob)(p:P):Ba [84,122] L K p=DC (num (Bk L)) fun n=> .ok (TH p.1 n,p.2):=rfl
theorem ie (L K:List Ob)(p:P):Ba [84,76] L K p=DC (num (Bk L)) fun n=> .ok (TI p.1 n,p.2):=rfl
theorem ig (L K:List Ob)(p:P):Ba [84,115] L K p=DC (num (Bk L)) fun n=> .ok (TJ p.1 n,p.2):=rfl
theorem ij (L K:List Ob)(p:P):Ba [84,114] L K p=DC (N3 (Bk L) 7) fun n=> .ok (TK p.1 n,p.2):=rfl
theorem qG (L K:List Ob)(p:P):Ba [103] L K p=DC (NY 0 L) fun c=> .ok (Nb p.1 c,p.2):=rfl
theorem qH (L K:List Ob)(p:P):Ba [71] L K p=DC (NY 0 L) fun c=> .ok (Vv p.1 c,p.2):=rfl
theorem il (L K:List Ob)(p:P):Ba [114,103] L K p=DC (NY 1 L) fun c=> .ok (Nb p.1 c,p.2):=rfl
theorem iq (L K:List Ob)(p:P):Ba [82,71] L K p=DC (NY 1 L) fun c=> .ok (Vv p.1 c,p.2):=rfl
theorem qI (L K:List Ob)(p:P):Ba [107] L K p=DC (NY 2 L) fun c=> .ok (Nb p.1 c,p.2):=rfl
theorem qJ (L K:List Ob)(p:P):Ba [75] L K p=DC (NY 2 L) fun c=> .ok (Vv p.1 c,p.2):=rfl
theorem NK (L K:List Ob)(p:P):Ba [99,109] L K p=DC (CT L) (KC p):=rfl
theorem qK (L K:List Ob)(p:P):Ba [100] L K p=DC (Ko K (fN L)) fun x=> .ok (TE p.1 x.2,x.1):=rfl
theorem ir (L K:List Ob)(p:P):Ba [84,102] L K p=DC (num (fN L)) fun n=> .ok (Qh (Qi p.1 (Bk L).2.2.2.1) n,p.2):=rfl
theorem ACo {nm dd:By}{L:List Ob}(h:CK nm L dd=0):CW nm≠[63]/\(CW nm).length=L.length/\Bj (CW nm) L=true:=by
 unfold CK at h;split at h
 ·cases h
 ·rename_i h1;split at h
  ·cases h
  ·rename_i h2;split at h
   ·cases h
   ·rename_i h3;exact ⟨h1,Decidable.not_not.1 h2,by simpa using h3⟩
attribute [local irreducible] Ld Sh.St Nw Nn Lt AP Ab Am Ak
section
variable {w w' w1 w7:World} {s:AA} {l:List Int} {L K:List Ob} {b:Nat} {x x':G} {D:List Int} {a d:ByteArray} {nm:By}
def O5 (w w1:World)(b:Nat)(x:G)(D:List Int)(nm:By)(L K:List Ob):Prop:=∃(x':G) (D':List Int),Ba nm L K (er x,D)= .ok (er x',D')/\AO w1 b (AQ.cells LG x').toArray 40/\IV w1 (BQ x') D'/\Ext (·=b) w w1/\∀j,(BQ x').own j->(BQ x).own j\/(w.heap.size<=j/\j<w1.heap.size)
def iu (w w1:World)(b:Nat)(x:G)(D:List Int)(nm:By)(L K:List Ob)(v:Value):Prop:=∃e,Ba nm L K (er x,D)= .error e/\v=iW e/\Ext (·=b) w w1
theorem AY (h:Ext (fun _=>False) w w1):Ext (·=b) w w1:=h.mono fun _ _ e=>e.elim
structure SB (w:World) (b:Nat) (x:G) (D:List Int):Prop where
 AR:AO w b (AQ.cells LG x).toArray 40
 dash:IV w (BQ x) D
 ne:∀j,(BQ x).own j->j≠b
theorem SB.done(h:SB w b x D)(hd:BQ x'=BQ x)(hc:Ba nm L K (er x,D)= .ok (er x',D))(hb:AO w7 b (AQ.cells LG x').toArray 40)(E:Ext (·=b) w w7):O5 w w7 b x D nm L K:=
 ⟨x',D,hc,hb,by rw[hd];exact h.dash.AF E h.ne,E,fun j hj=> .inl (by rw[<-hd];exact hj)⟩
theorem SB.G8{i:Nat}{v:Value}{R:World->Prop}(h:SB w b x D)(hs:(AQ.cells LG x).set i v=AQ.cells LG x')(hi:i<30)(hd:BQ x'=BQ x)(hc:Ba nm L K (er x,D)= .ok (er x',D))(E:Ext (fun _=>False) w w7)(k:∀w8,O5 w w8 b x D nm L K->R w8):Sh.St w7 ⟨b,i,none⟩ v R:=by
 refine DE (E.AR h.AR id) (xt x hi) fun w8 hb8 e8=>k w8 ?_
 rw[hs]at hb8;exact h.done hd hc hb8 ((AY E).tr e8)
theorem Z0 (h:OV w s L){i:Nat}(hi:i<L.length):L[i]?=some (L.getD i CV.Bk):=by
 rw[aE,al hi]
 rfl
theorem vq (hb:SB w b x D)(h:OV w s L)(hL:L.length=6)(hn:bl a=[99,109]):C40 (some ⟨b,0,none⟩) (a,s,d) w (fun w1=>O5 w w1 b x D (bl a) L K) fun v w1=>iu w w1 b x D (bl a) L K v:=by
 refine T40 _ (a,s,d) _ _ _ ?_;unfold S40;refine (Hn.start w).nw fun w2 H=>?_
 simp only[ae]at H
 iterate 3 refine H.ld 0 rfl rfl ?_
 refine (iY (h.AB H.ext) (by omega)).mono ?_ ?_;rotate_left
 ·rintro v w3 ⟨e,he,rfl,e3⟩;exact ⟨e,by rw[hn,NK];unfold DC;rw[he],rfl,AY (H.ext.tr e3)⟩
 rintro r w3 ⟨l,vT,ho,pD,e3⟩;have E3:Ext (fun _=>False) w w3.drew:=(H.ext.tr e3).drew;have hv:IV w3.drew r l:=ho.iv.AB (Ext.refl _ w3).drew;have Q7:=E3.AR hb.AR id;have Av:=Q7.lt;clear H;refine ⟨fun w'=>IV w' r l,hv,?_⟩;refine Jn hv (fun _ h=>h) (i:=0) (by omega) rfl ?_;refine Jn hv (fun _ h=>h) (i:=1) (by omega) rfl ?_;refine Jn hv (fun _ h=>h) (i:=2) (by omega) rfl ?_;refine Jn hv (fun _ h=>h) (i:=3) (by omega) rfl ?_;refine Jn hv (fun _ h=>h) (i:=4) (by omega) rfl ?_;refine Jn hv (fun _ h=>h) (i:=5) (by omega) rfl ?_;refine ⟨?_,?_⟩
 ·skip
  refine (Hn.start w3.drew).nw fun w4 H=>?_
  simp only[ae]at H
  iterate 6 (refine H.st 0 rfl (by simp) fun _ H=>?_;simp only[aa,ab]at H)
  have H:=H.drew;have hb4:=H.ext.AR Q7 id;refine ⟨fun w'=>AO w' w3.drew.heap.size #[.int .i64 (l.getD 0 0),.int .i64 (l.getD 1 0),.int .i64 (l.getD 2 0),.int .i64 (l.getD 3 0),.int .i64 (l.getD 4 0),.int .i64 (l.getD 5 0)] 24/\AO w' b (AQ.cells LG x).toArray 40,⟨H.get 0 rfl,hb4⟩,?_⟩;simp only[add_lit,ah]
  iterate 6 refine AP.of (fun _ h=>h.1) rfl ?_
  refine Nn.of ?_;simp only[add_lit,ah]
  iterate 6 refine AP.of (fun _ h=>h.2) rfl ?_
  refine (Wg (mx l) (Ej x) _).mono ?_;rintro m e w5 ⟨hm,e5⟩;have H:=H.AB e5
  iterate 6 (refine H.st 0 rfl (by simp) fun _ H=>?_;simp only[aa,ab]at H)
  have E6:=E3.tr H.ext;refine (A8 _ e _).mono ?_ ?_
  ·rintro w7 ⟨he,rfl⟩
   iterate 6 refine H.ld 0 rfl rfl ?_
   cases Vw:DT (mx l) (Ej x)with
   |none=>
    rw[Vw]at hm;cases hm;cases he
   |some mm=>
    rw[Vw]at hm;cases hm;refine Nn.of ?_;simp only[add_lit,ah];refine DE (E6.AR hb.AR id) (show 0<30 by decide) fun _ g0 f0=>DE g0 (show 1<30 by decide) fun _ g1 f1=>DE g1 (show 2<30 by decide) fun _ g2 f2=>DE g2 (show 3<30 by decide) fun _ g3 f3=>DE g3 (show 4<30 by decide) fun _ g4 f4=>DE g4 (show 5<30 by decide) fun _ g5 f5=>?_
    rw[ACE x m]at g5;refine hb.done (x':=Rt x m) (qA x m) ?_ g5 ((AY E6).tr (f0.tr (f1.tr (f2.tr (f3.tr (f4.tr f5))))));rw[hn,NK,A7 _ vT,HP (by rw[<-Vw];exact aq _ (JO x)),ACm]
  ·rintro v w7 ⟨rfl,he,rfl⟩;cases Vw:DT (mx l) (Ej x)with
   |some mm=>
    rw[Vw]at hm;cases hm;cases he
   |none=>
    rw[Vw]at hm;cases hm;refine ⟨2,?_,rfl,AY E6⟩;rw[hn,NK,A7 _ vT,HR (by rw[<-Vw];exact aq _ (JO x))]
 ·skip
  refine (Hn.start w3.drew).nw fun w4 H=>?_
  simp only[ae]at H;refine ⟨hv.AB H.ext,?_⟩
  iterate 6 (refine H.st 0 rfl (by simp) fun _ H=>?_;simp only[aa,ab]at H)
  have H:=H.drew;have hb4:=H.ext.AR Q7 id;refine ⟨fun w'=>AO w' w3.drew.heap.size #[.int .i64 (l.getD 0 0),.int .i64 (l.getD 1 0),.int .i64 (l.getD 2 0),.int .i64 (l.getD 3 0),.int .i64 (l.getD 4 0),.int .i64 (l.getD 5 0)] 24/\AO w' b (AQ.cells LG x).toArray 40,⟨H.get 0 rfl,hb4⟩,?_⟩;simp only[add_lit,ah]
  iterate 6 refine AP.of (fun _ h=>h.1) rfl ?_
  refine Nn.of ?_;simp only[add_lit,ah]
  iterate 6 refine AP.of (fun _ h=>h.2) rfl ?_
  refine (Wg (mx l) (Ej x) _).mono ?_;rintro m e w5 ⟨hm,e5⟩;have H:=H.AB e5
  iterate 6 (refine H.st 0 rfl (by simp) fun _ H=>?_;simp only[aa,ab]at H)
  have E6:=E3.tr H.ext;refine (A8 _ e _).mono ?_ ?_
  ·rintro w7 ⟨he,rfl⟩
   iterate 6 refine H.ld 0 rfl rfl ?_
   cases Vw:DT (mx l) (Ej x)with
   |none=>
    rw[Vw]at hm;cases hm;cases he
   |some mm=>
    rw[Vw]at hm;cases hm;refine Nn.of ?_;simp only[add_lit,ah];refine DE (E6.AR hb.AR id) (show 0<30 by decide) fun _ g0 f0=>DE g0 (show 1<30 by decide) fun _ g1 f1=>DE g1 (show 2<30 by decide) fun _ g2 f2=>DE g2 (show 3<30 by decide) fun _ g3 f3=>DE g3 (show 4<30 by decide) fun _ g4 f4=>DE g4 (show 5<30 by decide) fun _ g5 f5=>?_
    rw[ACE x m]at g5;refine hb.done (x':=Rt x m) (qA x m) ?_ g5 ((AY E6).tr (f0.tr (f1.tr (f2.tr (f3.tr (f4.tr f5))))));rw[hn,NK,A7 _ vT,HP (by rw[<-Vw];exact aq _ (JO x)),ACm]
  ·rintro v w7 ⟨rfl,he,rfl⟩;cases Vw:DT (mx l) (Ej x)with
   |some mm=>
    rw[Vw]at hm;cases hm;cases he
   |none=>
    rw[Vw]at hm;cases hm;refine ⟨2,?_,rfl,AY E6⟩;rw[hn,NK,A7 _ vT,HR (by rw[<-Vw];exact aq _ (JO x))]
end
end FA
namespace FA
open Sh CV LB
attribute [local irreducible] Ld Sh.St Nw Nn Lt AP Ab Am Ak
section
variable {w w' w1 w7:World} {s:AA} {l:List Int} {L K:List Ob} {b:Nat} {x x':G} {D:List Int} {a d:ByteArray} {nm:By}
theorem Vx (hb:SB w b x D)(h:OV w s L)(Tw:CK (bl a) L (bl d)=0)(VG:bl a∈([[84,99],[84,119],[84,122],[84,76],[84,115],[84,102],[84,114]]:List By)):C45 (some ⟨b,22,none⟩) (a,s,d) w (fun r w1=>r=true/\O5 w w1 b x D (bl a) L K) fun v w1=>iu w w1 b x D (bl a) L K v:=by
 refine T45 _ (a,s,d) _ _ _ ?_;unfold S45;refine (Hn.start w).nw fun w2 H=>?_
 simp only[ae]at H;have hlen:=(ACo Tw).2.1;have hLl:=h.1
 iterate 1 refine H.ld 0 rfl rfl ?_
 refine Ks (fun q=>?_) fun q=>?_
 ·have q:bl a=[84,99]:=q;have IM:L.length=1:=by rw[q]at hlen;exact hlen.symm
  have hx:=Z0 h (i:=0) (by omega);refine H.ld 0 rfl rfl ?_;obtain ⟨ad,ha,c0,c1,c2,c3,c4,c5⟩:=(h.AB H.ext).get hx;rw[ha];refine ⟨by omega,by omega,Nn.of (Ld.mk c0 (Ld.mk c1 (Ld.mk c2 (Ld.mk c3 (Ld.mk c4 (Ld.mk c5 ?_))))))⟩;refine (It _ _).mono ?_ ?_
  ·rintro r w3 ⟨hr,e3⟩;refine Nn.of ?_;simp only[add_lit,ah];refine hb.G8 (AB6 x r) (by decide) (vc x r) ?_ (H.ext.tr e3) fun w8 h8=>⟨by trivial,h8⟩
   rw[q,iZ,A7 _ (show num (Bk L)=_ from hr),ACe]
  ·rintro v w3 ⟨e,he,rfl,e3⟩;refine ⟨e,?_,rfl,AY (H.ext.tr e3)⟩;rw[q,iZ,BV _ (show num (Bk L)=_ from he)]
 refine Ks (fun q=>?_) fun q=>?_
 ·have q:bl a=[84,119]:=q;have IM:L.length=1:=by rw[q]at hlen;exact hlen.symm
  have hx:=Z0 h (i:=0) (by omega);refine H.ld 0 rfl rfl ?_;obtain ⟨ad,ha,c0,c1,c2,c3,c4,c5⟩:=(h.AB H.ext).get hx;rw[ha];refine ⟨by omega,by omega,Nn.of (Ld.mk c0 (Ld.mk c1 (Ld.mk c2 (Ld.mk c3 (Ld.mk c4 (Ld.mk c5 ?_))))))⟩;refine (It _ _).mono ?_ ?_
  ·rintro r w3 ⟨hr,e3⟩;refine Nn.of ?_;simp only[add_lit,ah];refine hb.G8 (AB7 x r) (by decide) (ve x r) ?_ (H.ext.tr e3) fun w8 h8=>⟨by trivial,h8⟩
   rw[q,ia,A7 _ (show num (Bk L)=_ from hr),ACf]
  ·rintro v w3 ⟨e,he,rfl,e3⟩;refine ⟨e,?_,rfl,AY (H.ext.tr e3)⟩;rw[q,ia,BV _ (show num (Bk L)=_ from he)]
 refine Ks (fun q=>?_) fun q=>?_
 ·have q:bl a=[84,122]:=q;have IM:L.length=1:=by rw[q]at hlen;exact hlen.symm
  have hx:=Z0 h (i:=0) (by omega);refine H.ld 0 rfl rfl ?_;obtain ⟨ad,ha,c0,c1,c2,c3,c4,c5⟩:=(h.AB H.ext).get hx;rw[ha];refine ⟨by omega,by omega,Nn.of (Ld.mk c0 (Ld.mk c1 (Ld.mk c2 (Ld.mk c3 (Ld.mk c4 (Ld.mk c5 ?_))))))⟩;refine (It _ _).mono ?_ ?_
  ·rintro r w3 ⟨hr,e3⟩;refine Nn.of ?_;simp only[add_lit,ah];refine hb.G8 (AB8 x r) (by decide) (vf x r) ?_ (H.ext.tr e3) fun w8 h8=>⟨by trivial,h8⟩
   rw[q,ic,A7 _ (show num (Bk L)=_ from hr),ACg]
  ·rintro v w3 ⟨e,he,rfl,e3⟩;refine ⟨e,?_,rfl,AY (H.ext.tr e3)⟩;rw[q,ic,BV _ (show num (Bk L)=_ from he)]
 refine Ks (fun q=>?_) fun q=>?_
 ·have q:bl a=[84,76]:=q;have IM:L.length=1:=by rw[q]at hlen;exact hlen.symm
  have hx:=Z0 h (i:=0) (by omega);refine H.ld 0 rfl rfl ?_;obtain ⟨ad,ha,c0,c1,c2,c3,c4,c5⟩:=(h.AB H.ext).get hx;rw[ha];refine ⟨by omega,by omega,Nn.of (Ld.mk c0 (Ld.mk c1 (Ld.mk c2 (Ld.mk c3 (Ld.mk c4 (Ld.mk c5 ?_))))))⟩;refine (It _ _).mono ?_ ?_
  ·rintro r w3 ⟨hr,e3⟩;refine Nn.of ?_;simp only[add_lit,ah];refine hb.G8 (AB9 x r) (by decide) (vg x r) ?_ (H.ext.tr e3) fun w8 h8=>⟨by trivial,h8⟩
   rw[q,ie,A7 _ (show num (Bk L)=_ from hr),ACh]
  ·rintro v w3 ⟨e,he,rfl,e3⟩;refine ⟨e,?_,rfl,AY (H.ext.tr e3)⟩;rw[q,ie,BV _ (show num (Bk L)=_ from he)]
 refine Ks (fun q=>?_) fun q=>?_
 ·have q:bl a=[84,115]:=q;have IM:L.length=1:=by rw[q]at hlen;exact hlen.symm
  have hx:=Z0 h (i:=0) (by omega);refine H.ld 0 rfl rfl ?_;obtain ⟨ad,ha,c0,c1,c2,c3,c4,c5⟩:=(h.AB H.ext).get hx;rw[ha];refine ⟨by omega,by omega,Nn.of (Ld.mk c0 (Ld.mk c1 (Ld.mk c2 (Ld.mk c3 (Ld.mk c4 (Ld.mk c5 ?_))))))⟩;refine (It _ _).mono ?_ ?_
  ·rintro r w3 ⟨hr,e3⟩;refine Nn.of ?_;simp only[add_lit,ah];refine hb.G8 (ACB x r) (by decide) (vj x r) ?_ (H.ext.tr e3) fun w8 h8=>⟨by trivial,h8⟩
   rw[q,ig,A7 _ (show num (Bk L)=_ from hr),ACj]
  ·rintro v w3 ⟨e,he,rfl,e3⟩;refine ⟨e,?_,rfl,AY (H.ext.tr e3)⟩;rw[q,ig,BV _ (show num (Bk L)=_ from he)]
 refine Ks (fun q=>?_) fun q=>?_
 ·have q:bl a=[84,102]:=q;have IM:L.length=2:=by rw[q]at hlen;exact hlen.symm
  have hx:=Z0 h (i:=1) (by omega);refine H.ld 0 rfl rfl ?_;obtain ⟨ad,ha,c0,c1,c2,c3,c4,c5⟩:=(h.AB H.ext).get hx;rw[ha];refine ⟨by omega,by omega,Nn.of (Ld.mk c0 (Ld.mk c1 (Ld.mk c2 (Ld.mk c3 (Ld.mk c4 (Ld.mk c5 ?_))))))⟩;refine (It _ _).mono ?_ ?_
  ·rintro r w3 ⟨hr,e3⟩;have H:=H.AB e3;refine H.ld 0 rfl rfl ?_;obtain ⟨ad2,MT,c0,c1,c2,c3,c4,c5⟩:=(h.AB H.ext).get (Z0 h (i:=0) (by omega));rw[MT];refine ⟨by omega,by omega,Nn.of (Ld.mk c3 (Nn.of ?_))⟩;simp only[add_lit,ah];refine DE (H.ext.AR hb.AR id) (xt x (by decide)) fun w5 g5 e5=>Nn.of ?_
   rw[ACC]at g5;simp only[add_lit,ah];refine DE g5 (xt _ (by decide)) fun w6 g6 e6=>?_
   rw[ACA]at g6;refine ⟨by trivial,hb.done (x':=Qh (Qi x (L.getD 0 CV.Bk).2.2.2.1) r) ((vh _ _).trans (vk _ _)) ?_ g6 ((AY H.ext).tr (e5.tr e6))⟩;rw[q,ir,A7 _ (show num (fN L)=_ from hr),ACi,ACk]
   rfl
  ·rintro v w3 ⟨e,he,rfl,e3⟩;refine ⟨e,?_,rfl,AY (H.ext.tr e3)⟩;rw[q,ir,BV _ (show num (fN L)=_ from he)]
 refine Ks (fun q=>?_) fun q=>?_
 ·have q:bl a=[84,114]:=q;have IM:L.length=1:=by rw[q]at hlen;exact hlen.symm
  have hx:=Z0 h (i:=0) (by omega);refine H.ld 0 rfl rfl ?_;obtain ⟨ad,ha,c0,c1,c2,c3,c4,c5⟩:=(h.AB H.ext).get hx;rw[ha];refine ⟨by omega,by omega,Nn.of (Ld.mk c0 (Ld.mk c1 (Ld.mk c2 (Ld.mk c3 (Ld.mk c4 (Ld.mk c5 ?_))))))⟩;refine (iX _ 7 (by omega) _).mono ?_ ?_
  ·rintro r w3 ⟨hr,e3⟩;refine Nn.of ?_;simp only[add_lit,ah];refine hb.G8 (ACD x r) (by decide) (vl x r) ?_ (H.ext.tr e3) fun w8 h8=>⟨by trivial,h8⟩
   rw[q,ij,A7 _ (show N3 (Bk L) 7=_ from hr),ACl]
  ·rintro v w3 ⟨e,he,rfl,e3⟩;refine ⟨e,?_,rfl,AY (H.ext.tr e3)⟩;rw[q,ij,BV _ (show N3 (Bk L) 7=_ from he)]
 exfalso;simp only[aw,aG,bA]at VG;rename_i q1 q2 q3 q4 q5 q6;rcases VG with h|h|h|h|h|h|h<;>contradiction
end
end FA
namespace FA
open Sh CV LB
attribute [local irreducible] Ld Sh.St Nw Nn Lt AP Ab Am Ak
section
variable {w w' w1 w7:World} {s:AA} {l:List Int} {L K:List Ob} {b:Nat} {x x':G} {D:List Int} {a d:ByteArray} {nm:By}
theorem ACp (hb:SB w b x D)(h:OV w s L)(Tw:CK (bl a) L (bl d)=0)(hK:OV w (Bk L).2.2.2.2.2 K)(hKl:K.length<=9223372036854775807)(hkn:bl a∈known)(pg:bl a≠[113])(j6:bl a≠[81]):C21 (some ⟨b,0,none⟩) (a,s,d) w (fun r w1=>r=true/\O5 w w1 b x D (bl a) L K) fun v w1=>iu w w1 b x D (bl a) L K v:=by
 refine T21 _ (a,s,d) _ _ _ ?_;unfold S21;refine (Hn.start w).nw fun w2 H=>?_
 simp only[ae]at H;have hlen:=(ACo Tw).2.1;have hLl:=h.1
 iterate 1 refine H.ld 0 rfl rfl ?_
 refine Ks (fun q=>?_) fun q=>?_
 ·have q:bl a=[99,109]:=q;have IM:L.length=6:=by rw[q]at hlen;exact hlen.symm
  iterate 3 refine H.ld 0 rfl rfl ?_
  have e2:=H.ext;have LY:SB w2 b x D:=⟨e2.AR hb.AR id,hb.dash.AB e2,hb.ne⟩
  refine (vq (K:=K) LY (h.AB e2) IM q).mono ?_ ?_
  ·rintro w3 ⟨x',D',h1,h2,h3,h4,h5⟩;exact ⟨rfl,x',D',h1,h2,h3,(AY e2).tr h4,fun j hj=>(h5 j hj).imp id fun hh=>by have:=e2.size;omega⟩
  ·rintro v w3 ⟨e,h1,rfl,h3⟩;exact ⟨e,h1,rfl,(AY e2).tr h3⟩
 refine Ks (fun q=>?_) fun q=>?_
 ·have q:bl a=[119]:=q;have IM:L.length=1:=by rw[q]at hlen;exact hlen.symm
  have hx:=Z0 h (i:=0) (by omega);refine H.ld 0 rfl rfl ?_;obtain ⟨ad,ha,c0,c1,c2,c3,c4,c5⟩:=(h.AB H.ext).get hx;rw[ha];refine ⟨by omega,by omega,Nn.of (Ld.mk c0 (Ld.mk c1 (Ld.mk c2 (Ld.mk c3 (Ld.mk c4 (Ld.mk c5 ?_))))))⟩;refine (XW _ _).mono ?_ ?_
  ·rintro r w3 ⟨hr,e3⟩;refine Nn.of ?_;simp only[add_lit,ah];refine hb.G8 (AOI x r) (by decide) (ACZ x r) ?_ (H.ext.tr e3) fun w8 h8=>⟨by trivial,h8⟩
   rw[q,qC,A7 _ (show Kn (Bk L)=_ from hr),AOM]
  ·rintro v w3 ⟨e,he,rfl,e3⟩;refine ⟨e,?_,rfl,AY (H.ext.tr e3)⟩;rw[q,qC,BV _ (show Kn (Bk L)=_ from he)]
 refine Ks (fun q=>?_) fun q=>?_
 ·have q:bl a=[77]:=q;have IM:L.length=1:=by rw[q]at hlen;exact hlen.symm
  have hx:=Z0 h (i:=0) (by omega);refine H.ld 0 rfl rfl ?_;obtain ⟨ad,ha,c0,c1,c2,c3,c4,c5⟩:=(h.AB H.ext).get hx;rw[ha];refine ⟨by omega,by omega,Nn.of (Ld.mk c0 (Ld.mk c1 (Ld.mk c2 (Ld.mk c3 (Ld.mk c4 (Ld.mk c5 ?_))))))⟩;refine (XW _ _).mono ?_ ?_
  ·rintro r w3 ⟨hr,e3⟩;refine Nn.of ?_;simp only[add_lit,ah];refine hb.G8 (AOL x r) (by decide) (ACc x r) ?_ (H.ext.tr e3) fun w8 h8=>⟨by trivial,h8⟩
   rw[q,qD,A7 _ (show Kn (Bk L)=_ from hr),AOP]
  ·rintro v w3 ⟨e,he,rfl,e3⟩;refine ⟨e,?_,rfl,AY (H.ext.tr e3)⟩;rw[q,qD,BV _ (show Kn (Bk L)=_ from he)]
 refine Ks (fun q=>?_) fun q=>?_
 ·have q:bl a=[74]:=q;have IM:L.length=1:=by rw[q]at hlen;exact hlen.symm
  have hx:=Z0 h (i:=0) (by omega);refine H.ld 0 rfl rfl ?_;obtain ⟨ad,ha,c0,c1,c2,c3,c4,c5⟩:=(h.AB H.ext).get hx;rw[ha];refine ⟨by omega,by omega,Nn.of (Ld.mk c0 (Ld.mk c1 (Ld.mk c2 (Ld.mk c3 (Ld.mk c4 (Ld.mk c5 ?_))))))⟩;refine (iX _ 2 (by omega) _).mono ?_ ?_
  ·rintro r w3 ⟨hr,e3⟩;refine Nn.of ?_;simp only[add_lit,ah];refine hb.G8 (AOJ x r) (by decide) (ACa x r) ?_ (H.ext.tr e3) fun w8 h8=>⟨by trivial,h8⟩
   rw[q,qE,A7 _ (show N3 (Bk L) 2=_ from hr),AON]
  ·rintro v w3 ⟨e,he,rfl,e3⟩;refine ⟨e,?_,rfl,AY (H.ext.tr e3)⟩;rw[q,qE,BV _ (show N3 (Bk L) 2=_ from he)]
 refine Ks (fun q=>?_) fun q=>?_
 ·have q:bl a=[106]:=q;have IM:L.length=1:=by rw[q]at hlen;exact hlen.symm
  have hx:=Z0 h (i:=0) (by omega);refine H.ld 0 rfl rfl ?_;obtain ⟨ad,ha,c0,c1,c2,c3,c4,c5⟩:=(h.AB H.ext).get hx;rw[ha];refine ⟨by omega,by omega,Nn.of (Ld.mk c0 (Ld.mk c1 (Ld.mk c2 (Ld.mk c3 (Ld.mk c4 (Ld.mk c5 ?_))))))⟩;refine (iX _ 2 (by omega) _).mono ?_ ?_
  ·rintro r w3 ⟨hr,e3⟩;refine Nn.of ?_;simp only[add_lit,ah];refine hb.G8 (AOK x r) (by decide) (ACb x r) ?_ (H.ext.tr e3) fun w8 h8=>⟨by trivial,h8⟩
   rw[q,qF,A7 _ (show N3 (Bk L) 2=_ from hr),AOO]
  ·rintro v w3 ⟨e,he,rfl,e3⟩;refine ⟨e,?_,rfl,AY (H.ext.tr e3)⟩;rw[q,qF,BV _ (show N3 (Bk L) 2=_ from he)]
 refine Ks (fun q=>?_) fun q=>?_
 ·have q:bl a=[100]:=q;have IM:L.length=2:=by rw[q]at hlen;exact hlen.symm
  iterate 3 refine H.ld 0 rfl rfl ?_
  have e2:=H.ext;refine (vp (e2.AR hb.AR id) (h.AB e2) IM (hK.AB e2) hKl).mono ?_ ?_
  ·rintro w3 ⟨r,h1,t,h2,h3,h4⟩;refine ⟨by trivial,Al (TE x r.2) t,r.1,?_,h2,h3.iv,(AY e2).tr h4,fun j hj=> .inr ⟨by have:=e2.size;have:=h3.2 j hj;omega,h3.1.own_lt hj⟩⟩;rw[q,qK,A7 _ h1,XV,ACd]
  ·rintro v w3 ⟨e,h1,rfl,h3⟩;refine ⟨e,?_,rfl,(AY e2).tr h3⟩;rw[q,qK,BV _ h1]
 refine Ks (fun q=>?_) fun q=>?_
 ·have q:bl a=[103]:=q;have IM:L.length=1:=by rw[q]at hlen;exact hlen.symm
  iterate 3 refine H.ld 0 rfl rfl ?_
  have e2:=H.ext;refine (O4 0 (h.AB e2) (by omega)).mono ?_ ?_
  ·rintro r w3 ⟨hr,e3⟩;have E:=e2.tr e3;refine Nn.of ?_;simp only[add_lit,ah];refine DE (E.AR hb.AR id) (show 12<30 by decide) fun _ g0 f0=>DE g0 (show 13<30 by decide) fun _ g1 f1=>DE g1 (show 14<30 by decide) fun _ g2 f2=>DE g2 (show 15<30 by decide) fun _ g3 f3=>DE g3 (show 16<30 by decide) fun _ g4 f4=>?_
   have g4:=g4;rw[vZ x r]at g4;refine ⟨by trivial,hb.done (x':=Nb x r) (iT x r) ?_ g4 ((AY E).tr (f0.tr (f1.tr (f2.tr (f3.tr f4)))))⟩;rw[q,qG,A7 _ hr,vm]
  ·rintro v w3 ⟨e,he,rfl,e3⟩;refine ⟨e,?_,rfl,AY (e2.tr e3)⟩;rw[q,qG,BV _ he]
 refine Ks (fun q=>?_) fun q=>?_
 ·have q:bl a=[71]:=q;have IM:L.length=1:=by rw[q]at hlen;exact hlen.symm
  iterate 3 refine H.ld 0 rfl rfl ?_
  have e2:=H.ext;refine (O4 0 (h.AB e2) (by omega)).mono ?_ ?_
  ·rintro r w3 ⟨hr,e3⟩;have E:=e2.tr e3;refine Nn.of ?_;simp only[add_lit,ah];refine DE (E.AR hb.AR id) (show 17<30 by decide) fun _ g0 f0=>DE g0 (show 18<30 by decide) fun _ g1 f1=>DE g1 (show 19<30 by decide) fun _ g2 f2=>DE g2 (show 20<30 by decide) fun _ g3 f3=>DE g3 (show 21<30 by decide) fun _ g4 f4=>?_
   have g4:=g4;rw[va x r]at g4;refine ⟨by trivial,hb.done (x':=Vv x r) (iU x r) ?_ g4 ((AY E).tr (f0.tr (f1.tr (f2.tr (f3.tr f4)))))⟩;rw[q,qH,A7 _ hr,vn]
  ·rintro v w3 ⟨e,he,rfl,e3⟩;refine ⟨e,?_,rfl,AY (e2.tr e3)⟩;rw[q,qH,BV _ he]
 refine Ks (fun q=>?_) fun q=>?_
 ·have q:bl a=[114,103]:=q;have IM:L.length=3:=by rw[q]at hlen;exact hlen.symm
  iterate 3 refine H.ld 0 rfl rfl ?_
  have e2:=H.ext;refine (O4 1 (h.AB e2) (by omega)).mono ?_ ?_
  ·rintro r w3 ⟨hr,e3⟩;have E:=e2.tr e3;refine Nn.of ?_;simp only[add_lit,ah];refine DE (E.AR hb.AR id) (show 12<30 by decide) fun _ g0 f0=>DE g0 (show 13<30 by decide) fun _ g1 f1=>DE g1 (show 14<30 by decide) fun _ g2 f2=>DE g2 (show 15<30 by decide) fun _ g3 f3=>DE g3 (show 16<30 by decide) fun _ g4 f4=>?_
   have g4:=g4;rw[vZ x r]at g4;refine ⟨by trivial,hb.done (x':=Nb x r) (iT x r) ?_ g4 ((AY E).tr (f0.tr (f1.tr (f2.tr (f3.tr f4)))))⟩;rw[q,il,A7 _ hr,vm]
  ·rintro v w3 ⟨e,he,rfl,e3⟩;refine ⟨e,?_,rfl,AY (e2.tr e3)⟩;rw[q,il,BV _ he]
 refine Ks (fun q=>?_) fun q=>?_
 ·have q:bl a=[82,71]:=q;have IM:L.length=3:=by rw[q]at hlen;exact hlen.symm
  iterate 3 refine H.ld 0 rfl rfl ?_
  have e2:=H.ext;refine (O4 1 (h.AB e2) (by omega)).mono ?_ ?_
  ·rintro r w3 ⟨hr,e3⟩;have E:=e2.tr e3;refine Nn.of ?_;simp only[add_lit,ah];refine DE (E.AR hb.AR id) (show 17<30 by decide) fun _ g0 f0=>DE g0 (show 18<30 by decide) fun _ g1 f1=>DE g1 (show 19<30 by decide) fun _ g2 f2=>DE g2 (show 20<30 by decide) fun _ g3 f3=>DE g3 (show 21<30 by decide) fun _ g4 f4=>?_
   have g4:=g4;rw[va x r]at g4;refine ⟨by trivial,hb.done (x':=Vv x r) (iU x r) ?_ g4 ((AY E).tr (f0.tr (f1.tr (f2.tr (f3.tr f4)))))⟩;rw[q,iq,A7 _ hr,vn]
  ·rintro v w3 ⟨e,he,rfl,e3⟩;refine ⟨e,?_,rfl,AY (e2.tr e3)⟩;rw[q,iq,BV _ he]
 refine Ks (fun q=>?_) fun q=>?_
 ·have q:bl a=[107]:=q;have IM:L.length=4:=by rw[q]at hlen;exact hlen.symm
  iterate 3 refine H.ld 0 rfl rfl ?_
  have e2:=H.ext;refine (O4 2 (h.AB e2) (by omega)).mono ?_ ?_
  ·rintro r w3 ⟨hr,e3⟩;have E:=e2.tr e3;refine Nn.of ?_;simp only[add_lit,ah];refine DE (E.AR hb.AR id) (show 12<30 by decide) fun _ g0 f0=>DE g0 (show 13<30 by decide) fun _ g1 f1=>DE g1 (show 14<30 by decide) fun _ g2 f2=>DE g2 (show 15<30 by decide) fun _ g3 f3=>DE g3 (show 16<30 by decide) fun _ g4 f4=>?_
   have g4:=g4;rw[vZ x r]at g4;refine ⟨by trivial,hb.done (x':=Nb x r) (iT x r) ?_ g4 ((AY E).tr (f0.tr (f1.tr (f2.tr (f3.tr f4)))))⟩;rw[q,qI,A7 _ hr,vm]
  ·rintro v w3 ⟨e,he,rfl,e3⟩;refine ⟨e,?_,rfl,AY (e2.tr e3)⟩;rw[q,qI,BV _ he]
 refine Ks (fun q=>?_) fun q=>?_
 ·have q:bl a=[75]:=q;have IM:L.length=4:=by rw[q]at hlen;exact hlen.symm
  iterate 3 refine H.ld 0 rfl rfl ?_
  have e2:=H.ext;refine (O4 2 (h.AB e2) (by omega)).mono ?_ ?_
  ·rintro r w3 ⟨hr,e3⟩;have E:=e2.tr e3;refine Nn.of ?_;simp only[add_lit,ah];refine DE (E.AR hb.AR id) (show 17<30 by decide) fun _ g0 f0=>DE g0 (show 18<30 by decide) fun _ g1 f1=>DE g1 (show 19<30 by decide) fun _ g2 f2=>DE g2 (show 20<30 by decide) fun _ g3 f3=>DE g3 (show 21<30 by decide) fun _ g4 f4=>?_
   have g4:=g4;rw[va x r]at g4;refine ⟨by trivial,hb.done (x':=Vv x r) (iU x r) ?_ g4 ((AY E).tr (f0.tr (f1.tr (f2.tr (f3.tr f4)))))⟩;rw[q,qJ,A7 _ hr,vn]
  ·rintro v w3 ⟨e,he,rfl,e3⟩;refine ⟨e,?_,rfl,AY (e2.tr e3)⟩;rw[q,qJ,BV _ he]
 have same:Ba (bl a) L K (er x,D)= .ok (er x,D)->O5 w w2 b x D (bl a) L K:=fun hc=>hb.done rfl hc (H.ext.AR hb.AR id) (AY H.ext)
 refine Ks (fun q=>⟨rfl,same (by rw[show bl a=[105]from q];rfl)⟩) fun q=>?_
 have tx:bl a∈([[84,99],[84,119],[84,122],[84,76],[84,115],[84,102],[84,114]]:List By)->bl a≠[114,105]->True:=fun _ _=>trivial
 refine Ks (fun q=>Ks (fun q=>⟨rfl,same (by rw[show bl a=[114,105]from q];rfl)⟩) fun q2=>absurd q q2) fun q=>Ks (fun q=>⟨rfl,same (by rw[show bl a=[103,115]from q];rfl)⟩) fun q2=>?_
 refine Nn.of ?_;have H:=H.drew
 iterate 3 refine H.ld 0 rfl rfl ?_
 have e2:=H.ext;have LY:SB w2.drew b x D:=⟨e2.AR hb.AR id,hb.dash.AB e2,hb.ne⟩
 simp only[add_lit,ah];refine (Vx (K:=K) LY (h.AB e2) Tw ?_).mono ?_ ?_
 ·unfold known at hkn;simp only[aw,aG,bA]at hkn⊢;rcases hkn with hh|hh|hh|hh|hh|hh|hh|hh|hh|hh|hh|hh|hh|hh|hh|hh|hh|hh|hh|hh|hh|hh|hh|hh<;>first
   |contradiction
   |exact .inl hh
   |exact .inr (.inl hh)
   |exact .inr (.inr (.inl hh))
   |exact .inr (.inr (.inr (.inl hh)))
   |exact .inr (.inr (.inr (.inr (.inl hh))))
   |exact .inr (.inr (.inr (.inr (.inr (.inl hh)))))
   |exact .inr (.inr (.inr (.inr (.inr (.inr hh)))))
 ·rintro r w3 ⟨rfl,x',D',h1,h2,h3,h4,h5⟩;exact ⟨rfl,x',D',h1,h2,h3,(AY e2).tr h4,fun j hj=>(h5 j hj).imp id fun hh=>by have:=e2.size;omega⟩
 ·rintro v w3 ⟨e,h1,rfl,h3⟩;exact ⟨e,h1,rfl,(AY e2).tr h3⟩
end
end FA
section
namespace Sh
section
variable {P:Program} {t e:TypeId} {k B:Nat} {z:Value} {w:World} {s:AA} {ty:TypeId} {xs ys news:List Value} {i:TypeInfo} {x:Value} {m len:Nat} {a:Addr}
theorem TM (ht:P.underlying t=some (.slice e))(hi:P.info? e=some i)(hz:i.zero=some z)(xz:z.cells.size=i.size)(hm:0<m)
  (hlen:Builtin.lenOf x=pure m) (Fv:∀w':World,w'.heap=w.heap->(Builtin.firstCells i.size m x).run P w'= .ok news.toArray w') (hl:news.length=m*i.size)
  (LX:xs.length=len*i.size) (holds:∀j v,xs[j]?=some v->w.cell? (a.add j)=some v) (hb:(len+m)*i.bytes<=140737488355328) (h63:len+m<=9223372036854775807):
  ∃s' w',BA P (Builtin.append_ #[t,t] ty #[AA.v ⟨some a,len,len⟩,x]) w (AA.v s') w'/\Row w' s' e i.size (xs++news)/\s'.len=len+m/\Ext (fun _=>False) w w'/\∀j,s'.own j->w.heap.size<=j:=by
 have Hq:(xs++news).length=(len+m)*i.size:=by rw[ai,LX,hl,cu]
 have hd:w.drew.heap=w.heap:=rfl;refine ⟨⟨some ⟨w.heap.size,0,none⟩,len+m,grownCap w (len+m) len e⟩,w.drew.alloc (.cells (xs.toArray++news.toArray++Builtin.zeroCells z.cells (grownCap w (len+m) len e-(len+m))) e),?_,⟨Hq,.inr ⟨_,_,rfl,AO.new w.drew _ e,grownCap_ge w (len+m) len e,?_,?_⟩⟩,rfl,((Ext.refl _ w).drew).alloc _,fun j hj=>?_⟩
 ·have hc:=Fv w.drew hd;have hf:=growslice_fits (need:=len+m) (old:=len) (by omega) hb;have BO:¬(281474976710656<Builtin.nextslicecap (len+m) len*i.bytes):=by omega
  have h6:¬(9223372036854775807<((len:Int)+(m:Int))):=by omega
  have OD:¬(len+m<=len):=by omega
  have hm0:m≠0:=by omega
  have hfo:=run_firstCells_some (P:=P) w.drew i.size len a len len xs LX (fun j v hj=>by have:=holds j v hj;simpa using this);simp[BA,AA.v,Builtin.append_,run_underlying ht,sizeOf,typeInfo,zeroValue,hi,hz,hlen,OD,hm0,h6,BO,Question.forced,hfo,hc,newRow,grownCap]<;>
   (congr 2;apply Array.ext';simp[aO])
 ·have Fh:=grownCap_ge w (len+m) len e;simp only[Array.size_append,cB,size_zeroCells,xz,LX,hl,<-cu]
  congr 1
  omega
 ·simp only[Array.toList_append];rw[<-Hq];exact List.take_left
 ·obtain ⟨a',ha,rfl⟩:=hj;cases ha;exact aB _
theorem El.full(h:El P t e k B z)(hk:0<k){g:Nat}(v:Bb w s k xs)(hc:s.cap=s.len)(hg:AO w g ys.toArray e)(hl:ys.length=k)(h1:∀v∈ys,v.oneCell'=true)(hb:(s.len+1)*B<=140737488355328)(h63:s.len+1<=9223372036854775807):
  ∃s' w',BA P (Builtin.append_ #[t,t] ty #[AA.v s,AA.v ⟨some ⟨g,0,none⟩,1,1⟩]) w (AA.v s') w'/\Row w' s' e k (xs++ys)/\s'.len=s.len+1/\Ext (fun _=>False) w w'/\∀j,s'.own j->w.heap.size<=j:=by
 obtain ⟨p,len,cap⟩:=s;simp only at hc hb h63;subst hc;have LX:xs.length=cap*k:=v.1;cases p with
 |none=>
  have hx:xs=[]:=by
   cases xs with
   |nil=>rfl
   |cons y r=>
    obtain ⟨a,ha,_⟩:=v.2 0 y rfl;cases ha
  subst hx;have hl0:cap=0:=by
   rcases Nat.mul_eq_zero.1 LX.symm with h0|h0
   ·exact h0
   ·omega
  subst hl0;obtain ⟨s',w',r1,r2,r3,r4,r5⟩:=h.Hu (ty:=ty) (s:=⟨none,0,0⟩) (xs:=[]) (Row.nil w e k) hg hl h1 hb h63;have no:∀j,¬(⟨none,0,0⟩:AA).own j:=fun j hj=>by
   obtain ⟨a,ha,_⟩:=hj;cases ha
  exact ⟨s',w',r1,r2,r3,r4.mono fun j _ hj=>no j hj,fun j hj=>(r5 j hj).resolve_left (no j)⟩
 |some a=>
  obtain ⟨i,hi,rfl,rfl,hz⟩:=h.info;refine TM (x:=AA.v ⟨some ⟨g,0,none⟩,1,1⟩) (m:=1) h.und hi hz h.cells (by omega) rfl (fun w' yE=>?_) (by omega) LX (fun j y hj=>?_) hb h63
  ·refine run_firstCells_some w' i.size 1 ⟨g,0,none⟩ 1 1 ys (by omega) fun j y hj=>?_
   rw[add_lit,ah];have:=hg.cell (o:=j);unfold World.cell? at this⊢;rw[yE,this];simpa using hj
  ·obtain ⟨a',ha,hc⟩:=v.2 j y hj;cases ha;exact hc
end
end Sh
namespace FA
open Sh CV LB
def gc1 (x:G):List Value:=AQ.cells LG x
theorem LR (x:G):(gc1 x).length=30:=nK x
abbrev Vy (L:List G):List Value:=L.flatMap gc1
theorem LS (L:List G):(Vy L).length=L.length*30:=by
 induction L with
 |nil=>rfl
 |cons x L ih=>rw[Vy,bB,ai,ih,LR,ar];omega
theorem XX {L:List G}{i j:Nat}{x:G}(hi:L[i]?=some x)(hj:j<30):(Vy L)[i*30+j]?=(AQ.cells LG x)[j]?:=by
 induction L generalizing i with
 |nil=>cases hi
 |cons p L ih=>
  rw[Vy,bB];cases i with
  |zero=>
   cases hi;rw[Nat.zero_mul,ah,bj (by rw[LR];exact hj)]
   rfl
  |succ i=>
   rw[bG (by rw[LR];omega),<-ih (by simpa using hi),LR]
   congr 1
   omega
theorem XY (L M:List G):Vy (L++M)=Vy L++Vy M:=bg
structure TN (w:World) (sv:AA) (L:List G):Prop where
 len:sv.len=L.length
 cap:sv.len<=sv.cap
 at':∀j v,(Vy L)[j]?=some v->∃g,sv.p=some ⟨g,0,none⟩/\w.cell? ⟨g,j,none⟩=some v
theorem TN.nil(w:World):TN w CU []:=⟨rfl,aB _,fun j v h=>by cases h⟩
section
variable {w w' w1 w7:World} {s sv:AA} {l:List Int} {L:List G} {b:Nat} {x x':G} {D:List Int}
theorem TN.AF{F:Nat->Prop}(h:TN w sv L)(he:Ext F w w')(hF:∀j,sv.own j->¬F j):TN w' sv L:=
 ⟨h.len,h.cap,fun j v hj=>by
  obtain ⟨g,ha,hc⟩:=h.at' j v hj;refine ⟨g,ha,?_⟩;rw[he.cell (Cs hc) (hF _ ⟨_,ha,rfl⟩)];exact hc⟩
theorem TN.view(h:TN w sv L):Bb w sv 30 (Vy L):=⟨by rw[LS,h.len],fun j v hj=>by
 obtain ⟨g,ha,hc⟩:=h.at' j v hj;exact ⟨_,ha,by rw[add_lit,ah];exact hc⟩⟩
theorem TN.row{e:TypeId}(h:Row w sv e 30 (Vy L)):TN w sv L:=by
 refine ⟨?_,?_,fun j v hj=>?_⟩
 ·have:=h.1;rw[LS]at this;omega
 ·rcases h.2 with rfl|⟨g,cur,hp,hb,hle,_⟩
  ·exact aB _
  ·exact hle
 ·obtain ⟨g,hp,hc⟩:=h.cell hj;exact ⟨g,hp,hc⟩
theorem TN.take(h:TN w sv L){n:Nat}(hn:n<=L.length):TN w (sv.cut 30 0 n n) (L.take n):=by
 refine ⟨?_,?_,fun j v hj=>?_⟩
 ·show n-0=_;rw[aW];omega
 ·show n-0<=n-0;omega
 ·have hjl:j<(Vy (L.take n)).length:=(ao.1 hj).1;rw[LS,aW]at hjl;obtain ⟨g,ha,hc⟩:=h.at' j v (by
   have:Vy L=Vy (L.take n)++Vy (L.drop n):=by rw[<-XY,bV]
   rw[this,bj (by rw[LS,aW];exact hjl)];exact hj)
  refine ⟨g,?_,hc⟩;show (if n=0 then sv.p else sv.p.map (·.add (0*30)))=_;split
  ·exact ha
  ·rw[ha,Nat.zero_mul]
   rfl
theorem O6 {n j:Nat}(h:(sv.cut 30 0 n n).own j):sv.own j:=by
 obtain ⟨a,ha,rfl⟩:=h
 change (if n=0 then sv.p else sv.p.map (·.add (0*30)))=_ at ha
 split at ha
 ·exact ⟨a,ha,rfl⟩
 ·cases hp:sv.p with
  |none=>rw[hp]at ha;cases ha
  |some a'=>
   rw[hp]at ha;cases ha;exact ⟨a',hp,by rw[B9]⟩
def MO (x:G)(sv:AA)(S:List P)(j:Nat):Prop:=(BQ x).own j\/sv.own j\/∃p,p∈S/\(BQ p.1).own j
structure MV (w:World) (b:Nat) (x:G) (D:List Int) (sv:AA) (S:List P):Prop where
 AR:AO w b (AQ.cells LG x++[AA.v sv]).toArray 57
 dash:IV w (BQ x) D
 OR:D.length<=100
 j8:TN w sv (S.map (·.1))
 each:∀p,p∈S->IV w (BQ p.1) p.2/\p.2.length<=100
 own:∀j,MO x sv S j->j≠b/\j<w.heap.size
 Cf:S.length<=28
def mc (x:G)(D:List Int)(S:List P):Mc:=⟨(er x,D),(S.map fun p=>(er p.1,p.2)).reverse⟩
theorem MV.AF{F:Nat->Prop}{S:List P}(h:MV w b x D sv S)(he:Ext F w w')(hb:¬F b)(ho:∀j,MO x sv S j->¬F j):MV w' b x D sv S:=
 ⟨he.AR h.AR hb,h.dash.AF he fun j hj=>ho j (.inl hj),h.OR,h.j8.AF he fun j hj=>ho j (.inr (.inl hj)),fun p hp=>⟨(h.each p hp).1.AF he fun j hj=>ho j (.inr (.inr ⟨p,hp,hj⟩)),(h.each p hp).2⟩,
  fun j hj=>⟨(h.own j hj).1,by have:=(h.own j hj).2;have:=he.size;omega⟩,h.Cf⟩
theorem MV.AB{S:List P}(h:MV w b x D sv S)(he:Ext (fun _=>False) w w'):MV w' b x D sv S:=h.AF he id fun _ _ e=>e
attribute [local irreducible] Ld Sh.St Nw Nn Lt AP Ab Am Ak
theorem nL (h:IV w s l)(hl:l.length<=1000000):C39 s w fun r w1=>IO w w1 r l/\Ext (fun _=>False) w w1:=by
 refine T39 _ _ _ ?_;unfold S39;obtain ⟨p,n,c⟩:=s;cases p with
 |none=>
  have:l=[]:=by
   cases l with
   |nil=>rfl
   |cons y r=>
    obtain ⟨a,ha,_⟩:=h.2.2 0 _ rfl;cases ha
  subst this;exact ⟨IO.nil _ _,Ext.refl _ _⟩
 |some a=>
  show Nw _ _ _;refine (Hn.start w).nw (cs:=[]) fun w2 H=>?_
  have hb:=H.get 0 rfl;have e2:=H.ext;have hlen:=h.1;obtain ⟨s',w',r1,r2,r3,r4,r5⟩:=elN.app (ty:=34) (s:=⟨some ⟨w.heap.size,0,none⟩,0,0⟩) (xs:=[]) (w:=w2) ⟨by simp,.inr ⟨_,#[],rfl,hb,aB _,by simp,by simp⟩⟩ (h.AB e2).2 (by intro v hv;obtain ⟨y,_,rfl⟩:=cl.1 hv;rfl) (by simp only at hlen⊢;omega) (by simp only at hlen⊢;omega);have ho:∀j,s'.own j->w.heap.size<=j:=fun j hj=>by
   rcases r5 j hj with hh|hh
   ·obtain ⟨a',ha,rfl⟩:=hh;cases ha;exact aB _
   ·have:=e2.size;omega
  refine ⟨s',w',r1,⟨by simpa using r2,ho⟩,Ext.new e2 r4 fun j hj=>?_⟩;obtain ⟨a',ha,rfl⟩:=hj;cases ha;exact aB _
end
end FA
end
namespace FA
open Sh CV LB
section
variable {w0 w w' w1 w7:World} {s sv th:AA} {l:List Int} {b i:Nat} {x x' y:G} {D:List Int} {t:TypeId} {S:List P} {M:List (Nat×List Value×TypeId)} {zs:List Value}
def Wh:G:=(0,0,0,0,0,0,0,0,0,0,CU,0,0,0,0,0,0,0,0,0,0,0,0,0,0,0,0,0,⟨#[]⟩,0)
theorem ldG {K:G->Prop}(h:AO w b (AQ.cells LG x).toArray t)(k:K x):Ab w ⟨b,0,none⟩ 0 LG K:=Ab.AR (pre:=[]) (post:=[]) (by rw[aN];exact h) rfl k
theorem stG {K:World->Prop}(h:Hn w0 w M)(hi:M[i]?=some (b,zs,t))(hz:zs.length=30)(k:∀w2,Hn w0 w2 (M.set i (b,AQ.cells LG x,t))->K w2):Ak ⟨b,0,none⟩ 0 LG x w K:=
 h.stT (pre:=[]) (post:=[]) (by rw[aN];exact hi) rfl hz fun w2 h2=>k w2 (by rw[aN]at h2;exact h2)
theorem ldM {K:G->Prop}(h:AO w b (AQ.cells LG x++[AA.v sv]).toArray t)(k:K x):Ab w ⟨b,0,none⟩ 0 LG K:=Ab.AR (pre:=[]) (post:=[AA.v sv]) h rfl k
theorem AOU {U:World->Prop}{K:G->Prop}(h:∀w,U w->AO w b (AQ.cells LG x++[AA.v sv]).toArray t)(k:K x):Am U ⟨b,0,none⟩ 0 LG K:=Am.AR (pre:=[]) (post:=[AA.v sv]) h rfl k
theorem stM {K:World->Prop}(h:AO w b (AQ.cells LG x++[AA.v sv]).toArray t)(k:∀w2,AO w2 b (AQ.cells LG y++[AA.v sv]).toArray t->Ext (·=b) w w2->K w2):Ak ⟨b,0,none⟩ 0 LG y w K:=
 Ak.AR (pre:=[]) (zs:=AQ.cells LG x) (post:=[AA.v sv]) h rfl rfl k
theorem ACs (x:G)(a c:Value):(AQ.cells LG x++[a]).set 30 c=AQ.cells LG x++[c]:=rfl
theorem ltM (x:G)(a:Value):30<(AQ.cells LG x++[a]).length:=by rw[ai,nK];exact cv 30
theorem atM (x:G)(a:Value):(AQ.cells LG x++[a])[30]?=some a:=rfl
attribute [local irreducible] Ld Sh.St Nw Nn Lt AP Ab Am Ak
theorem ACt {K:AA->Prop}(h:AO w b (AQ.cells LG x++[AA.v sv]).toArray t)(k:K sv):Ld w ⟨b,30,none⟩ AA.v K:=by
 refine Ld.mk ?_ k;rw[h.cell];exact atM x _
theorem iw {U:World->Prop}{K:AA->Prop}(h:∀w,U w->AO w b (AQ.cells LG x++[AA.v sv]).toArray t)(k:K sv):AP U ⟨b,30,none⟩ AA.v K:=by
 unfold AP;exact ⟨sv,fun w hw=>by rw[(h w hw).cell];exact atM x _,k⟩
theorem ACu {c:Value}{K:World->Prop}(h:AO w b (AQ.cells LG x++[AA.v sv]).toArray t)(k:∀w2,AO w2 b (AQ.cells LG x++[c]).toArray t->Ext (·=b) w w2->K w2):Sh.St w ⟨b,30,none⟩ c K:=
 DE h (ltM x _) fun w2 h2 e2=>k w2 (by rw[ACs]at h2;exact h2) e2
theorem NL (h:IV w (BQ x) D)(hl:D.length<=1000000):C20 x w fun r w1=>∃t,r=Al x t/\IO w w1 t D/\Ext (fun _=>False) w w1:=by
 refine T20 _ _ _ ?_;unfold S20;refine (Hn.start w).nw fun w2 H=>?_
 have h12:=H.lt 0 rfl;refine H.nw fun w3 H=>?_
 simp only[ag,ae,add_lit,ah]at H⊢;have h13:=H.lt 0 rfl;have h23:=H.lt 1 rfl;refine H.ld 0 rfl (vb x) ?_;refine (nL (l:=D) (h.AB H.ext) hl).mono ?_;rintro r w4 ⟨ho,e4⟩;have H:=H.AB e4;refine DE (H.get 0 rfl) (xt x (by decide)) fun w5 g5 e5=>?_
 rw[show (AQ.cells A0 x).set 10 (AA.v r)=AQ.cells LG (Al x r)from p9 x r]at g5;refine ldG g5 ?_;refine Ak.AR (pre:=[]) (post:=[]) (zs:=AQ.cells LG Wh) (by rw[aN];exact e5.AR (H.get 1 rfl) (by omega)) rfl rfl fun w6 g6 e6=>?_
 rw[aN]at g6;refine ldG (x:=Al x r) g6 ?_;refine ⟨r,rfl,⟨(ho.1.AB e5 fun j hj=>by have:=ho.2 j hj;omega).AB e6 fun j hj=>by have:=ho.2 j hj;omega,fun j hj=>by have:=ho.2 j hj;omega⟩,?_⟩;exact Ext.new (Ext.new H.ext e5 fun j hj=>by omega) e6 fun j hj=>by omega
def DI (m:Mx):G:=(m.1,m.2.1,m.2.2.1,m.2.2.2.1,m.2.2.2.2.1,m.2.2.2.2.2,10000,0,0,100000,CU,0,0,0,0,0,0,0,0,0,0,0,0,0,1000000,0,0,0,⟨#[]⟩,0)
theorem JP (m:Mx):BQ (DI m)=CU:=rfl
theorem nM (m:Mx)(w:World):C15 m w fun r w1=>r=DI m/\Ext (fun _=>False) w w1:=by
 refine T15 _ _ _ ?_;unfold S15;refine (Hn.start w).nw fun w2 H=>?_
 refine H.nw fun w3 H=>?_
 simp only[ag,ae,add_lit,ah]at H⊢
 iterate 6 refine H.ld 0 rfl rfl ?_
 refine stG H (i:=1) rfl rfl fun w6 H6=>?_
 simp only[aa,ab]at H6;exact ldG (H6.get 1 rfl) ⟨rfl,H6.ext⟩
theorem MV.new{m:Mx}(h:AO w b (AQ.cells LG (DI m)++[AA.v CU]).toArray 57):MV w b (DI m) [] CU []:=by
 refine ⟨h,?_,by decide,TN.nil w,fun p hp=>(aG hp).elim,?_,by decide⟩
 ·rw[JP];exact IV.nil w
 ·rintro j (⟨a,ha,_⟩|⟨a,ha,_⟩|⟨p,hp,_⟩)
  ·rw[JP]at ha;cases ha
  ·cases ha
  ·exact (aG hp).elim
theorem AAs (m:Mx)(w:World):C4 m w fun r w1=>Ext (fun _=>False) w w1/\if CV.De m=true then ∃b,r=some ⟨b,0,none⟩/\w.heap.size<=b/\MV w1 b (DI m) [] CU []else r=none:=by
 refine T4 _ _ _ ?_;unfold S4;refine (Hn.start w).nw fun w2 H=>?_
 simp only[ag,ae,add_lit,ah]at H⊢
 iterate 6 refine H.ld 0 rfl rfl ?_
 refine (DU m _).mono ?_;rintro e w3 ⟨rfl,e3⟩;have H:=H.AB e3;by_cases hm:CV.De m=true
 ·rw[aD hm];refine Br.ne (fun q=>absurd rfl q) fun _=>?_
  iterate 6 refine H.ld 0 rfl rfl ?_
  refine (nM m _).mono ?_;rintro r w4 ⟨rfl,e4⟩;have H:=H.AB e4;have h4:=H.size;refine (H.nw (cs:=AQ.cells LG (DI m)++[AA.v CU])) fun w5 H5=>?_
  exact ⟨H5.ext,by first
   |exact ⟨_,rfl,h4,MV.new (H5.get 1 rfl)⟩
   |(rw[aD hm];exact ⟨_,rfl,h4,MV.new (H5.get 1 rfl)⟩)⟩
 ·rw[az hm];exact Br.ne (fun _=>⟨H.ext,by rw[az hm];trivial⟩) fun q=>by cases q
theorem GR (h:MV w b x D sv S):C8 (some ⟨b,0,none⟩) w fun r w1=>∃t,r=Al x t/\IO w w1 t D/\Ext (fun _=>False) w w1:=by
 refine T8 _ _ _ ?_;unfold S8;refine (Hn.start w).nw fun w2 H=>?_
 simp only[ae]at H;have e2:=H.ext;have h12:=H.lt 0 rfl;show Nn _ _;refine Nn.of (ldM (h.AB e2).AR ?_);refine (NL (h.AB e2).dash (by have:=h.OR;omega)).mono ?_;rintro r w3 ⟨t,rfl,ho,e3⟩;have H:=H.AB e3;refine Ak.AR (pre:=[]) (post:=[]) (zs:=AQ.cells LG Wh) (by rw[aN];exact H.get 0 rfl) rfl rfl fun w6 g6 e6=>?_
 rw[aN]at g6;refine ldG (x:=Al x t) g6 ⟨t,rfl,⟨ho.1.AB e6 fun j hj=>by have:=ho.2 j hj;omega,fun j hj=>by have:=ho.2 j hj;omega⟩,Ext.new H.ext e6 fun j hj=>by omega⟩
theorem FH (h:MV w b x D sv S):wc (some ⟨b,0,none⟩) w fun r w1=>r=(S.length:Int)/\w1=w:=by
 refine T13 _ _ _ ?_;unfold S13;show Nn _ _;refine Nn.of ?_;simp only[add_lit,ah];refine ACt h.AR ⟨?_,by trivial⟩;rw[h.j8.len,aV]
theorem nN (a:ByteArray)(w:World):C16 a w fun r w1=>r=decide (bl a∈known)/\Ext (fun _=>False) w w1:=by
 refine T16 _ _ _ ?_;unfold S16;refine (Hn.start w).nw (cs:=Mg known) fun w2 H=>?_
 refine (Mh (SL.AR (H.get 0 rfl) rfl) (by decide) a).mono ?_;rintro r w3 ⟨rfl,rfl⟩;exact ⟨rfl,H.ext⟩
end
end FA
set_option maxRecDepth 512
set_option maxHeartbeats 200000
namespace FA
open Sh CV LB
section
variable {m:Mc} {q:Opn} {p:P} {r:List P} {e:Int}
theorem nO (h:q.nm∉known):MR m q=(8,m):=by unfold MR;rw[aD h]
theorem nP (h:q.nm∈known)(h2:CK q.nm q.L q.d≠0):MR m q=(CK q.nm q.L q.d,m):=by
 unfold MR;rw[az (fun hn=>hn h),aD h2]
theorem Jo (h:q.nm∈known)(h2:CK q.nm q.L q.d=0):MR m q=((if q.nm=[113]then (if m.saved.length<28 then (0,⟨m.now,m.now::m.saved⟩)else (6,m))
 else if q.nm=[81]then (match m.saved with
  |[]=>(29,m)
  |p::r=>(0,⟨p,r⟩))
 else match Ba q.nm q.L q.K m.now with
  | .error e=>(e,m)
  | .ok p=>(0,⟨p,m.saved⟩)):Int×Mc):=by
 unfold MR;rw[az (fun hn=>hn h),az (fun hn=>hn h2)]
 all_goals rfl
theorem pA (h:q.nm∈known)(h2:CK q.nm q.L q.d=0)(hq:q.nm=[113])(hl:m.saved.length<28):MR m q=(0,⟨m.now,m.now::m.saved⟩):=by
 rw[Jo h h2,aD hq,aD hl]
theorem fR (h:q.nm∈known)(h2:CK q.nm q.L q.d=0)(hq:q.nm=[113])(hl:¬m.saved.length<28):MR m q=(6,m):=by
 rw[Jo h h2,aD hq,az hl]
theorem pB (h:q.nm∈known)(h2:CK q.nm q.L q.d=0)(hq:q.nm=[81])(hl:m.saved=p::r):MR m q=(0,⟨p,r⟩):=by
 rw[Jo h h2,az (by rw[hq];decide),aD hq,hl]
theorem vt (h:q.nm∈known)(h2:CK q.nm q.L q.d=0)(hq:q.nm=[81])(hl:m.saved=[]):MR m q=(29,m):=by
 rw[Jo h h2,az (by rw[hq];decide),aD hq,hl]
theorem U6 (h:q.nm∈known)(h2:CK q.nm q.L q.d=0)(hq:q.nm≠[113])(hQ:q.nm≠[81])(hc:Ba q.nm q.L q.K m.now= .ok p):MR m q=(0,⟨p,m.saved⟩):=by
 rw[Jo h h2,az hq,az hQ,hc]
theorem fT (h:q.nm∈known)(h2:CK q.nm q.L q.d=0)(hq:q.nm≠[113])(hQ:q.nm≠[81])(hc:Ba q.nm q.L q.K m.now= .error e):MR m q=(e,m):=by
 rw[Jo h h2,az hq,az hQ,hc]
end
theorem Qj {α β:Type}{x:Except Int α}{f:α->Except Int β}{b:β}(h:DC x f= .ok b):∃a,x= .ok a/\f a= .ok b:=by
 cases x with
 |error e=>cases h
 |ok a=>exact ⟨a,rfl,h⟩
theorem nQ {o:Ob}{n:Int}(h:Kn o= .ok n):0<=n:=by
 unfold Kn at h;split at h
 ·cases h
 ·split at h
  ·cases h
   assumption
  ·cases h
theorem TO:∀{L:List Ob} {l:List Int},Ei L= .ok l->l.length=L.length/\∀n∈l,0<=n
 |[],l,h=>by
  cases h;exact ⟨rfl,fun n hn=>(aG hn).elim⟩
 |o::L,l,h=>by
  unfold Ei at h;split at h
  ·cases h
  ·rename_i n hn;split at h
   ·cases h
   ·rename_i r hr;cases h;obtain ⟨h1,h2⟩:=TO hr;refine ⟨by rw[ar,ar,h1],fun y hy=>?_⟩;rcases aw.1 hy with rfl|hy
    ·exact nQ hn
    ·exact h2 y hy
theorem ix {K:List Ob}{o:Ob}{r:List Int×Int}(h:Ko K o= .ok r):r.1.length<=32/\∀n∈r.1,0<=n:=by
 unfold Ko at h;split at h
 ·cases h
 ·rename_i hk;split at h
  ·cases h
  ·split at h
   ·cases h
   ·rename_i l hl;split at h
    ·cases h
    ·cases h;obtain ⟨h1,h2⟩:=TO hl;exact ⟨by dsimp only;omega,h2⟩
theorem Nf {c:Prop}[Decidable c]{α:Type}{x y z:α}(h:(if c then x else y)=z):(c/\x=z)\/(¬c/\y=z):=by
 by_cases hc:c
 ·rw[aD hc]at h;exact .inl ⟨hc,h⟩
 ·rw[az hc]at h;exact .inr ⟨hc,h⟩
theorem iy {nm:By}{L K:List Ob}{p p':P}(h:Ba nm L K p= .ok p'):p'.2=p.2\/(p'.2.length<=32/\∀n∈p'.2,0<=n):=by
 have one:∀{α:Type} {x:Except Int α} {f:α->G},DC x (fun a=> .ok (f a,p.2))= .ok p'->p'.2=p.2:=fun h=>by
  obtain ⟨a,_,hf⟩:=Qj h;cases hf
  rfl
 unfold Ba at h;rcases Nf h with ⟨_,h⟩|⟨_,h⟩
 ·obtain ⟨a,ha,hf⟩:=Qj h;unfold KC at hf;split at hf
  ·cases hf;exact .inl rfl
  ·cases hf
 rcases Nf h with ⟨_,h⟩|⟨_,h⟩
 ·exact .inl (one h)
 rcases Nf h with ⟨_,h⟩|⟨_,h⟩
 ·exact .inl (one h)
 rcases Nf h with ⟨_,h⟩|⟨_,h⟩
 ·exact .inl (one h)
 rcases Nf h with ⟨_,h⟩|⟨_,h⟩
 ·exact .inl (one h)
 rcases Nf h with ⟨_,h⟩|⟨_,h⟩
 ·obtain ⟨a,ha,hf⟩:=Qj h;cases hf;exact .inr (ix ha)
 rcases Nf h with ⟨_,h⟩|⟨_,h⟩
 ·exact .inl (one h)
 rcases Nf h with ⟨_,h⟩|⟨_,h⟩
 ·exact .inl (one h)
 rcases Nf h with ⟨_,h⟩|⟨_,h⟩
 ·exact .inl (one h)
 rcases Nf h with ⟨_,h⟩|⟨_,h⟩
 ·exact .inl (one h)
 rcases Nf h with ⟨_,h⟩|⟨_,h⟩
 ·exact .inl (one h)
 rcases Nf h with ⟨_,h⟩|⟨_,h⟩
 ·exact .inl (one h)
 rcases Nf h with ⟨_,h⟩|⟨_,h⟩
 ·cases h;exact .inl rfl
 rcases Nf h with ⟨_,h⟩|⟨_,h⟩
 ·cases h;exact .inl rfl
 rcases Nf h with ⟨_,h⟩|⟨_,h⟩
 ·cases h;exact .inl rfl
 rcases Nf h with ⟨_,h⟩|⟨_,h⟩
 ·exact .inl (one h)
 rcases Nf h with ⟨_,h⟩|⟨_,h⟩
 ·exact .inl (one h)
 rcases Nf h with ⟨_,h⟩|⟨_,h⟩
 ·exact .inl (one h)
 rcases Nf h with ⟨_,h⟩|⟨_,h⟩
 ·exact .inl (one h)
 rcases Nf h with ⟨_,h⟩|⟨_,h⟩
 ·exact .inl (one h)
 rcases Nf h with ⟨_,h⟩|⟨_,h⟩
 ·exact .inl (one h)
 rcases Nf h with ⟨_,h⟩|⟨_,h⟩
 ·exact .inl (one h)
 cases h
end FA
set_option maxRecDepth 8000
set_option maxHeartbeats 8000000
namespace FA
open Sh CV LB
attribute [local irreducible] Ld Sh.St Nw Nn Lt AP Ab Am Ak
section
variable {w w' w1 w7:World} {s sv:AA} {l:List Int} {L K:List Ob} {b eb:Nat} {x x':G} {D:List Int} {a d:ByteArray} {S:List P} {t:TypeId} {v0:Value} {m m':Mc} {q:Opn} {r:Int}
def TP (O:Nat->Prop)(w w1:World)(b:Nat)(r:Int)(m:Mc)(q:Opn):Prop:=∃x D sv S,MR m q=(r,mc x D S)/\MV w1 b x D sv S/\Ext (·=b) w w1/\∀j,MO x sv S j->O j\/w.heap.size<=j
theorem iz {R:Int->World->Prop}(hb:AO w7 eb [v0].toArray t)(k:∀w8,Ext (·=eb) w7 w8->R r w8):Sh.St w7 ⟨eb,0,none⟩ (.int .i64 r) fun w8=>MH ⟨eb,0,none⟩ none w8 fun w9=>Ld w9 ⟨eb,0,none⟩ (Value.int .i64) fun (y:Int)=>R y w9:=by
 refine DE hb (cv 0) fun w8 g8 e8=>lM _ _ _ ?_
 unfold Pq;refine Ld.mk (x:=r) ?_ (k w8 e8);rw[g8.cell]
 rfl
theorem jA {R:Int->World->Prop}(hb:AO w7 eb [v0].toArray t)(k:∀w8,Ext (·=eb) w7 w8->R r w8):Sh.St w7 ⟨eb,0,none⟩ (.int .i64 r) fun w8=>Ld w8 ⟨eb,0,none⟩ (Value.int .i64) fun (y:Int)=>R y w8:=by
 refine DE hb (cv 0) fun w8 g8 e8=>?_
 refine Ld.mk (x:=r) ?_ (k w8 e8);rw[g8.cell]
 rfl
theorem jB {R:Int->World->Prop}(w3:World)(hb:AO w7 w3.heap.size [v0].toArray t)(k:∀w8,Ext (·=w3.heap.size) w7 w8->R r w8):S6P w3 R (iW r) w7:=by
 unfold S6P;refine lN _ _ _ _ ?_;unfold Pr;have Av:=hb.lt;refine (Hn.start w7).nw fun w8 H=>?_
 simp only[ae]at H;refine H.st 0 rfl (by simp) fun w9 H=>?_
 simp only[aa,ab]at H;refine H.ld 0 rfl rfl ?_;refine DE (H.ext.AR hb id) (cv 0) fun Zu g10 Fq=>?_
 refine Ld.mk (x:=r) ?_ (k Zu ((H.ext.mono fun _ _ e=>e.elim).tr Fq));rw[g10.cell]
 rfl
theorem TP.mk{O:Nat->Prop}(h:MV w7 b x D sv S)(E:Ext (·=b) w w7)(hf:MR m q=(r,mc x D S))(he:w.heap.size<=eb)(ho:∀j,MO x sv S j->j≠eb)(Md:b<w.heap.size)(e8:Ext (·=eb) w7 w')(hO:∀j,MO x sv S j->O j\/w.heap.size<=j):TP O w w' b r m q:=
 ⟨x,D,sv,S,hf,h.AF e8 (by omega) ho,E.trans e8 (fun _ h=>h) fun j hj e=>by omega,hO⟩
theorem elG:El prog 55 40 30 264 (.agg (AQ.cells LG Wh).toArray):=⟨by kernel_rfl,by kernel_rfl,by kernel_rfl,by kernel_rfl,rfl⟩
theorem ACv (x:G):∀v∈AQ.cells LG x,v.oneCell'=true:=by
 intro v hv;obtain ⟨i,hi⟩:=List.mem_iff_getElem?.1 hv;have hl:=(ao.1 hi).1;rw[nK]at hl
 iterate 30
  rcases i with _|i
  ·cases hi
   rfl
 omega
theorem jC (x y:G)(D E:List Int)(S:List P):mc x D (S++[(y,E)])=⟨(er x,D),(er y,E)::(mc x D S).saved⟩:=by unfold mc;simp
theorem jD (x:G)(D:List Int)(S:List P):(mc x D S).saved.length=S.length:=by unfold mc;simp
theorem AAW (hs:AS w)(hm:MV w b x D sv S)(h:OV w s L)(hl:L.length<=9223372036854775807)(hK:OV w (Bk L).2.2.2.2.2 K)(hKl:K.length<=9223372036854775807):C6 (some ⟨b,0,none⟩) (a,s,d) w fun r w1=>TP (MO x sv S) w w1 b r (mc x D S) ⟨bl a,bl d,L,K⟩:=by
 refine T6 _ (a,s,d) _ _ ?_;unfold S6;have Md:=hm.AR.lt;refine (Hn.start w).nw fun w2 H=>?_
 have HS:=H.size;refine H.nw fun w3 H=>?_
 simp only[ag,ae]at H;have Av:=H.lt 1 rfl;have same:∀{w7 w8:World} {r:Int},Ext (fun _=>False) w w7->Ext (·=w2.heap.size) w7 w8->MR (mc x D S) ⟨bl a,bl d,L,K⟩=(r,mc x D S)->TP (MO x sv S) w w8 b r (mc x D S) ⟨bl a,bl d,L,K⟩:=fun e7 e8 hf=>
  TP.mk (hm.AB e7) (AY e7) hf HS (fun j hj=>by have:=(hm.own j hj).2;omega) Md e8 fun j hj=> .inl hj
 show Ld _ _ _ _;refine H.ld 0 rfl rfl ?_;refine (nN a _).mono ?_;rintro r w4 ⟨rfl,e4⟩;have H:=H.AB e4;by_cases hk:bl a∈known
 case neg=>
  rw[aH hk];show Sh.St _ _ _ _;exact jA (H.get 1 rfl) fun w8 e8=>same H.ext e8 (nO hk)
 rw[aI hk];show Ld _ _ _ _
 iterate 3 refine H.ld 0 rfl rfl ?_
 refine (DU (hs.AB H.ext) (h.AB H.ext) hl).mono ?_;rintro r w5 ⟨rfl,e5⟩;have H:=H.AB e5;refine Br.ne (fun q=>jA (H.get 1 rfl) fun w8 e8=>same H.ext e8 (nP hk q)) fun Tw=>Nn.of ?_
 have Tw:CK (bl a) L (bl d)=0:=Tw;simp only[add_lit,ah];have xR:=hm.AB H.ext;have hlen:sv.len=S.length:=by rw[hm.j8.len,aV]
 refine ACt xR.AR (H.ld 0 rfl rfl ?_);refine Ks (fun q=>?_) fun hq=>Ks (fun q=>?_) fun hQ=>?_
 ·have hq:bl a=[113]:=q;refine (A8 _ 6 _).mono ?_ ?_;rotate_left
  ·rintro v w6 ⟨rfl,hh,rfl⟩;have hh:=cG hh;exact jB w2 (H.get 1 rfl) fun w8 e8=>same H.ext e8 (fR hk Tw hq (by rw[jD];omega))
  rintro w6 ⟨hh,rfl⟩;have hh:=bh hh;have H:=H.drew;have UC:=hm.AB H.ext;have hl6:=H.lt 1 rfl;refine ⟨fun w'=>AO w' b (AQ.cells LG x++[AA.v sv]).toArray 57,UC.AR,Nn.of ?_⟩;simp only[add_lit,ah];refine iw (fun _ h=>h) ?_;have AOV:=hm.j8.cap;have qL:=hm.Cf;refine ⟨by omega,by omega,by omega,by omega,Nn.of (AOU (fun _ h=>h) ?_)⟩;refine (NL UC.dash (by have:=UC.OR;omega)).mono ?_;rintro r w7 ⟨t,rfl,ho,e7⟩;have H:=H.AB e7;have hm7:=UC.AB e7;refine ⟨hm7.AR,?_⟩;refine (Hn.start w7).nw (cs:=AQ.cells LG (Al x t)) fun w8 H8=>?_
  have e8:=H8.ext;have jv:=hm7.AB e8;refine ⟨jv.AR,?_⟩;have hv:=(jv.j8.take (n:=sv.len) (by rw[aV];omega)).view;rw[bz (by rw[aV];omega)]at hv;rw[aF];obtain ⟨s',w9,r1,r2,r3,e9,r5⟩:=elG.full (ty:=55) (by omega) hv rfl (H8.get 0 rfl) rfl (ACv _) (by show (sv.len-0+1)*264<=_;omega) (by show sv.len-0+1<=_;omega);refine ⟨s',w9,r1,Nn.of ?_⟩;simp only[add_lit,ah];have XZ:=jv.AB e9;have s67:=e7.size;have YW:=e8.size;have s89:=e9.size;have E9:=(H.AB (e8.tr e9)).ext;refine ACu XZ.AR fun Zu g10 Fq=>?_
  have AOW:=Fq.size;refine iz (Fq.AR ((H.AB (e8.tr e9)).get 1 rfl) (by omega)) fun Gp Ts=>?_
  have RC:TN w9 s' ((S++[(Al x t,D)]).map (·.1)):=TN.row (e:=40) (by
   rw[bd,XY];show Row _ _ _ _ (Vy (S.map (·.1))++(AQ.cells LG (Al x t)++[]));rw[aN];exact r2)
  have Bm:∀j,MO x s' (S++[(Al x t,D)]) j->MO x sv S j\/(w2.heap.size<j/\j<w9.heap.size):=by
   rintro j (hj|hj|⟨p,hp,hj⟩)
   ·exact .inl (.inl hj)
   ·have:=r5 j hj;have:=r2.own_lt hj;exact .inr ⟨by omega,by omega⟩
   ·rcases aS.1 hp with hp|hp
    ·exact .inl (.inr (.inr ⟨p,hp,hj⟩))
    ·rw[av.1 hp,FG]at hj;have:=ho.2 j hj;have:=ho.1.own_lt hj;exact .inr ⟨by omega,by omega⟩
  have Vd:MV Zu b x D s' (S++[(Al x t,D)]):=by
   refine ⟨g10,XZ.dash.AF Fq fun j hj=>(XZ.own j (.inl hj)).1,hm.OR,RC.AF Fq fun j hj e=>by have:=r5 j hj;omega,fun p hp=>?_,fun j hj=>?_,by rw[ai,cj];omega⟩
   ·rcases aS.1 hp with hp|hp
    ·exact ⟨(XZ.each p hp).1.AF Fq fun j hj=>(XZ.own j (.inr (.inr ⟨p,hp,hj⟩))).1,(hm.each p hp).2⟩
    ·rw[av.1 hp];refine ⟨?_,hm.OR⟩;show IV _ (BQ (Al x t)) _;rw[FG];exact ((ho.iv.AB e8).AB e9).AF Fq fun j hj e=>by have:=ho.2 j hj;omega
   ·rcases Bm j hj with hj|hj
    ·have:=XZ.own j hj;exact ⟨this.1,by omega⟩
    ·exact ⟨by omega,by omega⟩
  refine TP.mk Vd ((AY E9).tr Fq) ?_ HS (fun j hj=>?_) Md Ts fun j hj=>(Bm j hj).imp id fun h=>by omega
  ·rw[pA hk Tw hq (by rw[jD];omega),jC,XV]
   rfl
  ·rcases Bm j hj with hj|hj
   ·have:=(hm.own j hj).2;omega
   ·omega
 ·have hQ:bl a=[81]:=q;refine (A8 _ 29 _).mono ?_ ?_;rotate_left
  ·rintro v w6 ⟨rfl,hh,rfl⟩;have hh:=cG hh;have hS:S=[]:=aT (by omega);exact jB w2 (H.get 1 rfl) fun w8 e8=>same H.ext e8 (vt hk Tw hQ (by rw[hS];rfl))
  rintro w6 ⟨hh,rfl⟩;have hh:=bh hh;rcases List.eq_nil_or_concat S with rfl|⟨S',⟨p1,p2⟩,rfl⟩
  ·simp only[aU]at hlen;omega
  rw[List.concat_eq_append]at*;have H:=H.drew;have UC:=hm.AB H.ext;have hn:sv.len=S'.length+1:=by rw[hlen];simp
  have qL:=hm.Cf;rw[ai,cj]at qL;have AOV:=hm.j8.cap;have hi:wrap .i64 ((sv.len:Int)-1)=((S'.length:Nat):Int):=by rw[AG (by omega)];omega
  rw[hi,aF];have LU:((S'++[(p1,p2)]).map (·.1))[S'.length]?=some p1:=by simp
  refine ⟨fun w'=>AO w' b (AQ.cells LG x++[AA.v sv]).toArray 57/\TN w' sv ((S'++[(p1,p2)]).map (·.1)),⟨UC.AR,UC.j8⟩,Nn.of ?_⟩;simp only[add_lit,ah];refine iw (fun _ h=>h.1) ⟨by omega,by omega,?_⟩;obtain ⟨g,hg,_⟩:=UC.j8.at' (S'.length*30+0) _ (by rw[XX LU (by omega)];exact at0 p1);rw[hg];refine Nn.of ?_;rw[add_lit,ah];refine Am.mk LG 0 p1 _ (fun w' hw j v hj=>?_) ?_
  ·have hjl:=(ao.1 hj).1;rw[nK]at hjl;obtain ⟨g',Z2,hc⟩:=hw.2.at' (S'.length*30+j) v (by rw[XX LU hjl];exact hj);rw[hg]at Z2;cases Z2;rw[Nat.add_zero];exact hc
  refine Nn.of (iw (fun _ h=>h.1) ⟨by omega,by omega,by omega,by omega,Nn.of ?_⟩);refine stM UC.AR fun w7 g7 e7=>Nn.of (ACu g7 fun w8 g8 e8=>?_)
  have xu:=e7.tr e8;have s68:=xu.size;refine iz (xu.AR (H.get 1 rfl) (by omega)) fun Gp Ts=>?_
  have Bm:∀j,MO p1 (sv.cut 30 0 S'.length S'.length) S' j->MO x sv (S'++[(p1,p2)]) j:=by
   rintro j (hj|hj|⟨p,hp,hj⟩)
   ·exact .inr (.inr ⟨(p1,p2),by simp,hj⟩)
   ·exact .inr (.inl (O6 hj))
   ·exact .inr (.inr ⟨p,by simp[hp],hj⟩)
  have Vd:MV w8 b p1 p2 (sv.cut 30 0 S'.length S'.length) S':=by
   refine ⟨g8,(UC.each (p1,p2) (by simp)).1.AF xu fun j hj=>(UC.own j (Bm j (.inl hj))).1,(hm.each (p1,p2) (by simp)).2,?_,fun p hp=>⟨(UC.each p (by simp[hp])).1.AF xu fun j hj=>(UC.own j (Bm j (.inr (.inr ⟨p,hp,hj⟩)))).1,(hm.each p (by simp[hp])).2⟩,fun j hj=>?_,by omega⟩
   ·have ht:=(UC.j8.take (n:=S'.length) (by simp)).AF xu fun j hj=>(UC.own j (.inr (.inl (O6 hj)))).1
    have et:((S'++[(p1,p2)]).map (·.1)).take S'.length=S'.map (·.1):=by
     rw[bd];exact List.take_left' (by simp)
    rw[et]at ht;exact ht
   ·have:=UC.own j (Bm j hj);exact ⟨this.1,by omega⟩
  refine TP.mk Vd ((AY H.ext).tr xu) ?_ HS (fun j hj=>by have:=(hm.own j (Bm j hj)).2;omega) Md Ts fun j hj=> .inl (Bm j hj)
  rw[jC];exact pB hk Tw hQ rfl
 ·have hq:bl a≠[113]:=hq;have hQ:bl a≠[81]:=hQ;refine Nn.of (ldM xR.AR ?_);refine (NL xR.dash (by have:=xR.OR;omega)).mono ?_;have hl5:=H.lt 1 rfl;rintro r w6 ⟨t,rfl,ho,e6⟩;have H:=H.AB e6;have hl6:=H.lt 1 rfl;refine (Hn.start w6).nw fun w7 H7=>?_
  simp only[ae]at H7;have s56:=e6.size;refine stG H7 (i:=0) rfl rfl fun w8 H8=>?_
  simp only[aa,ab]at H8;have e8:=H8.ext;have H:=H.AB e8;have hlg:=H8.lt 0 rfl
  iterate 3 refine H.ld 0 rfl rfl ?_
  have jv:=hm.AB H.ext;have hSB:SB w8 w6.heap.size (Al x t) D:=⟨H8.get 0 rfl,by rw[FG];exact ho.iv.AB e8,fun j hj=>by
   rw[FG]at hj;have:=ho.1.own_lt hj;omega⟩
  refine (ACp hSB (h.AB H.ext) Tw (hK.AB H.ext) hKl hk hq hQ).mono ?_ ?_;rotate_left
  ·rintro v w9 ⟨e,h1,rfl,h3⟩;rw[XV]at h1;exact jB w2 (h3.AR (H.get 1 rfl) (by omega)) fun Gp Ts=>same (Ext.new H.ext h3 fun j hj=>by omega) Ts (fT hk Tw hq hQ h1)
  rintro r w9 ⟨rfl,x',D',h1,h2,h3,h4,h5⟩;rw[XV]at h1;have s89:=h4.size;show Ab _ _ _ _ _;refine ldG h2 (Nn.of ?_);have XZ:MV w9 b x D sv S:=jv.AF h4 (by omega) fun j hj=>by have:=(hm.own j hj).2;omega
  refine stM XZ.AR fun Zu g10 Fq=>?_
  have AOW:=Fq.size;refine iz (Fq.AR (h4.AR (H.get 1 rfl) (by omega)) (by omega)) fun Gp Ts=>?_
  have hx:∀j,(BQ x').own j->w2.heap.size<j/\j<w9.heap.size:=fun j hj=>by
   rcases h5 j hj with hh|⟨hh,hh2⟩
   ·rw[FG]at hh;have:=ho.2 j hh;have:=ho.1.own_lt hh;exact ⟨by omega,by omega⟩
   ·exact ⟨by omega,by omega⟩
  have Bm:∀j,MO x' sv S j->MO x sv S j\/(w2.heap.size<j/\j<w9.heap.size):=by
   rintro j (hj|hj|hj)
   ·exact .inr (hx j hj)
   ·exact .inl (.inr (.inl hj))
   ·exact .inl (.inr (.inr hj))
  have Vd:MV Zu b x' D' sv S:=by
   refine ⟨g10,h3.AF Fq fun j hj e=>by have:=hx j hj;omega,?_,XZ.j8.AF Fq fun j hj=>(XZ.own j (.inr (.inl hj))).1,fun p hp=>⟨(XZ.each p hp).1.AF Fq fun j hj=>(XZ.own j (.inr (.inr ⟨p,hp,hj⟩))).1,(XZ.each p hp).2⟩,fun j hj=>?_,hm.Cf⟩
   ·rcases iy h1 with hd|⟨hd,_⟩
    ·have hd:D'=D:=hd;rw[hd];exact hm.OR
    ·have hd:D'.length<=32:=hd;omega
   ·rcases Bm j hj with hj|hj
    ·have:=XZ.own j hj;exact ⟨this.1,by omega⟩
    ·exact ⟨by omega,by omega⟩
  refine TP.mk Vd ((AY (Ext.new H.ext h4 fun j hj=>by omega)).tr Fq) ?_ HS (fun j hj=>?_) Md Ts fun j hj=>(Bm j hj).imp id fun h=>by omega
  ·rw[U6 hk Tw hq hQ h1]
   rfl
  ·rcases Bm j hj with hj|hj
   ·have:=(hm.own j hj).2;omega
   ·omega
end
end FA
namespace FA
open Sh CV LB
def c0 (x y:G):Bool:=((x.1==y.1)&&((x.2.1==y.2.1)&&((x.2.2.1==y.2.2.1)&&((x.2.2.2.1==y.2.2.2.1)&&((x.2.2.2.2.1==y.2.2.2.2.1)&&((x.2.2.2.2.2.1==y.2.2.2.2.2.1)&&true))))))
def c6 (x y:G):Bool:=(x.2.2.2.2.2.2.1==y.2.2.2.2.2.2.1)
def c7 (x y:G):Bool:=(x.2.2.2.2.2.2.2.1==y.2.2.2.2.2.2.2.1)
def c8 (x y:G):Bool:=(x.2.2.2.2.2.2.2.2.1==y.2.2.2.2.2.2.2.2.1)
def c9 (x y:G):Bool:=(x.2.2.2.2.2.2.2.2.2.1==y.2.2.2.2.2.2.2.2.2.1)
def vu (x y:G):Bool:=(x.2.2.2.2.2.2.2.2.2.2.2.1==y.2.2.2.2.2.2.2.2.2.2.2.1)
def xv (x y:G):Bool:=((x.2.2.2.2.2.2.2.2.2.2.2.2.1==y.2.2.2.2.2.2.2.2.2.2.2.2.1)&&((x.2.2.2.2.2.2.2.2.2.2.2.2.2.1==y.2.2.2.2.2.2.2.2.2.2.2.2.2.1)&&((x.2.2.2.2.2.2.2.2.2.2.2.2.2.2.1==y.2.2.2.2.2.2.2.2.2.2.2.2.2.2.1)&&((x.2.2.2.2.2.2.2.2.2.2.2.2.2.2.2.1==y.2.2.2.2.2.2.2.2.2.2.2.2.2.2.2.1)&&((x.2.2.2.2.2.2.2.2.2.2.2.2.2.2.2.2.1==y.2.2.2.2.2.2.2.2.2.2.2.2.2.2.2.2.1)&&true)))))
def c17 (x y:G):Bool:=((x.2.2.2.2.2.2.2.2.2.2.2.2.2.2.2.2.2.1==y.2.2.2.2.2.2.2.2.2.2.2.2.2.2.2.2.2.1)&&((x.2.2.2.2.2.2.2.2.2.2.2.2.2.2.2.2.2.2.1==y.2.2.2.2.2.2.2.2.2.2.2.2.2.2.2.2.2.2.1)&&((x.2.2.2.2.2.2.2.2.2.2.2.2.2.2.2.2.2.2.2.1==y.2.2.2.2.2.2.2.2.2.2.2.2.2.2.2.2.2.2.2.1)&&((x.2.2.2.2.2.2.2.2.2.2.2.2.2.2.2.2.2.2.2.2.1==y.2.2.2.2.2.2.2.2.2.2.2.2.2.2.2.2.2.2.2.2.1)&&((x.2.2.2.2.2.2.2.2.2.2.2.2.2.2.2.2.2.2.2.2.2.1==y.2.2.2.2.2.2.2.2.2.2.2.2.2.2.2.2.2.2.2.2.2.1)&&true)))))
def c22 (x y:G):Bool:=((x.2.2.2.2.2.2.2.2.2.2.2.2.2.2.2.2.2.2.2.2.2.2.1==y.2.2.2.2.2.2.2.2.2.2.2.2.2.2.2.2.2.2.2.2.2.2.1)&&((x.2.2.2.2.2.2.2.2.2.2.2.2.2.2.2.2.2.2.2.2.2.2.2.1==y.2.2.2.2.2.2.2.2.2.2.2.2.2.2.2.2.2.2.2.2.2.2.2.1)&&((x.2.2.2.2.2.2.2.2.2.2.2.2.2.2.2.2.2.2.2.2.2.2.2.2.1==y.2.2.2.2.2.2.2.2.2.2.2.2.2.2.2.2.2.2.2.2.2.2.2.2.1)&&((x.2.2.2.2.2.2.2.2.2.2.2.2.2.2.2.2.2.2.2.2.2.2.2.2.2.1==y.2.2.2.2.2.2.2.2.2.2.2.2.2.2.2.2.2.2.2.2.2.2.2.2.2.1)&&((x.2.2.2.2.2.2.2.2.2.2.2.2.2.2.2.2.2.2.2.2.2.2.2.2.2.2.1==y.2.2.2.2.2.2.2.2.2.2.2.2.2.2.2.2.2.2.2.2.2.2.2.2.2.2.1)&&((x.2.2.2.2.2.2.2.2.2.2.2.2.2.2.2.2.2.2.2.2.2.2.2.2.2.2.2.1==y.2.2.2.2.2.2.2.2.2.2.2.2.2.2.2.2.2.2.2.2.2.2.2.2.2.2.2.1)&&((x.2.2.2.2.2.2.2.2.2.2.2.2.2.2.2.2.2.2.2.2.2.2.2.2.2.2.2.2.1.toList==y.2.2.2.2.2.2.2.2.2.2.2.2.2.2.2.2.2.2.2.2.2.2.2.2.2.2.2.2.1.toList)&&((x.2.2.2.2.2.2.2.2.2.2.2.2.2.2.2.2.2.2.2.2.2.2.2.2.2.2.2.2.2==y.2.2.2.2.2.2.2.2.2.2.2.2.2.2.2.2.2.2.2.2.2.2.2.2.2.2.2.2.2)&&true))))))))
def A4 (x y:G)(D E:List Int):Bool:=c0 x y&&c6 x y&&c7 x y&&c8 x y&&c9 x y&&vu x y&&xv x y&&c17 x y&&c22 x y&&(D==E)
theorem U7 (x:G)(D:List Int):A4 x x D D=true:=by
 unfold A4 c0 c6 c7 c8 c9 vu xv c17 c22;simp
theorem MS (x y:G)(t u:AA)(D E:List Int):A4 (Al x t) (Al y u) D E=A4 x y D E:=by
 unfold A4 c0 c6 c7 c8 c9 vu xv c17 c22 Al;dsimp only
theorem nR {c:Bool}{A B:Prop}(h1:c=true->A)(h2:c=false->B):Br c A B:=by
 cases c
 ·exact h2 rfl
 ·exact h1 rfl
attribute [local irreducible] Ld Sh.St Nw Nn AP Ab Am Ak
section
variable {w w1:World} {s s2:AA} {D E:List Int} {x y:G}
theorem jE {l m:List Int}(hl:l.length=m.length)(h:∀j,j<l.length->l.getD j 0=m.getD j 0):l=m:=by
 apply List.ext_getElem hl;intro j h1 h2;have:=h j h1;rw[aE,aE,al h1,al h2]at this;exact this
theorem nS (h:IV w s D)(h2:IV w s2 E)(hl:D.length<=1000000):C31 s s2 w fun r w1=>r=(D==E)/\Ext (fun _=>False) w w1:=by
 refine T31 _ _ _ _ ?_;unfold S31;rw[h.1,h2.1];refine Br.ne (fun q=>⟨?_,Ext.refl _ _⟩) fun q=>?_
 ·symm
  rw[bf];rintro rfl;exact q rfl
 have hDE:D.length=E.length:=by omega
 refine ⟨fun n st w3=>∃i:Nat,st=(i:Int)/\i<=D.length/\n=D.length-i/\(∀j,j<i->D.getD j 0=E.getD j 0)/\Ext (fun _=>False) w w3,D.length,⟨0,rfl,by omega,rfl,fun j hj=>by omega,Ext.refl _ _⟩,?_⟩;rintro n st w3 ⟨i,rfl,hi,rfl,Az,e3⟩;unfold ou;rw[h.1,h2.1];refine Br.dec (fun q=>?_) fun q=>?_
 ·obtain ⟨a1,VB,g1⟩:=(h.AB e3.drew).get (i:=i) (by omega);obtain ⟨a2,MT,g2⟩:=(h2.AB e3.drew).get (i:=i) (by omega);rw[VB,MT,aF];refine ⟨by omega,by omega,Nn.of (Ld.mk g1 ⟨by omega,by omega,Nn.of (Ld.mk g2 (Br.ne (fun q2=>⟨?_,e3.drew⟩) fun q2=>?_))⟩)⟩
  ·symm
   rw[bf];rintro rfl;exact q2 rfl
  ·refine ⟨D.length-(i+1),by omega,i+1,by rw[AG (by omega)];rfl,by omega,rfl,fun j hj=>?_,e3.drew⟩;by_cases e:j=i
   ·subst e;exact q2
   ·exact Az j (by omega)
 ·refine ⟨?_,e3⟩
  symm
  rw[bX];exact jE hDE fun j hj=>Az j (by omega)
theorem fY (hx:IV w (BQ x) D)(hy:IV w (BQ y) E)(hl:D.length<=1000000):C12 x y w fun r w1=>r=A4 x y D E/\Ext (fun _=>False) w w1:=by
 refine T12 _ _ _ _ ?_;unfold S12;refine (Hn.start w).nw fun w2 H=>?_
 refine H.nw fun w3 H=>?_
 simp only[ag,ae,add_lit,ah]at H⊢;refine H.ld 0 rfl (at0 _) ?_;refine H.ld 0 rfl (at1 _) ?_;refine H.ld 0 rfl (at2 _) ?_;refine H.ld 0 rfl (at3 _) ?_;refine H.ld 0 rfl (at4 _) ?_;refine H.ld 0 rfl (at5 _) ?_;refine H.ld 1 rfl (at0 _) ?_;refine H.ld 1 rfl (at1 _) ?_;refine H.ld 1 rfl (at2 _) ?_;refine H.ld 1 rfl (at3 _) ?_;refine H.ld 1 rfl (at4 _) ?_;refine H.ld 1 rfl (at5 _) ?_;refine Lt.of ?_;refine nR (fun q0=>?_) fun q0=>⟨(show A4 x y D E=false from by unfold A4;simp only[show c0 x y=false from q0,bo,cb,bT,bN]).symm,H.ext⟩
 refine H.ld 0 rfl (at6 _) ?_;refine H.ld 1 rfl (at6 _) ?_;refine nR (fun q6=>?_) fun q6=>⟨(show A4 x y D E=false from by unfold A4;simp only[show c0 x y=true from q0,show c6 x y=false from q6,bo,cb,bT,bN]).symm,H.ext⟩
 refine H.ld 0 rfl (at7 _) ?_;refine H.ld 1 rfl (at7 _) ?_;refine nR (fun q7=>?_) fun q7=>⟨(show A4 x y D E=false from by unfold A4;simp only[show c0 x y=true from q0,show c6 x y=true from q6,show c7 x y=false from q7,bo,cb,bT,bN]).symm,H.ext⟩
 refine H.ld 0 rfl (at8 _) ?_;refine H.ld 1 rfl (at8 _) ?_;refine nR (fun q8=>?_) fun q8=>⟨(show A4 x y D E=false from by unfold A4;simp only[show c0 x y=true from q0,show c6 x y=true from q6,show c7 x y=true from q7,show c8 x y=false from q8,bo,cb,bT,bN]).symm,H.ext⟩
 refine H.ld 0 rfl (at9 _) ?_;refine H.ld 1 rfl (at9 _) ?_;refine nR (fun q9=>?_) fun q9=>⟨(show A4 x y D E=false from by unfold A4;simp only[show c0 x y=true from q0,show c6 x y=true from q6,show c7 x y=true from q7,show c8 x y=true from q8,show c9 x y=false from q9,bo,cb,bT,bN]).symm,H.ext⟩
 refine H.ld 0 rfl (vb _) ?_;refine H.ld 1 rfl (vb _) ?_;refine (nS (D:=D) (E:=E) (hx.AB H.ext) (hy.AB H.ext) hl).mono ?_;rintro r w4 ⟨rfl,e4⟩;have H:=H.AB e4;refine nR (fun qd=>?_) fun qd=>⟨(show A4 x y D E=false from by unfold A4;simp only[show c0 x y=true from q0,show c6 x y=true from q6,show c7 x y=true from q7,show c8 x y=true from q8,show c9 x y=true from q9,show (D==E)=false from qd,bo,cb,bT,bN]).symm,H.ext⟩
 refine H.ld 0 rfl (ACF _) ?_;refine H.ld 1 rfl (ACF _) ?_;refine nR (fun q11=>?_) fun q11=>⟨(show A4 x y D E=false from by unfold A4;simp only[show c0 x y=true from q0,show c6 x y=true from q6,show c7 x y=true from q7,show c8 x y=true from q8,show c9 x y=true from q9,show (D==E)=true from qd,show vu x y=false from q11,bo,cb,bT,bN]).symm,H.ext⟩
 refine H.ld 0 rfl (ACG _) ?_;refine H.ld 0 rfl (ACH _) ?_;refine H.ld 0 rfl (ACI _) ?_;refine H.ld 0 rfl (ACJ _) ?_;refine H.ld 0 rfl (ACK _) ?_;refine H.ld 1 rfl (ACG _) ?_;refine H.ld 1 rfl (ACH _) ?_;refine H.ld 1 rfl (ACI _) ?_;refine H.ld 1 rfl (ACJ _) ?_;refine H.ld 1 rfl (ACK _) ?_;refine Lt.of ?_;refine nR (fun q12=>?_) fun q12=>⟨(show A4 x y D E=false from by unfold A4;simp only[show c0 x y=true from q0,show c6 x y=true from q6,show c7 x y=true from q7,show c8 x y=true from q8,show c9 x y=true from q9,show (D==E)=true from qd,show vu x y=true from q11,show xv x y=false from q12,bo,cb,bT,bN]).symm,H.ext⟩
 refine H.ld 0 rfl (ACL _) ?_;refine H.ld 0 rfl (ACN _) ?_;refine H.ld 0 rfl (ACO _) ?_;refine H.ld 0 rfl (ACP _) ?_;refine H.ld 0 rfl (ACQ _) ?_;refine H.ld 1 rfl (ACL _) ?_;refine H.ld 1 rfl (ACN _) ?_;refine H.ld 1 rfl (ACO _) ?_;refine H.ld 1 rfl (ACP _) ?_;refine H.ld 1 rfl (ACQ _) ?_;refine Lt.of ?_;refine nR (fun q17=>?_) fun q17=>⟨(show A4 x y D E=false from by unfold A4;simp only[show c0 x y=true from q0,show c6 x y=true from q6,show c7 x y=true from q7,show c8 x y=true from q8,show c9 x y=true from q9,show (D==E)=true from qd,show vu x y=true from q11,show xv x y=true from q12,show c17 x y=false from q17,bo,cb,bT,bN]).symm,H.ext⟩
 refine H.ld 0 rfl (ACR _) ?_;refine H.ld 0 rfl (ACS _) ?_;refine H.ld 0 rfl (ACT _) ?_;refine H.ld 0 rfl (ACU _) ?_;refine H.ld 0 rfl (ACV _) ?_;refine H.ld 0 rfl (ACW _) ?_;refine H.ld 0 rfl (ACX _) ?_;refine H.ld 0 rfl (ACY _) ?_;refine H.ld 1 rfl (ACR _) ?_;refine H.ld 1 rfl (ACS _) ?_;refine H.ld 1 rfl (ACT _) ?_;refine H.ld 1 rfl (ACU _) ?_;refine H.ld 1 rfl (ACV _) ?_;refine H.ld 1 rfl (ACW _) ?_;refine H.ld 1 rfl (ACX _) ?_;refine H.ld 1 rfl (ACY _) ?_;refine Lt.of ?_;refine ⟨?_,H.ext⟩
 symm
 show A4 x y D E=c22 x y;unfold A4;simp only[show c0 x y=true from q0,show c6 x y=true from q6,show c7 x y=true from q7,show c8 x y=true from q8,show c9 x y=true from q9,show (D==E)=true from qd,show vu x y=true from q11,show xv x y=true from q12,show c17 x y=true from q17,bo,cb]
end
end FA
end Go.Proofs.YtmaekpnpnjndoaaGreatDoor
