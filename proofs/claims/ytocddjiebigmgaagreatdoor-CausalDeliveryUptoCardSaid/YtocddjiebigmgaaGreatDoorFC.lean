/- An abstract machine over the model, and contracts of functions of this program on it (part 3): words and lemmas for the proof in the last text. -/
import Derived.Test.YtocddjiebigmgaaGreatDoorProg
import Derived.Test.YtocddjiebigmgaaGreatDoorChecked
import Derived.Lib.Bytealg
import Derived.Lib.Walk
import Derived.Lib.Strings
import Derived.Test.YtocddjiebigmgaaGreatDoorFB
set_option linter.unusedVariables false
set_option linter.unusedSimpArgs false

namespace Go.Aw.Try
open Go Go.Proofs Go.Aw
set_option maxRecDepth 100000
set_option maxHeartbeats 4000000
def tt:TT:=[
 (2,⟨.int .i64,1,8,[.int .i64 0],false,false⟩),
 (3,⟨.int .i64,1,8,[.int .i64 0],false,false⟩),
 (4,⟨.bool,1,1,[.bool false],false,false⟩),
 (5,⟨.int .u8,1,1,[.int .u8 0],false,false⟩),
 (6,⟨.int .u8,1,1,[.int .u8 0],false,false⟩),
 (7,⟨.st [(0,2),(1,3),(2,4),(3,6)],4,24,[.int .i64 0,.int .i64 0,.bool false,.int .u8 0],true,true⟩),
 (8,⟨.st [(0,2),(1,3),(2,4),(3,6)],4,24,[.int .i64 0,.int .i64 0,.bool false,.int .u8 0],true,true⟩),
 (9,⟨.str,1,16,[.string ⟨#[]⟩],false,false⟩),
 (10,⟨.str,1,16,[.string ⟨#[]⟩],false,false⟩),
 (11,⟨.str,1,16,[.string ⟨#[]⟩],false,false⟩),
 (12,⟨.int .u64,1,8,[.int .u64 0],false,false⟩),
 (15,⟨.ptr,1,8,[.pointer none],false,false⟩),
 (16,⟨.ptr,1,8,[.pointer none],false,false⟩),
 (17,⟨.ptr,1,8,[.pointer none],false,false⟩),
 (18,⟨.st [(0,17)],1,8,[.pointer none],true,false⟩),
 (19,⟨.st [(0,17)],1,8,[.pointer none],true,false⟩),
 (20,⟨.iface,1,16,[.nilIface],false,false⟩),
 (21,⟨.int .i32,1,4,[.int .i32 0],false,false⟩),
 (22,⟨.sl 32,1,24,[.slice none 0 0],false,false⟩),
 (23,⟨.sl 36,1,24,[.slice none 0 0],false,false⟩),
 (26,⟨.st [(0,23),(1,23),(2,22)],3,72,[.slice none 0 0,.slice none 0 0,.slice none 0 0],true,false⟩),
 (27,⟨.st [(0,23),(1,23),(2,22)],3,72,[.slice none 0 0,.slice none 0 0,.slice none 0 0],true,false⟩),
 (28,⟨.int .i64,1,8,[.int .i64 0],false,false⟩),
 (31,⟨.st [(0,9),(1,3)],2,24,[.string ⟨#[]⟩,.int .i64 0],true,true⟩),
 (32,⟨.st [(0,9),(1,3)],2,24,[.string ⟨#[]⟩,.int .i64 0],true,true⟩),
 (33,⟨.st [(0,4),(1,9),(2,9)],3,40,[.bool false,.string ⟨#[]⟩,.string ⟨#[]⟩],true,true⟩),
 (34,⟨.st [(0,4),(1,9),(2,9)],3,40,[.bool false,.string ⟨#[]⟩,.string ⟨#[]⟩],true,true⟩),
 (35,⟨.st [(0,32),(2,3),(3,3),(4,22),(5,3),(6,32),(8,32),(10,34),(13,9),(14,9),(15,32),(17,9)],18,232,[.string ⟨#[]⟩,.int .i64 0,.int .i64 0,.int .i64 0,.slice none 0 0,.int .i64 0,.string ⟨#[]⟩,.int .i64 0,.string ⟨#[]⟩,.int .i64 0,.bool false,.string ⟨#[]⟩,.string ⟨#[]⟩,.string ⟨#[]⟩,.string ⟨#[]⟩,.string ⟨#[]⟩,.int .i64 0,.string ⟨#[]⟩],true,false⟩),
 (36,⟨.st [(0,32),(2,3),(3,3),(4,22),(5,3),(6,32),(8,32),(10,34),(13,9),(14,9),(15,32),(17,9)],18,232,[.string ⟨#[]⟩,.int .i64 0,.int .i64 0,.int .i64 0,.slice none 0 0,.int .i64 0,.string ⟨#[]⟩,.int .i64 0,.string ⟨#[]⟩,.int .i64 0,.bool false,.string ⟨#[]⟩,.string ⟨#[]⟩,.string ⟨#[]⟩,.string ⟨#[]⟩,.string ⟨#[]⟩,.int .i64 0,.string ⟨#[]⟩],true,false⟩),
 (50,⟨.sl 23,1,24,[.slice none 0 0],false,false⟩),
 (72,⟨.st [(0,32),(2,32),(4,32),(6,32),(8,3),(9,3),(10,3),(11,34),(14,9),(15,9),(16,9)],17,208,[.string ⟨#[]⟩,.int .i64 0,.string ⟨#[]⟩,.int .i64 0,.string ⟨#[]⟩,.int .i64 0,.string ⟨#[]⟩,.int .i64 0,.int .i64 0,.int .i64 0,.int .i64 0,.bool false,.string ⟨#[]⟩,.string ⟨#[]⟩,.string ⟨#[]⟩,.string ⟨#[]⟩,.string ⟨#[]⟩],true,true⟩),
 (73,⟨.st [(0,32),(2,32),(4,32),(6,32),(8,3),(9,3),(10,3),(11,34),(14,9),(15,9),(16,9)],17,208,[.string ⟨#[]⟩,.int .i64 0,.string ⟨#[]⟩,.int .i64 0,.string ⟨#[]⟩,.int .i64 0,.string ⟨#[]⟩,.int .i64 0,.int .i64 0,.int .i64 0,.int .i64 0,.bool false,.string ⟨#[]⟩,.string ⟨#[]⟩,.string ⟨#[]⟩,.string ⟨#[]⟩,.string ⟨#[]⟩],true,true⟩),
 (86,⟨.st [(0,32),(2,32),(4,32),(6,34),(9,9),(10,9),(11,9)],12,160,[.string ⟨#[]⟩,.int .i64 0,.string ⟨#[]⟩,.int .i64 0,.string ⟨#[]⟩,.int .i64 0,.bool false,.string ⟨#[]⟩,.string ⟨#[]⟩,.string ⟨#[]⟩,.string ⟨#[]⟩,.string ⟨#[]⟩],true,true⟩),
 (87,⟨.st [(0,32),(2,32),(4,32),(6,34),(9,9),(10,9),(11,9)],12,160,[.string ⟨#[]⟩,.int .i64 0,.string ⟨#[]⟩,.int .i64 0,.string ⟨#[]⟩,.int .i64 0,.bool false,.string ⟨#[]⟩,.string ⟨#[]⟩,.string ⟨#[]⟩,.string ⟨#[]⟩,.string ⟨#[]⟩],true,true⟩),
 (91,⟨.sl 3,1,24,[.slice none 0 0],false,false⟩),
 (93,⟨.int .u64,1,8,[.int .u64 0],false,false⟩),
 (96,⟨.sl 9,1,24,[.slice none 0 0],false,false⟩),
 (104,⟨.st [(0,4),(1,9)],2,24,[.bool false,.string ⟨#[]⟩],true,true⟩),
 (105,⟨.st [(0,4),(1,9)],2,24,[.bool false,.string ⟨#[]⟩],true,true⟩),
 (116,⟨.ptr,1,8,[.pointer none],false,false⟩),
 (120,⟨.sl 105,1,24,[.slice none 0 0],false,false⟩),
 (137,⟨.int .u64,1,8,[.int .u64 0],false,false⟩),
 (141,⟨.sl 5,1,24,[.slice none 0 0],false,false⟩),
 (147,⟨.sl 149,1,24,[.slice none 0 0],false,false⟩),
 (149,⟨.int .u32,1,4,[.int .u32 0],false,false⟩),
 (156,⟨.st [(0,5),(1,5)],2,2,[.int .u8 0,.int .u8 0],true,true⟩),
 (157,⟨.st [(0,5),(1,5)],2,2,[.int .u8 0,.int .u8 0],true,true⟩),
 (168,⟨.iface,1,16,[.nilIface],false,false⟩),
 (169,⟨.iface,1,16,[.nilIface],false,false⟩),
 (170,⟨.ptr,1,8,[.pointer none],false,false⟩),
 (174,⟨.arr 0 16,0,0,[],true,false⟩),
 (178,⟨.int .u8,1,1,[.int .u8 0],false,false⟩),
 (179,⟨.int .u8,1,1,[.int .u8 0],false,false⟩),
 (181,⟨.ptr,1,8,[.pointer none],false,false⟩),
 (182,⟨.int .i32,1,4,[.int .i32 0],false,false⟩),
 (183,⟨.int .i32,1,4,[.int .i32 0],false,false⟩),
 (186,⟨.st [(0,9)],1,16,[.string ⟨#[]⟩],true,true⟩),
 (187,⟨.st [(0,9)],1,16,[.string ⟨#[]⟩],true,true⟩)]
theorem tab:tabB Tryz.prog tt=true:=by kernel_rfl
@[reducible] def m_ (d s:Nat):AOper:=⟨some d,.mov (.tmp s),none⟩
@[reducible] def o_ (d:Nat) (a:A):AOper:=⟨some d,a,none⟩
@[reducible] def g_ (d:Nat) (a:A) (k:Nat) (b:Bool):AOper:=⟨some d,a,some (k,b)⟩
@[reducible] def s_ (a:A):AOper:=⟨none,a,none⟩
@[reducible] def t_ (n:Nat):Operand:=.tmp n
def b1003_0:AC:=(.region 0 [
 o_ 4 (.mov (.const (.bool false)))])
def b1003_1:AC:=(.seq (.region 0 [
 m_ 12 0,
 m_ 13 1,
 o_ 14 (.call 9 [(t_ 12),(t_ 13)]),
 o_ 15 (.not (t_ 14))])
 (.cond (t_ 15) (.seq (.region 0 [
 o_ 16 (.call 10 []),
 m_ 4 16])
 .ret) .skip))
def b1003_2:AC:=(.region 2 [
 m_ 17 0,
 o_ 18 (.build [(.v (.slice none 0 0)),(.v (.slice none 0 0)),(.v (.slice none 0 0))] [(2,(1,(t_ 17)))]),
 m_ 19 0,
 o_ 20 (.build [(.v (.slice none 0 0)),(.v (.slice none 0 0)),(.v (.slice none 0 0))] [(2,(1,(t_ 19)))]),
 o_ 5 (.zero 0 [(.v (.slice none 0 0)),(.v (.slice none 0 0)),(.v (.slice none 0 0))]),
 o_ 6 (.zero 1 [(.v (.slice none 0 0)),(.v (.slice none 0 0)),(.v (.slice none 0 0))]),
 s_ (.store 3 (t_ 5) (t_ 18)),
 s_ (.store 3 (t_ 6) (t_ 20))])
def b1003_3:AC:=(.seq (.region 0 [
 m_ 21 1,
 o_ 22 (.lenL (t_ 21)),
 o_ 23 (.mov (.const (.int .i64 0)))])
 (.block 0 (.loop (.seq (.region 0 [
 o_ 24 (.binI .lss .i64 (t_ 23) (t_ 22))])
 (.seq (.cond (t_ 24) .skip (.exit 0))
 (.seq (.block 1 (.seq (.region 0 [
 m_ 25 23,
 m_ 7 25])
 (.seq (.dregion 1 [
 o_ 27 (.load true 3 (t_ 5)),
 m_ 28 1,
 m_ 29 7,
 o_ 30 (.iaddr 18 (t_ 28) (t_ 29)),
 o_ 31 (.load true 18 (t_ 30)),
 o_ 32 (.call 11 [(t_ 27),(t_ 31)]),
 m_ 26 32,
 o_ 33 (.ext (t_ 26) 0),
 o_ 34 (.ext (t_ 26) 1),
 o_ 8 (.zero 0 [(.v (.slice none 0 0)),(.v (.slice none 0 0)),(.v (.slice none 0 0))]),
 s_ (.store 3 (t_ 8) (t_ 33)),
 m_ 9 34] [[],[],[],[1,2],[3],[0,4],[5],[6],[6],[],[9,7,5,0,1,2,3,4,5,6,7,9],[8,10,0,1,2,3,4,5,6,7,8,9,10]])
 (.seq (.dregion 1 [
 o_ 36 (.load true 3 (t_ 6)),
 m_ 37 1,
 m_ 38 7,
 o_ 39 (.iaddr 18 (t_ 37) (t_ 38)),
 o_ 40 (.load true 18 (t_ 39)),
 o_ 41 (.call 12 [(t_ 36),(t_ 40)]),
 m_ 35 41,
 o_ 42 (.ext (t_ 35) 0),
 o_ 43 (.ext (t_ 35) 1),
 o_ 10 (.zero 0 [(.v (.slice none 0 0)),(.v (.slice none 0 0)),(.v (.slice none 0 0))]),
 s_ (.store 3 (t_ 10) (t_ 42)),
 m_ 11 43] [[],[],[],[1,2],[3],[0,4],[5],[6],[6],[],[9,7,5,0,1,2,3,4,5,6,7,9],[8,10,0,1,2,3,4,5,6,7,8,9,10]])
 (.seq (.seq (.dregion 0 [
 m_ 44 9,
 m_ 45 11,
 o_ 46 (.binI .neq .i64 (t_ 44) (t_ 45)),
 m_ 47 46,
 g_ 48 (.load true 3 (t_ 8)) 47 false,
 g_ 49 (.load true 3 (t_ 10)) 47 false,
 g_ 50 (.call 13 [(t_ 48),(t_ 49)]) 47 false,
 g_ 51 (.not (t_ 50)) 47 false,
 o_ 52 (.pick (t_ 47) (.const (.bool true)) (t_ 51)),
 m_ 53 52,
 g_ 54 (.load true 3 (t_ 8)) 53 false,
 g_ 55 (.call 15 [(t_ 54)]) 53 false,
 g_ 56 (.load true 3 (t_ 10)) 53 false,
 g_ 57 (.call 16 [(t_ 56)]) 53 false,
 g_ 58 (.call 14 [(t_ 55),(t_ 57)]) 53 false,
 g_ 59 (.not (t_ 58)) 53 false,
 o_ 60 (.pick (t_ 53) (.const (.bool true)) (t_ 59))] [[],[],[0,1],[2],[3],[3],[4,5,3,3],[6,3],[3,7],[8,6],[9],[10,9,9],[9],[12,11,9],[11,13,13,9],[14,9],[9,15]])
 (.cond (t_ 60) (.seq (.region 0 [
 o_ 4 (.mov (.const (.bool false)))])
 .ret) .skip))
 (.dregion 0 [
 o_ 61 (.load true 3 (t_ 8)),
 o_ 62 (.load true 3 (t_ 10)),
 s_ (.store 3 (t_ 5) (t_ 61)),
 s_ (.store 3 (t_ 6) (t_ 62))] [[],[],[0,0],[1,2,0,1,2]]))))))
 (.region 0 [
 o_ 63 (.binI .add .i64 (t_ 23) (.const (.int .i64 1))),
 m_ 23 63])))))))
def b1003_4:AC:=(.region 0 [
 o_ 64 (.call 10 []),
 m_ 4 64])
def b1003_5:AC:=.ret
def b1003:AC:=(.seq b1003_0 (.seq b1003_1 (.seq b1003_2 (.seq b1003_3 (.seq b1003_4 b1003_5)))))
def ir1003:AF:=⟨65,[(.tmp 4)],b1003⟩
theorem c1003:compF tt Tryz.f3=some ir1003:=by kernel_rfl
def b1009:AC:=(.seq (.region 0 [
 o_ 4 (.mov (.const (.bool false)))])
 (.seq (.seq (.region 0 [
 m_ 6 0,
 o_ 7 (.lenL (t_ 6)),
 o_ 8 (.binI .gtr .i64 (t_ 7) (.const (.int .i64 8))),
 m_ 9 8,
 g_ 10 (.mov (t_ 1)) 9 false,
 g_ 11 (.lenL (t_ 10)) 9 false,
 g_ 12 (.binI .gtr .i64 (t_ 11) (.const (.int .i64 24))) 9 false,
 o_ 13 (.pick (t_ 9) (.const (.bool true)) (t_ 12)),
 m_ 14 13,
 g_ 15 (.mov (t_ 0)) 14 false,
 g_ 16 (.call 27 [(t_ 15)]) 14 false,
 g_ 17 (.binI .neq .i64 (t_ 16) (.const (.int .i64 0))) 14 false,
 o_ 18 (.pick (t_ 14) (.const (.bool true)) (t_ 17))])
 (.cond (t_ 18) (.seq (.region 0 [
 o_ 4 (.mov (.const (.bool false)))])
 .ret) .skip))
 (.seq (.seq (.region 0 [
 m_ 19 1,
 o_ 20 (.lenL (t_ 19)),
 o_ 21 (.mov (.const (.int .i64 0)))])
 (.block 0 (.loop (.seq (.region 0 [
 o_ 22 (.binI .lss .i64 (t_ 21) (t_ 20))])
 (.seq (.cond (t_ 22) .skip (.exit 0))
 (.seq (.block 1 (.seq (.region 0 [
 m_ 23 21,
 m_ 5 23])
 (.seq (.region 0 [
 m_ 24 1,
 m_ 25 5,
 o_ 26 (.iaddr 18 (t_ 24) (t_ 25)),
 o_ 27 (.load true 18 (t_ 26)),
 o_ 28 (.call 28 [(t_ 27)]),
 o_ 29 (.binI .gtr .i64 (t_ 28) (.const (.int .i64 0)))])
 (.cond (t_ 29) (.seq (.region 0 [
 o_ 4 (.mov (.const (.bool false)))])
 .ret) .skip))))
 (.region 0 [
 o_ 30 (.binI .add .i64 (t_ 21) (.const (.int .i64 1))),
 m_ 21 30])))))))
 (.seq (.region 0 [
 o_ 4 (.mov (.const (.bool true)))])
 .ret))))
def ir1009:AF:=⟨31,[(.tmp 4)],b1009⟩
theorem c1009:compF tt Tryz.f9=some ir1009:=by kernel_rfl
def b1010_0:AC:=(.region 0 [
 o_ 0 (.mov (.const (.bool false)))])
def b1010_1:AC:=(.region 1 [
 o_ 8 (.build [(.v (.string ⟨#[]⟩)),(.v (.int .i64 0))] [(0,(1,(.const (.string ⟨#[97,110,110]⟩)))),(1,(1,(.const (.int .i64 1))))]),
 o_ 9 (.build [(.v (.string ⟨#[]⟩)),(.v (.int .i64 0)),(.v (.int .i64 0)),(.v (.int .i64 0)),(.v (.slice none 0 0)),(.v (.int .i64 0)),(.v (.string ⟨#[]⟩)),(.v (.int .i64 0)),(.v (.string ⟨#[]⟩)),(.v (.int .i64 0)),(.v (.bool false)),(.v (.string ⟨#[]⟩)),(.v (.string ⟨#[]⟩)),(.v (.string ⟨#[]⟩)),(.v (.string ⟨#[]⟩)),(.v (.string ⟨#[]⟩)),(.v (.int .i64 0)),(.v (.string ⟨#[]⟩))] [(0,(2,(t_ 8))),(2,(1,(.const (.int .i64 1)))),(5,(1,(.const (.int .i64 6))))]),
 o_ 1 (.zero 0 [(.v (.string ⟨#[]⟩)),(.v (.int .i64 0)),(.v (.int .i64 0)),(.v (.int .i64 0)),(.v (.slice none 0 0)),(.v (.int .i64 0)),(.v (.string ⟨#[]⟩)),(.v (.int .i64 0)),(.v (.string ⟨#[]⟩)),(.v (.int .i64 0)),(.v (.bool false)),(.v (.string ⟨#[]⟩)),(.v (.string ⟨#[]⟩)),(.v (.string ⟨#[]⟩)),(.v (.string ⟨#[]⟩)),(.v (.string ⟨#[]⟩)),(.v (.int .i64 0)),(.v (.string ⟨#[]⟩))]),
 s_ (.store 18 (t_ 1) (t_ 9))])
def b1010_2:AC:=(.region 2 [
 o_ 10 (.build [(.v (.string ⟨#[]⟩)),(.v (.int .i64 0))] [(0,(1,(.const (.string ⟨#[98,111,98]⟩)))),(1,(1,(.const (.int .i64 1))))]),
 o_ 11 (.build [(.v (.string ⟨#[]⟩)),(.v (.int .i64 0))] [(0,(1,(.const (.string ⟨#[97,110,110]⟩)))),(1,(1,(.const (.int .i64 1))))]),
 o_ 12 (.bsl 0 2 [(.v (.string ⟨#[]⟩)),(.v (.int .i64 0))] 1 [(0,(t_ 11))]),
 o_ 13 (.build [(.v (.string ⟨#[]⟩)),(.v (.int .i64 0)),(.v (.int .i64 0)),(.v (.int .i64 0)),(.v (.slice none 0 0)),(.v (.int .i64 0)),(.v (.string ⟨#[]⟩)),(.v (.int .i64 0)),(.v (.string ⟨#[]⟩)),(.v (.int .i64 0)),(.v (.bool false)),(.v (.string ⟨#[]⟩)),(.v (.string ⟨#[]⟩)),(.v (.string ⟨#[]⟩)),(.v (.string ⟨#[]⟩)),(.v (.string ⟨#[]⟩)),(.v (.int .i64 0)),(.v (.string ⟨#[]⟩))] [(0,(2,(t_ 10))),(2,(1,(.const (.int .i64 2)))),(4,(1,(t_ 12))),(5,(1,(.const (.int .i64 6))))]),
 o_ 2 (.zero 1 [(.v (.string ⟨#[]⟩)),(.v (.int .i64 0)),(.v (.int .i64 0)),(.v (.int .i64 0)),(.v (.slice none 0 0)),(.v (.int .i64 0)),(.v (.string ⟨#[]⟩)),(.v (.int .i64 0)),(.v (.string ⟨#[]⟩)),(.v (.int .i64 0)),(.v (.bool false)),(.v (.string ⟨#[]⟩)),(.v (.string ⟨#[]⟩)),(.v (.string ⟨#[]⟩)),(.v (.string ⟨#[]⟩)),(.v (.string ⟨#[]⟩)),(.v (.int .i64 0)),(.v (.string ⟨#[]⟩))]),
 s_ (.store 18 (t_ 2) (t_ 13))])
def b1010_3:AC:=(.region 1 [
 o_ 15 (.build [(.v (.slice none 0 0)),(.v (.slice none 0 0)),(.v (.slice none 0 0))] []),
 o_ 16 (.load true 18 (t_ 2)),
 o_ 17 (.call 11 [(t_ 15),(t_ 16)]),
 m_ 14 17,
 o_ 18 (.ext (t_ 14) 0),
 o_ 19 (.ext (t_ 14) 1),
 o_ 3 (.zero 0 [(.v (.slice none 0 0)),(.v (.slice none 0 0)),(.v (.slice none 0 0))]),
 s_ (.store 3 (t_ 3) (t_ 18)),
 m_ 4 19])
def b1010_4:AC:=(.region 0 [
 o_ 20 (.load true 3 (t_ 3)),
 o_ 21 (.call 15 [(t_ 20)]),
 m_ 5 21])
def b1010_5:AC:=(.region 1 [
 o_ 23 (.load true 3 (t_ 3)),
 o_ 24 (.load true 18 (t_ 1)),
 o_ 25 (.call 11 [(t_ 23),(t_ 24)]),
 m_ 22 25,
 o_ 26 (.ext (t_ 22) 0),
 o_ 27 (.ext (t_ 22) 1),
 o_ 6 (.zero 0 [(.v (.slice none 0 0)),(.v (.slice none 0 0)),(.v (.slice none 0 0))]),
 s_ (.store 3 (t_ 6) (t_ 26)),
 m_ 7 27])
def b1010_6:AC:=(.dregion 0 [
 m_ 28 4,
 o_ 29 (.binI .eql .i64 (t_ 28) (.const (.int .i64 19))),
 m_ 30 29,
 g_ 31 (.mov (t_ 5)) 30 true,
 g_ 32 (.lenL (t_ 31)) 30 true,
 g_ 33 (.binI .eql .i64 (t_ 32) (.const (.int .i64 1))) 30 true,
 o_ 34 (.pick (t_ 30) (t_ 33) (.const (.bool false))),
 m_ 35 34,
 g_ 36 (.mov (t_ 5)) 35 true,
 g_ 37 (.iaddr 2 (t_ 36) (.const (.int .i64 0))) 35 true,
 g_ 38 (.load true 2 (t_ 37)) 35 true,
 g_ 39 (.faddr 0 (t_ 1)) 35 true,
 g_ 40 (.load true 2 (t_ 39)) 35 true,
 g_ 41 (.eqA false [.s,(.i .i64)] (t_ 38) (t_ 40)) 35 true,
 o_ 42 (.pick (t_ 35) (t_ 41) (.const (.bool false))),
 m_ 43 42,
 g_ 44 (.mov (t_ 7)) 43 true,
 g_ 45 (.binI .eql .i64 (t_ 44) (.const (.int .i64 0))) 43 true,
 o_ 46 (.pick (t_ 43) (t_ 45) (.const (.bool false))),
 m_ 47 46,
 g_ 48 (.faddr 0 (t_ 6)) 47 true,
 g_ 49 (.load false 1 (t_ 48)) 47 true,
 g_ 50 (.lenL (t_ 49)) 47 true,
 g_ 51 (.binI .eql .i64 (t_ 50) (.const (.int .i64 2))) 47 true,
 o_ 52 (.pick (t_ 47) (t_ 51) (.const (.bool false))),
 m_ 53 52,
 g_ 54 (.faddr 0 (t_ 6)) 53 true,
 g_ 55 (.load false 1 (t_ 54)) 53 true,
 g_ 56 (.iaddr 18 (t_ 55) (.const (.int .i64 0))) 53 true,
 g_ 57 (.faddr 0 (t_ 56)) 53 true,
 g_ 58 (.load true 2 (t_ 57)) 53 true,
 g_ 59 (.faddr 0 (t_ 1)) 53 true,
 g_ 60 (.load true 2 (t_ 59)) 53 true,
 g_ 61 (.eqA false [.s,(.i .i64)] (t_ 58) (t_ 60)) 53 true,
 o_ 62 (.pick (t_ 53) (t_ 61) (.const (.bool false))),
 m_ 63 62,
 g_ 64 (.faddr 0 (t_ 6)) 63 true,
 g_ 65 (.load false 1 (t_ 64)) 63 true,
 g_ 66 (.iaddr 18 (t_ 65) (.const (.int .i64 1))) 63 true,
 g_ 67 (.faddr 0 (t_ 66)) 63 true,
 g_ 68 (.load true 2 (t_ 67)) 63 true,
 g_ 69 (.faddr 0 (t_ 2)) 63 true,
 g_ 70 (.load true 2 (t_ 69)) 63 true,
 g_ 71 (.eqA false [.s,(.i .i64)] (t_ 68) (t_ 70)) 63 true,
 o_ 72 (.pick (t_ 63) (t_ 71) (.const (.bool false))),
 m_ 73 72,
 g_ 74 (.faddr 1 (t_ 6)) 73 true,
 g_ 75 (.load false 1 (t_ 74)) 73 true,
 g_ 76 (.lenL (t_ 75)) 73 true,
 g_ 77 (.binI .eql .i64 (t_ 76) (.const (.int .i64 0))) 73 true,
 o_ 78 (.pick (t_ 73) (t_ 77) (.const (.bool false))),
 m_ 0 78] [[],[0],[1],[2],[3,2],[4,2],[2,5],[6,2],[7],[8,7],[9,7],[7],[11,7],[10,12,7],[7,13],[14,7],[15],[16,15],[15,17],[18,15],[19],[20,19],[21,19],[22,19],[19,23],[24,19],[25],[26,25],[27,25],[28,25],[29,25],[25],[31,25],[30,32,25],[25,33],[34,25],[35],[36,35],[37,35],[38,35],[39,35],[35],[41,35],[40,42,35],[35,43],[44,35],[45],[46,45],[47,45],[48,45],[45,49],[50,45,0,1,2,3,4,5,6,7,8,9,10,11,12,13,14,15,16,17,18,19,20,21,22,23,24,25,26,27,28,29,30,31,32,33,34,35,36,37,38,39,40,41,42,43,44,45,46,47,48,49,50]])
def b1010_7:AC:=.ret
def b1010:AC:=(.seq b1010_0 (.seq b1010_1 (.seq b1010_2 (.seq b1010_3 (.seq b1010_4 (.seq b1010_5 (.seq b1010_6 b1010_7)))))))
def ir1010:AF:=⟨79,[(.tmp 0)],b1010⟩
theorem c1010:compF tt Tryz.f10=some ir1010:=by kernel_rfl
def b1011_0:AC:=(.region 3 [
 o_ 2 (.box 0 (t_ 0)),
 o_ 3 (.box 1 (t_ 1)),
 o_ 4 (.zero 2 [(.v (.slice none 0 0)),(.v (.slice none 0 0)),(.v (.slice none 0 0))]),
 o_ 5 (.mov (.const (.int .i64 0)))])
def b1011_1:AC:=(.seq (.region 0 [
 o_ 11 (.load true 18 (t_ 3)),
 o_ 12 (.call 29 [(t_ 11)]),
 m_ 6 12])
 (.seq (.region 0 [
 m_ 13 6,
 o_ 14 (.binI .neq .i64 (t_ 13) (.const (.int .i64 0)))])
 (.cond (t_ 14) (.seq (.region 0 [
 o_ 15 (.load true 3 (t_ 2)),
 m_ 16 6,
 s_ (.store 3 (t_ 4) (t_ 15)),
 m_ 5 16])
 .ret) .skip)))
def b1011_2:AC:=(.seq (.region 1 [
 o_ 17 (.faddr 0 (t_ 2)),
 o_ 18 (.load false 1 (t_ 17)),
 o_ 19 (.faddr 1 (t_ 2)),
 o_ 20 (.load false 1 (t_ 19)),
 o_ 21 (.bsl 0 1 [(.v (.slice none 0 0))] 2 [(0,(t_ 18)),(1,(t_ 20))]),
 o_ 22 (.lenL (t_ 21)),
 o_ 23 (.mov (.const (.int .i64 0)))])
 (.block 0 (.loop (.seq (.region 0 [
 o_ 24 (.binI .lss .i64 (t_ 23) (t_ 22))])
 (.seq (.cond (t_ 24) .skip (.exit 0))
 (.seq (.block 1 (.seq (.region 0 [
 o_ 25 (.iaddr 1 (t_ 21) (t_ 23)),
 o_ 26 (.load false 1 (t_ 25)),
 m_ 8 26])
 (.seq (.region 0 [
 m_ 27 8,
 o_ 28 (.faddr 0 (t_ 3)),
 o_ 29 (.load true 2 (t_ 28)),
 o_ 30 (.call 31 [(t_ 29)]),
 o_ 31 (.call 30 [(t_ 27),(t_ 30)]),
 m_ 9 31])
 (.seq (.dregion 0 [
 m_ 32 9,
 o_ 33 (.binI .geq .i64 (t_ 32) (.const (.int .i64 0))),
 m_ 34 33,
 g_ 35 (.mov (t_ 8)) 34 true,
 g_ 36 (.mov (t_ 9)) 34 true,
 g_ 37 (.iaddr 18 (t_ 35) (t_ 36)) 34 true,
 g_ 38 (.load true 18 (t_ 37)) 34 true,
 g_ 39 (.load true 18 (t_ 3)) 34 true,
 g_ 40 (.call 32 [(t_ 38),(t_ 39)]) 34 true,
 g_ 41 (.not (t_ 40)) 34 true,
 o_ 42 (.pick (t_ 34) (t_ 41) (.const (.bool false)))] [[],[0],[1],[2],[2],[3,4,2],[5,2],[2],[6,7,2,2],[8,2],[2,9]])
 (.cond (t_ 42) (.seq (.region 0 [
 o_ 43 (.load true 3 (t_ 2)),
 s_ (.store 3 (t_ 4) (t_ 43)),
 o_ 5 (.mov (.const (.int .i64 21)))])
 .ret) .skip)))))
 (.region 0 [
 o_ 44 (.binI .add .i64 (t_ 23) (.const (.int .i64 1))),
 m_ 23 44])))))))
def b1011_3:AC:=(.seq (.dregion 0 [
 o_ 45 (.faddr 2 (t_ 2)),
 o_ 46 (.load false 1 (t_ 45)),
 o_ 47 (.faddr 0 (t_ 3)),
 o_ 48 (.load true 2 (t_ 47)),
 o_ 49 (.call 19 [(t_ 46),(t_ 48)]),
 m_ 50 49,
 g_ 51 (.faddr 1 (t_ 2)) 50 false,
 g_ 52 (.load false 1 (t_ 51)) 50 false,
 g_ 53 (.faddr 0 (t_ 3)) 50 false,
 g_ 54 (.load true 2 (t_ 53)) 50 false,
 g_ 55 (.call 31 [(t_ 54)]) 50 false,
 g_ 56 (.call 33 [(t_ 52),(t_ 55)]) 50 false,
 o_ 57 (.pick (t_ 50) (.const (.bool true)) (t_ 56))] [[],[0],[],[2],[1,3],[4,4],[5],[6,5],[5],[8,5],[9,5,5],[7,10,10,5],[5,11]])
 (.cond (t_ 57) (.seq (.region 0 [
 o_ 58 (.load true 3 (t_ 2)),
 s_ (.store 3 (t_ 4) (t_ 58)),
 o_ 5 (.mov (.const (.int .i64 8)))])
 .ret) .skip))
def b1011_4:AC:=(.region 0 [
 o_ 59 (.faddr 4 (t_ 3)),
 o_ 60 (.load false 1 (t_ 59)),
 o_ 61 (.call 34 [(t_ 60)]),
 o_ 62 (.faddr 4 (t_ 3)),
 s_ (.store 1 (t_ 62) (t_ 61))])
def b1011_5:AC:=(.seq (.dregion 0 [
 o_ 63 (.faddr 2 (t_ 2)),
 o_ 64 (.load false 1 (t_ 63)),
 o_ 65 (.call 35 [(t_ 64)]),
 o_ 66 (.load true 18 (t_ 3)),
 o_ 67 (.callv (t_ 65) [(t_ 66)]),
 o_ 68 (.not (t_ 67))] [[],[0],[1],[],[2,3,2],[4]])
 (.cond (t_ 68) (.seq (.dregion 2 [
 o_ 69 (.faddr 1 (t_ 2)),
 o_ 70 (.load false 1 (t_ 69)),
 o_ 71 (.call 36 [(t_ 70)]),
 o_ 72 (.load true 18 (t_ 3)),
 o_ 73 (.bsl 0 18 [(.v (.string ⟨#[]⟩)),(.v (.int .i64 0)),(.v (.int .i64 0)),(.v (.int .i64 0)),(.v (.slice none 0 0)),(.v (.int .i64 0)),(.v (.string ⟨#[]⟩)),(.v (.int .i64 0)),(.v (.string ⟨#[]⟩)),(.v (.int .i64 0)),(.v (.bool false)),(.v (.string ⟨#[]⟩)),(.v (.string ⟨#[]⟩)),(.v (.string ⟨#[]⟩)),(.v (.string ⟨#[]⟩)),(.v (.string ⟨#[]⟩)),(.v (.int .i64 0)),(.v (.string ⟨#[]⟩))] 1 [(0,(t_ 72))]),
 o_ 74 (.app 1 18 232 (t_ 71) (t_ 73)),
 o_ 75 (.faddr 1 (t_ 2)),
 s_ (.store 1 (t_ 75) (t_ 74))] [[],[0],[1],[],[3],[2,4,2],[0,1,2,3,4,5],[6,5,5,0,1,2,3,4,5]])
 (.seq (.region 0 [
 o_ 76 (.faddr 1 (t_ 2)),
 o_ 77 (.load false 1 (t_ 76)),
 o_ 78 (.call 37 [(t_ 77),(.func 38)])])
 (.seq (.region 0 [
 o_ 79 (.load true 3 (t_ 2)),
 s_ (.store 3 (t_ 4) (t_ 79)),
 o_ 5 (.mov (.const (.int .i64 19)))])
 .ret))) .skip))
def b1011_6:AC:=(.dregion 0 [
 o_ 80 (.faddr 0 (t_ 2)),
 o_ 81 (.load false 1 (t_ 80)),
 o_ 82 (.call 36 [(t_ 81)]),
 o_ 83 (.faddr 1 (t_ 2)),
 o_ 84 (.load false 1 (t_ 83)),
 o_ 85 (.call 36 [(t_ 84)]),
 o_ 86 (.faddr 0 (t_ 2)),
 s_ (.store 1 (t_ 86) (t_ 82)),
 o_ 87 (.faddr 1 (t_ 2)),
 s_ (.store 1 (t_ 87) (t_ 85))] [[],[0],[1],[],[3],[4,2],[0,1,2,3,4],[6,2,5,0,1,2,3,4],[0,1,2,3,4,5,6,7],[8,5,7,0,1,2,3,4,5,6,7]])
def b1011_7:AC:=(.block 2 (.loop (.block 3 (.seq (.dregion 2 [
 o_ 88 (.faddr 0 (t_ 2)),
 o_ 89 (.load false 1 (t_ 88)),
 o_ 90 (.load true 18 (t_ 3)),
 o_ 91 (.bsl 0 18 [(.v (.string ⟨#[]⟩)),(.v (.int .i64 0)),(.v (.int .i64 0)),(.v (.int .i64 0)),(.v (.slice none 0 0)),(.v (.int .i64 0)),(.v (.string ⟨#[]⟩)),(.v (.int .i64 0)),(.v (.string ⟨#[]⟩)),(.v (.int .i64 0)),(.v (.bool false)),(.v (.string ⟨#[]⟩)),(.v (.string ⟨#[]⟩)),(.v (.string ⟨#[]⟩)),(.v (.string ⟨#[]⟩)),(.v (.string ⟨#[]⟩)),(.v (.int .i64 0)),(.v (.string ⟨#[]⟩))] 1 [(0,(t_ 90))]),
 o_ 92 (.app 1 18 232 (t_ 89) (t_ 91)),
 o_ 93 (.faddr 2 (t_ 2)),
 o_ 94 (.load false 1 (t_ 93)),
 o_ 95 (.faddr 0 (t_ 3)),
 o_ 96 (.load true 2 (t_ 95)),
 o_ 97 (.call 20 [(t_ 94),(t_ 96)]),
 o_ 98 (.faddr 0 (t_ 2)),
 s_ (.store 1 (t_ 98) (t_ 92)),
 o_ 99 (.faddr 2 (t_ 2)),
 s_ (.store 1 (t_ 99) (t_ 97))] [[],[0],[],[2],[1,3],[],[5],[],[7],[6,8,4],[0,1,2,3,4,5,6],[10,4,9,0,1,2,3,4,5,6],[0,1,2,3,4,5,6,7,8,9,10,11],[12,9,11,0,1,2,3,4,5,6,7,8,9,10,11]])
 (.seq (.dregion 0 [
 o_ 100 (.faddr 1 (t_ 2)),
 o_ 101 (.load false 1 (t_ 100)),
 o_ 102 (.faddr 2 (t_ 2)),
 o_ 103 (.load false 1 (t_ 102)),
 o_ 104 (.call 35 [(t_ 103)]),
 o_ 105 (.call 30 [(t_ 101),(t_ 104)]),
 m_ 10 105] [[],[0],[],[2],[3],[1,4,4],[5,5,0,1,2,3,4,5]])
 (.seq (.seq (.region 0 [
 m_ 106 10,
 o_ 107 (.binI .lss .i64 (t_ 106) (.const (.int .i64 0)))])
 (.cond (t_ 107) (.seq (.region 0 [
 o_ 108 (.load true 3 (t_ 2)),
 s_ (.store 3 (t_ 4) (t_ 108)),
 o_ 5 (.mov (.const (.int .i64 0)))])
 .ret) .skip))
 (.seq (.region 0 [
 o_ 109 (.faddr 1 (t_ 2)),
 o_ 110 (.load false 1 (t_ 109)),
 m_ 111 10,
 o_ 112 (.iaddr 18 (t_ 110) (t_ 111)),
 o_ 113 (.load true 18 (t_ 112)),
 s_ (.store 18 (t_ 3) (t_ 113))])
 (.region 0 [
 o_ 114 (.faddr 1 (t_ 2)),
 o_ 115 (.load false 1 (t_ 114)),
 m_ 116 10,
 m_ 117 10,
 o_ 118 (.binI .add .i64 (t_ 117) (.const (.int .i64 1))),
 o_ 119 (.call 39 [(t_ 115),(t_ 116),(t_ 118)]),
 o_ 120 (.faddr 1 (t_ 2)),
 s_ (.store 1 (t_ 120) (t_ 119))]))))))))
def b1011:AC:=(.seq b1011_0 (.seq b1011_1 (.seq b1011_2 (.seq b1011_3 (.seq b1011_4 (.seq b1011_5 (.seq b1011_6 b1011_7)))))))
def ir1011:AF:=⟨121,[(.cell 4 true 3),(.tmp 5)],b1011⟩
theorem c1011:compF tt Tryz.f11=some ir1011:=by kernel_rfl
def b1012_0:AC:=(.region 3 [
 o_ 2 (.box 0 (t_ 0)),
 o_ 3 (.box 1 (t_ 1)),
 o_ 4 (.zero 2 [(.v (.slice none 0 0)),(.v (.slice none 0 0)),(.v (.slice none 0 0))]),
 o_ 5 (.mov (.const (.int .i64 0)))])
def b1012_1:AC:=(.region 0 [
 o_ 10 (.load true 18 (t_ 3)),
 o_ 11 (.call 25 [(t_ 10)]),
 m_ 6 11])
def b1012_2:AC:=(.seq (.region 0 [
 m_ 12 6,
 o_ 13 (.binI .neq .i64 (t_ 12) (.const (.int .i64 0)))])
 (.cond (t_ 13) (.seq (.region 0 [
 o_ 14 (.load true 3 (t_ 2)),
 m_ 15 6,
 s_ (.store 3 (t_ 4) (t_ 14)),
 m_ 5 15])
 .ret) .skip))
def b1012_3:AC:=(.dregion 0 [
 o_ 16 (.faddr 0 (t_ 2)),
 o_ 17 (.load false 1 (t_ 16)),
 o_ 18 (.faddr 0 (t_ 3)),
 o_ 19 (.load true 2 (t_ 18)),
 o_ 20 (.call 40 [(t_ 17),(t_ 19)]),
 o_ 21 (.faddr 1 (t_ 2)),
 o_ 22 (.load false 1 (t_ 21)),
 o_ 23 (.faddr 0 (t_ 3)),
 o_ 24 (.load true 2 (t_ 23)),
 o_ 25 (.call 40 [(t_ 22),(t_ 24)]),
 m_ 7 20,
 m_ 8 25] [[],[0],[],[2],[1,3],[],[5],[],[7],[6,8,4],[4,9,0,1,2,3,4],[9,10,0,1,2,3,4,5,6,7,8,9,10]])
def b1012_4:AC:=(.seq (.dregion 0 [
 m_ 26 7,
 o_ 27 (.binI .geq .i64 (t_ 26) (.const (.int .i64 0))),
 m_ 28 27,
 g_ 29 (.faddr 0 (t_ 2)) 28 true,
 g_ 30 (.load false 1 (t_ 29)) 28 true,
 g_ 31 (.mov (t_ 7)) 28 true,
 g_ 32 (.iaddr 18 (t_ 30) (t_ 31)) 28 true,
 g_ 33 (.load true 18 (t_ 32)) 28 true,
 g_ 34 (.load true 18 (t_ 3)) 28 true,
 g_ 35 (.call 23 [(t_ 33),(t_ 34)]) 28 true,
 g_ 36 (.not (t_ 35)) 28 true,
 o_ 37 (.pick (t_ 28) (t_ 36) (.const (.bool false))),
 m_ 38 37,
 g_ 39 (.mov (t_ 8)) 38 false,
 g_ 40 (.binI .geq .i64 (t_ 39) (.const (.int .i64 0))) 38 false,
 g_ 41 (.mov (t_ 40)) 38 false,
 g_ 42 (.faddr 1 (t_ 2)) 41 true,
 g_ 43 (.load false 1 (t_ 42)) 41 true,
 g_ 44 (.mov (t_ 8)) 41 true,
 g_ 45 (.iaddr 18 (t_ 43) (t_ 44)) 41 true,
 g_ 46 (.load true 18 (t_ 45)) 41 true,
 g_ 47 (.load true 18 (t_ 3)) 41 true,
 g_ 48 (.call 23 [(t_ 46),(t_ 47)]) 41 true,
 g_ 49 (.not (t_ 48)) 41 true,
 g_ 50 (.pick (t_ 41) (t_ 49) (.const (.bool false))) 38 false,
 o_ 51 (.pick (t_ 38) (.const (.bool true)) (t_ 50))] [[],[0],[1],[2],[3,2],[2],[4,5,2],[6,2],[2],[7,8,2,2],[9,2],[2,10],[11,9],[12],[13,12],[14,12,12],[15],[16,15],[15],[17,18,15],[19,15],[15],[20,21,15,15],[22,15],[15,23,12],[12,24]])
 (.cond (t_ 51) (.seq (.region 0 [
 o_ 52 (.load true 3 (t_ 2)),
 s_ (.store 3 (t_ 4) (t_ 52)),
 o_ 5 (.mov (.const (.int .i64 21)))])
 .ret) .skip))
def b1012_5:AC:=(.seq (.region 0 [
 m_ 53 8,
 o_ 54 (.binI .geq .i64 (t_ 53) (.const (.int .i64 0))),
 m_ 55 54,
 g_ 56 (.faddr 2 (t_ 2)) 55 false,
 g_ 57 (.load false 1 (t_ 56)) 55 false,
 g_ 58 (.faddr 0 (t_ 3)) 55 false,
 g_ 59 (.load true 2 (t_ 58)) 55 false,
 g_ 60 (.call 26 [(t_ 57),(t_ 59)]) 55 false,
 o_ 61 (.pick (t_ 55) (.const (.bool true)) (t_ 60))])
 (.cond (t_ 61) (.seq (.region 0 [
 o_ 62 (.load true 3 (t_ 2)),
 s_ (.store 3 (t_ 4) (t_ 62)),
 o_ 5 (.mov (.const (.int .i64 8)))])
 .ret) .skip))
def b1012_6:AC:=(.seq (.region 0 [
 o_ 63 (.faddr 2 (t_ 2)),
 o_ 64 (.load false 1 (t_ 63)),
 o_ 65 (.faddr 4 (t_ 3)),
 o_ 66 (.load false 1 (t_ 65)),
 o_ 67 (.call 41 [(t_ 64),(t_ 66)]),
 o_ 68 (.not (t_ 67))])
 (.cond (t_ 68) (.seq (.region 0 [
 o_ 9 (.mov (.const (.int .i64 0)))])
 (.seq (.block 0 (.loop (.seq (.seq (.dregion 0 [
 m_ 69 9,
 o_ 70 (.faddr 1 (t_ 2)),
 o_ 71 (.load false 1 (t_ 70)),
 o_ 72 (.lenL (t_ 71)),
 o_ 73 (.binI .lss .i64 (t_ 69) (t_ 72)),
 m_ 74 73,
 g_ 75 (.faddr 1 (t_ 2)) 74 true,
 g_ 76 (.load false 1 (t_ 75)) 74 true,
 g_ 77 (.mov (t_ 9)) 74 true,
 g_ 78 (.iaddr 18 (t_ 76) (t_ 77)) 74 true,
 g_ 79 (.load true 18 (t_ 78)) 74 true,
 g_ 80 (.load true 18 (t_ 3)) 74 true,
 g_ 81 (.call 42 [(t_ 79),(t_ 80)]) 74 true,
 g_ 82 (.binI .lss .i64 (t_ 81) (.const (.int .i64 0))) 74 true,
 o_ 83 (.pick (t_ 74) (t_ 82) (.const (.bool false)))] [[],[],[1],[2],[0,3],[4],[5],[6,5],[5],[7,8,5],[9,5],[5],[10,11,5,5],[12,5],[5,13]])
 (.cond (t_ 83) .skip (.exit 0)))
 (.block 1 (.region 0 [
 m_ 84 9,
 o_ 85 (.binI .add .i64 (t_ 84) (.const (.int .i64 1))),
 m_ 9 85])))))
 (.seq (.dregion 5 [
 o_ 86 (.bsl 0 18 [(.v (.string ⟨#[]⟩)),(.v (.int .i64 0)),(.v (.int .i64 0)),(.v (.int .i64 0)),(.v (.slice none 0 0)),(.v (.int .i64 0)),(.v (.string ⟨#[]⟩)),(.v (.int .i64 0)),(.v (.string ⟨#[]⟩)),(.v (.int .i64 0)),(.v (.bool false)),(.v (.string ⟨#[]⟩)),(.v (.string ⟨#[]⟩)),(.v (.string ⟨#[]⟩)),(.v (.string ⟨#[]⟩)),(.v (.string ⟨#[]⟩)),(.v (.int .i64 0)),(.v (.string ⟨#[]⟩))] 0 []),
 o_ 87 (.faddr 1 (t_ 2)),
 o_ 88 (.load false 1 (t_ 87)),
 m_ 89 9,
 o_ 90 (.slice 18 (t_ 88) none (some (t_ 89))),
 o_ 91 (.app 1 18 232 (t_ 86) (t_ 90)),
 o_ 92 (.load true 18 (t_ 3)),
 o_ 93 (.bsl 2 18 [(.v (.string ⟨#[]⟩)),(.v (.int .i64 0)),(.v (.int .i64 0)),(.v (.int .i64 0)),(.v (.slice none 0 0)),(.v (.int .i64 0)),(.v (.string ⟨#[]⟩)),(.v (.int .i64 0)),(.v (.string ⟨#[]⟩)),(.v (.int .i64 0)),(.v (.bool false)),(.v (.string ⟨#[]⟩)),(.v (.string ⟨#[]⟩)),(.v (.string ⟨#[]⟩)),(.v (.string ⟨#[]⟩)),(.v (.string ⟨#[]⟩)),(.v (.int .i64 0)),(.v (.string ⟨#[]⟩))] 1 [(0,(t_ 92))]),
 o_ 94 (.app 3 18 232 (t_ 91) (t_ 93)),
 o_ 95 (.faddr 1 (t_ 2)),
 o_ 96 (.load false 1 (t_ 95)),
 m_ 97 9,
 o_ 98 (.slice 18 (t_ 96) (some (t_ 97)) none),
 o_ 99 (.app 4 18 232 (t_ 94) (t_ 98)),
 o_ 100 (.faddr 1 (t_ 2)),
 s_ (.store 1 (t_ 100) (t_ 99))] [[],[],[1],[],[2,3],[0,4],[],[6],[5,7,5],[],[9],[],[10,11],[8,12,8],[0,1,2,3,4,5,6,7,8,9,10,11,12,13],[14,13,13,0,1,2,3,4,5,6,7,8,9,10,11,12,13]])
 (.seq (.region 0 [
 o_ 101 (.load true 3 (t_ 2)),
 s_ (.store 3 (t_ 4) (t_ 101)),
 o_ 5 (.mov (.const (.int .i64 19)))])
 .ret)))) .skip))
def b1012_7:AC:=(.region 0 [
 o_ 102 (.load true 3 (t_ 2)),
 o_ 103 (.load true 18 (t_ 3)),
 o_ 104 (.call 43 [(t_ 102),(t_ 103)]),
 s_ (.store 3 (t_ 4) (t_ 104)),
 o_ 5 (.mov (.const (.int .i64 0)))])
def b1012_8:AC:=.ret
def b1012:AC:=(.seq b1012_0 (.seq b1012_1 (.seq b1012_2 (.seq b1012_3 (.seq b1012_4 (.seq b1012_5 (.seq b1012_6 (.seq b1012_7 b1012_8))))))))
def ir1012:AF:=⟨105,[(.cell 4 true 3),(.tmp 5)],b1012⟩
theorem c1012:compF tt Tryz.f12=some ir1012:=by kernel_rfl
def b1013:AC:=(.seq (.region 2 [
 o_ 2 (.box 0 (t_ 0)),
 o_ 3 (.box 1 (t_ 1)),
 o_ 4 (.mov (.const (.bool false)))])
 (.seq (.region 0 [
 o_ 5 (.faddr 0 (t_ 2)),
 o_ 6 (.load false 1 (t_ 5)),
 o_ 7 (.faddr 0 (t_ 3)),
 o_ 8 (.load false 1 (t_ 7)),
 o_ 9 (.call 22 [(t_ 6),(t_ 8)]),
 m_ 10 9,
 g_ 11 (.faddr 1 (t_ 2)) 10 true,
 g_ 12 (.load false 1 (t_ 11)) 10 true,
 g_ 13 (.faddr 1 (t_ 3)) 10 true,
 g_ 14 (.load false 1 (t_ 13)) 10 true,
 g_ 15 (.call 22 [(t_ 12),(t_ 14)]) 10 true,
 o_ 16 (.pick (t_ 10) (t_ 15) (.const (.bool false))),
 m_ 17 16,
 g_ 18 (.faddr 2 (t_ 2)) 17 true,
 g_ 19 (.load false 1 (t_ 18)) 17 true,
 g_ 20 (.faddr 2 (t_ 3)) 17 true,
 g_ 21 (.load false 1 (t_ 20)) 17 true,
 g_ 22 (.call 14 [(t_ 19),(t_ 21)]) 17 true,
 o_ 23 (.pick (t_ 17) (t_ 22) (.const (.bool false))),
 m_ 4 23])
 .ret))
def ir1013:AF:=⟨24,[(.tmp 4)],b1013⟩
theorem c1013:compF tt Tryz.f13=some ir1013:=by kernel_rfl
def b1014:AC:=(.seq (.region 0 [
 o_ 4 (.mov (.const (.bool false)))])
 (.seq (.seq (.region 0 [
 m_ 6 0,
 o_ 7 (.lenL (t_ 6)),
 m_ 8 1,
 o_ 9 (.lenL (t_ 8)),
 o_ 10 (.binI .neq .i64 (t_ 7) (t_ 9))])
 (.cond (t_ 10) (.seq (.region 0 [
 o_ 4 (.mov (.const (.bool false)))])
 .ret) .skip))
 (.seq (.seq (.region 0 [
 o_ 5 (.mov (.const (.int .i64 0)))])
 (.block 0 (.loop (.seq (.seq (.region 0 [
 m_ 11 5,
 m_ 12 0,
 o_ 13 (.lenL (t_ 12)),
 o_ 14 (.binI .lss .i64 (t_ 11) (t_ 13))])
 (.cond (t_ 14) .skip (.exit 0)))
 (.seq (.block 1 (.seq (.dregion 0 [
 m_ 17 0,
 m_ 18 5,
 o_ 19 (.iaddr 2 (t_ 17) (t_ 18)),
 o_ 20 (.load true 2 (t_ 19)),
 m_ 21 1,
 m_ 22 5,
 o_ 23 (.iaddr 2 (t_ 21) (t_ 22)),
 o_ 24 (.load true 2 (t_ 23)),
 o_ 25 (.eqA true [.s,(.i .i64)] (t_ 20) (t_ 24))] [[],[],[0,1],[2],[],[],[4,5],[6],[3,7]])
 (.cond (t_ 25) (.seq (.region 0 [
 o_ 4 (.mov (.const (.bool false)))])
 .ret) .skip)))
 (.region 0 [
 m_ 15 5,
 o_ 16 (.binI .add .i64 (t_ 15) (.const (.int .i64 1))),
 m_ 5 16]))))))
 (.seq (.region 0 [
 o_ 4 (.mov (.const (.bool true)))])
 .ret))))
def ir1014:AF:=⟨26,[(.tmp 4)],b1014⟩
theorem c1014:compF tt Tryz.f14=some ir1014:=by kernel_rfl
def b1015:AC:=(.seq (.region 1 [
 o_ 1 (.box 0 (t_ 0)),
 o_ 2 (.mov (.const (.slice none 0 0)))])
 (.seq (.region 0 [
 o_ 3 (.mov (.const (.slice none 0 0)))])
 (.seq (.seq (.region 0 [
 o_ 6 (.faddr 1 (t_ 1)),
 o_ 7 (.load false 1 (t_ 6)),
 o_ 8 (.lenL (t_ 7)),
 o_ 9 (.mov (.const (.int .i64 0)))])
 (.block 0 (.loop (.seq (.region 0 [
 o_ 10 (.binI .lss .i64 (t_ 9) (t_ 8))])
 (.seq (.cond (t_ 10) .skip (.exit 0))
 (.seq (.block 1 (.seq (.region 1 [
 o_ 11 (.iaddr 18 (t_ 7) (t_ 9)),
 o_ 12 (.load true 18 (t_ 11)),
 o_ 5 (.zero 0 [(.v (.string ⟨#[]⟩)),(.v (.int .i64 0)),(.v (.int .i64 0)),(.v (.int .i64 0)),(.v (.slice none 0 0)),(.v (.int .i64 0)),(.v (.string ⟨#[]⟩)),(.v (.int .i64 0)),(.v (.string ⟨#[]⟩)),(.v (.int .i64 0)),(.v (.bool false)),(.v (.string ⟨#[]⟩)),(.v (.string ⟨#[]⟩)),(.v (.string ⟨#[]⟩)),(.v (.string ⟨#[]⟩)),(.v (.string ⟨#[]⟩)),(.v (.int .i64 0)),(.v (.string ⟨#[]⟩))]),
 s_ (.store 18 (t_ 5) (t_ 12))])
 (.region 0 [
 m_ 13 3,
 o_ 14 (.faddr 4 (t_ 5)),
 o_ 15 (.load false 1 (t_ 14)),
 o_ 16 (.call 44 [(t_ 13),(t_ 15)]),
 m_ 3 16])))
 (.region 0 [
 o_ 17 (.binI .add .i64 (t_ 9) (.const (.int .i64 1))),
 m_ 9 17])))))))
 (.seq (.region 0 [
 m_ 18 3,
 o_ 19 (.call 34 [(t_ 18)]),
 o_ 20 (.mkfn 46 [(t_ 1)]),
 o_ 21 (.call 45 [(t_ 19),(t_ 20)]),
 m_ 2 21])
 .ret))))
def ir1015:AF:=⟨22,[(.tmp 2)],b1015⟩
theorem c1015:compF tt Tryz.f15=some ir1015:=by kernel_rfl
def b1016:AC:=(.seq (.region 1 [
 o_ 1 (.box 0 (t_ 0)),
 o_ 2 (.mov (.const (.slice none 0 0)))])
 (.seq (.region 1 [
 o_ 7 (.bsl 0 2 [(.v (.string ⟨#[]⟩)),(.v (.int .i64 0))] 0 []),
 m_ 3 7])
 (.seq (.seq (.region 0 [
 o_ 8 (.faddr 1 (t_ 1)),
 o_ 9 (.load false 1 (t_ 8)),
 o_ 10 (.lenL (t_ 9)),
 o_ 11 (.mov (.const (.int .i64 0)))])
 (.block 0 (.loop (.seq (.region 0 [
 o_ 12 (.binI .lss .i64 (t_ 11) (t_ 10))])
 (.seq (.cond (t_ 12) .skip (.exit 0))
 (.seq (.block 1 (.seq (.region 0 [
 m_ 13 11,
 m_ 4 13])
 (.region 0 [
 m_ 14 3,
 o_ 15 (.faddr 1 (t_ 1)),
 o_ 16 (.load false 1 (t_ 15)),
 m_ 17 4,
 o_ 18 (.iaddr 18 (t_ 16) (t_ 17)),
 o_ 19 (.faddr 4 (t_ 18)),
 o_ 20 (.load false 1 (t_ 19)),
 o_ 21 (.call 47 [(t_ 14),(t_ 20)]),
 m_ 3 21])))
 (.region 0 [
 o_ 22 (.binI .add .i64 (t_ 11) (.const (.int .i64 1))),
 m_ 11 22])))))))
 (.seq (.region 1 [
 o_ 23 (.bsl 0 2 [(.v (.string ⟨#[]⟩)),(.v (.int .i64 0))] 0 []),
 m_ 5 23])
 (.seq (.seq (.region 0 [
 m_ 24 3,
 o_ 25 (.lenL (t_ 24)),
 o_ 26 (.mov (.const (.int .i64 0)))])
 (.block 2 (.loop (.seq (.region 0 [
 o_ 27 (.binI .lss .i64 (t_ 26) (t_ 25))])
 (.seq (.cond (t_ 27) .skip (.exit 2))
 (.seq (.block 3 (.seq (.region 0 [
 m_ 28 26,
 m_ 6 28])
 (.seq (.dregion 0 [
 o_ 29 (.faddr 2 (t_ 1)),
 o_ 30 (.load false 1 (t_ 29)),
 m_ 31 3,
 m_ 32 6,
 o_ 33 (.iaddr 2 (t_ 31) (t_ 32)),
 o_ 34 (.load true 2 (t_ 33)),
 o_ 35 (.call 26 [(t_ 30),(t_ 34)]),
 o_ 36 (.not (t_ 35))] [[],[0],[],[],[2,3],[4],[1,5],[6]])
 (.cond (t_ 36) (.region 2 [
 m_ 37 5,
 m_ 38 3,
 m_ 39 6,
 o_ 40 (.iaddr 2 (t_ 38) (t_ 39)),
 o_ 41 (.load true 2 (t_ 40)),
 o_ 42 (.bsl 0 2 [(.v (.string ⟨#[]⟩)),(.v (.int .i64 0))] 1 [(0,(t_ 41))]),
 o_ 43 (.app 1 2 24 (t_ 37) (t_ 42)),
 m_ 5 43]) .skip))))
 (.region 0 [
 o_ 44 (.binI .add .i64 (t_ 26) (.const (.int .i64 1))),
 m_ 26 44])))))))
 (.seq (.region 0 [
 m_ 45 5,
 m_ 2 45])
 .ret))))))
def ir1016:AF:=⟨46,[(.tmp 2)],b1016⟩
theorem c1016:compF tt Tryz.f16=some ir1016:=by kernel_rfl
def b1018:AC:=(.seq (.region 1 [
 o_ 2 (.box 0 (t_ 0)),
 o_ 4 (.mov (.const (.bool false)))])
 (.seq (.region 0 [
 m_ 5 1,
 o_ 6 (.mkfn 49 [(t_ 2)]),
 o_ 7 (.call 48 [(t_ 5),(t_ 6)]),
 o_ 8 (.not (t_ 7)),
 m_ 4 8])
 .ret))
def ir1018:AF:=⟨9,[(.tmp 4)],b1018⟩
theorem c1018:compF tt Tryz.f18=some ir1018:=by kernel_rfl
def b517:AC:=(.seq (.region 1 [
 o_ 3 (.box 0 (t_ 1)),
 o_ 4 (.mov (.const (.bool false)))])
 (.seq (.region 0 [
 m_ 8 0,
 o_ 9 (.faddr 0 (t_ 3)),
 o_ 10 (.load false 1 (t_ 9)),
 o_ 11 (.call 50 [(t_ 8),(t_ 10)]),
 m_ 7 11,
 o_ 12 (.ext (t_ 7) 0),
 o_ 13 (.ext (t_ 7) 1),
 m_ 5 12,
 m_ 6 13])
 (.seq (.dregion 0 [
 m_ 14 6,
 m_ 15 14,
 g_ 16 (.faddr 1 (t_ 3)) 15 true,
 g_ 17 (.load false 1 (t_ 16)) 15 true,
 g_ 18 (.binI .geq .i64 (t_ 17) (.const (.int .i64 1))) 15 true,
 o_ 19 (.pick (t_ 15) (t_ 18) (.const (.bool false))),
 m_ 20 19,
 g_ 21 (.mov (t_ 0)) 20 true,
 g_ 22 (.mov (t_ 5)) 20 true,
 g_ 23 (.iaddr 2 (t_ 21) (t_ 22)) 20 true,
 g_ 24 (.faddr 1 (t_ 23)) 20 true,
 g_ 25 (.load false 1 (t_ 24)) 20 true,
 g_ 26 (.faddr 1 (t_ 3)) 20 true,
 g_ 27 (.load false 1 (t_ 26)) 20 true,
 g_ 28 (.binI .geq .i64 (t_ 25) (t_ 27)) 20 true,
 o_ 29 (.pick (t_ 20) (t_ 28) (.const (.bool false))),
 m_ 4 29] [[],[0],[1],[2,1],[3,1],[1,4],[5,1],[6],[6],[7,8,6],[9,6],[10,6],[6],[12,6],[11,13,6],[6,14],[15,6,0,1,2,3,4,5,6,7,8,9,10,11,12,13,14,15]])
 .ret)))
def ir517:AF:=⟨30,[(.tmp 4)],b517⟩
theorem c517:compF tt Tryz.f19=some ir517:=by kernel_rfl
def b555:AC:=(.seq (.region 1 [
 o_ 3 (.box 0 (t_ 1)),
 o_ 4 (.mov (.const (.slice none 0 0)))])
 (.seq (.region 0 [
 m_ 7 0,
 o_ 8 (.call 34 [(t_ 7)]),
 m_ 0 8])
 (.seq (.region 0 [
 m_ 10 0,
 o_ 11 (.faddr 0 (t_ 3)),
 o_ 12 (.load false 1 (t_ 11)),
 o_ 13 (.call 50 [(t_ 10),(t_ 12)]),
 m_ 9 13,
 o_ 14 (.ext (t_ 9) 0),
 o_ 15 (.ext (t_ 9) 1),
 m_ 5 14,
 m_ 6 15])
 (.seq (.seq (.region 0 [
 m_ 16 6,
 o_ 17 (.not (t_ 16))])
 (.cond (t_ 17) (.seq (.region 1 [
 m_ 18 0,
 m_ 19 5,
 o_ 20 (.load true 2 (t_ 3)),
 o_ 21 (.bsl 0 2 [(.v (.string ⟨#[]⟩)),(.v (.int .i64 0))] 1 [(0,(t_ 20))]),
 o_ 22 (.call 51 [(t_ 18),(t_ 19),(t_ 21)]),
 m_ 4 22])
 .ret) .skip))
 (.seq (.dregion 0 [
 m_ 23 0,
 m_ 24 5,
 m_ 25 0,
 m_ 26 5,
 o_ 27 (.iaddr 2 (t_ 25) (t_ 26)),
 o_ 28 (.faddr 1 (t_ 27)),
 o_ 29 (.load false 1 (t_ 28)),
 o_ 30 (.faddr 1 (t_ 3)),
 o_ 31 (.load false 1 (t_ 30)),
 o_ 32 (.maxmin true .i64 (t_ 29) (t_ 31)),
 o_ 33 (.iaddr 2 (t_ 23) (t_ 24)),
 o_ 34 (.faddr 1 (t_ 33)),
 s_ (.store 1 (t_ 34) (t_ 32))] [[],[],[],[],[2,3],[4],[5],[],[7],[6,8],[0,1,0,1,2,3,4,5,6,7,8,9],[10,0,1,2,3,4,5,6,7,8,9],[11,9,0,1,2,3,4,5,6,7,8,9]])
 (.seq (.region 0 [
 m_ 35 0,
 m_ 4 35])
 .ret))))))
def ir555:AF:=⟨36,[(.tmp 4)],b555⟩
theorem c555:compF tt Tryz.f20=some ir555:=by kernel_rfl
def b1022:AC:=(.seq (.region 0 [
 o_ 4 (.mov (.const (.bool false)))])
 (.seq (.seq (.region 0 [
 m_ 6 0,
 o_ 7 (.lenL (t_ 6)),
 m_ 8 1,
 o_ 9 (.lenL (t_ 8)),
 o_ 10 (.binI .neq .i64 (t_ 7) (t_ 9))])
 (.cond (t_ 10) (.seq (.region 0 [
 o_ 4 (.mov (.const (.bool false)))])
 .ret) .skip))
 (.seq (.seq (.region 0 [
 m_ 11 0,
 o_ 12 (.lenL (t_ 11)),
 o_ 13 (.mov (.const (.int .i64 0)))])
 (.block 0 (.loop (.seq (.region 0 [
 o_ 14 (.binI .lss .i64 (t_ 13) (t_ 12))])
 (.seq (.cond (t_ 14) .skip (.exit 0))
 (.seq (.block 1 (.seq (.region 0 [
 m_ 15 13,
 m_ 5 15])
 (.seq (.dregion 0 [
 m_ 16 0,
 m_ 17 5,
 o_ 18 (.iaddr 18 (t_ 16) (t_ 17)),
 o_ 19 (.load true 18 (t_ 18)),
 m_ 20 1,
 m_ 21 5,
 o_ 22 (.iaddr 18 (t_ 20) (t_ 21)),
 o_ 23 (.load true 18 (t_ 22)),
 o_ 24 (.call 23 [(t_ 19),(t_ 23)]),
 o_ 25 (.not (t_ 24))] [[],[],[0,1],[2],[],[],[4,5],[6],[3,7],[8]])
 (.cond (t_ 25) (.seq (.region 0 [
 o_ 4 (.mov (.const (.bool false)))])
 .ret) .skip))))
 (.region 0 [
 o_ 26 (.binI .add .i64 (t_ 13) (.const (.int .i64 1))),
 m_ 13 26])))))))
 (.seq (.region 0 [
 o_ 4 (.mov (.const (.bool true)))])
 .ret))))
def ir1022:AF:=⟨27,[(.tmp 4)],b1022⟩
theorem c1022:compF tt Tryz.f22=some ir1022:=by kernel_rfl
def b62_0:AC:=(.region 2 [
 o_ 2 (.box 0 (t_ 0)),
 o_ 3 (.box 1 (t_ 1)),
 o_ 4 (.mov (.const (.bool false)))])
def b62_1:AC:=(.seq (.region 0 [
 o_ 6 (.faddr 4 (t_ 2)),
 o_ 7 (.load false 1 (t_ 6)),
 o_ 8 (.lenL (t_ 7)),
 o_ 9 (.faddr 4 (t_ 3)),
 o_ 10 (.load false 1 (t_ 9)),
 o_ 11 (.lenL (t_ 10)),
 o_ 12 (.binI .neq .i64 (t_ 8) (t_ 11))])
 (.cond (t_ 12) (.seq (.region 0 [
 o_ 4 (.mov (.const (.bool false)))])
 .ret) .skip))
def b62_2:AC:=(.seq (.region 0 [
 o_ 13 (.faddr 4 (t_ 2)),
 o_ 14 (.load false 1 (t_ 13)),
 o_ 15 (.lenL (t_ 14)),
 o_ 16 (.mov (.const (.int .i64 0)))])
 (.block 0 (.loop (.seq (.region 0 [
 o_ 17 (.binI .lss .i64 (t_ 16) (t_ 15))])
 (.seq (.cond (t_ 17) .skip (.exit 0))
 (.seq (.block 1 (.seq (.region 0 [
 m_ 18 16,
 m_ 5 18])
 (.seq (.dregion 0 [
 o_ 19 (.faddr 4 (t_ 2)),
 o_ 20 (.load false 1 (t_ 19)),
 m_ 21 5,
 o_ 22 (.iaddr 2 (t_ 20) (t_ 21)),
 o_ 23 (.load true 2 (t_ 22)),
 o_ 24 (.faddr 4 (t_ 3)),
 o_ 25 (.load false 1 (t_ 24)),
 m_ 26 5,
 o_ 27 (.iaddr 2 (t_ 25) (t_ 26)),
 o_ 28 (.load true 2 (t_ 27)),
 o_ 29 (.eqA true [.s,(.i .i64)] (t_ 23) (t_ 28))] [[],[0],[],[1,2],[3],[],[5],[],[6,7],[8],[4,9]])
 (.cond (t_ 29) (.seq (.region 0 [
 o_ 4 (.mov (.const (.bool false)))])
 .ret) .skip))))
 (.region 0 [
 o_ 30 (.binI .add .i64 (t_ 16) (.const (.int .i64 1))),
 m_ 16 30])))))))
def b62_3:AC:=(.region 0 [
 o_ 31 (.faddr 0 (t_ 2)),
 o_ 32 (.load true 2 (t_ 31)),
 o_ 33 (.faddr 0 (t_ 3)),
 o_ 34 (.load true 2 (t_ 33)),
 o_ 35 (.eqA false [.s,(.i .i64)] (t_ 32) (t_ 34)),
 m_ 36 35,
 g_ 37 (.faddr 2 (t_ 2)) 36 true,
 g_ 38 (.load false 1 (t_ 37)) 36 true,
 g_ 39 (.faddr 2 (t_ 3)) 36 true,
 g_ 40 (.load false 1 (t_ 39)) 36 true,
 g_ 41 (.binI .eql .i64 (t_ 38) (t_ 40)) 36 true,
 o_ 42 (.pick (t_ 36) (t_ 41) (.const (.bool false))),
 m_ 43 42,
 g_ 44 (.faddr 3 (t_ 2)) 43 true,
 g_ 45 (.load false 1 (t_ 44)) 43 true,
 g_ 46 (.faddr 3 (t_ 3)) 43 true,
 g_ 47 (.load false 1 (t_ 46)) 43 true,
 g_ 48 (.binI .eql .i64 (t_ 45) (t_ 47)) 43 true,
 o_ 49 (.pick (t_ 43) (t_ 48) (.const (.bool false))),
 m_ 50 49,
 g_ 51 (.faddr 5 (t_ 2)) 50 true,
 g_ 52 (.load false 1 (t_ 51)) 50 true,
 g_ 53 (.faddr 5 (t_ 3)) 50 true,
 g_ 54 (.load false 1 (t_ 53)) 50 true,
 g_ 55 (.binI .eql .i64 (t_ 52) (t_ 54)) 50 true,
 o_ 56 (.pick (t_ 50) (t_ 55) (.const (.bool false))),
 m_ 57 56,
 g_ 58 (.faddr 6 (t_ 2)) 57 true,
 g_ 59 (.load true 2 (t_ 58)) 57 true,
 g_ 60 (.faddr 6 (t_ 3)) 57 true,
 g_ 61 (.load true 2 (t_ 60)) 57 true,
 g_ 62 (.eqA false [.s,(.i .i64)] (t_ 59) (t_ 61)) 57 true,
 o_ 63 (.pick (t_ 57) (t_ 62) (.const (.bool false))),
 m_ 64 63,
 g_ 65 (.faddr 8 (t_ 2)) 64 true,
 g_ 66 (.load true 2 (t_ 65)) 64 true,
 g_ 67 (.faddr 8 (t_ 3)) 64 true,
 g_ 68 (.load true 2 (t_ 67)) 64 true,
 g_ 69 (.eqA false [.s,(.i .i64)] (t_ 66) (t_ 68)) 64 true,
 o_ 70 (.pick (t_ 64) (t_ 69) (.const (.bool false))),
 m_ 71 70,
 g_ 72 (.faddr 10 (t_ 2)) 71 true,
 g_ 73 (.load true 3 (t_ 72)) 71 true,
 g_ 74 (.faddr 10 (t_ 3)) 71 true,
 g_ 75 (.load true 3 (t_ 74)) 71 true,
 g_ 76 (.eqA false [.b,.s,.s] (t_ 73) (t_ 75)) 71 true,
 o_ 77 (.pick (t_ 71) (t_ 76) (.const (.bool false))),
 m_ 78 77,
 g_ 79 (.faddr 13 (t_ 2)) 78 true,
 g_ 80 (.load false 1 (t_ 79)) 78 true,
 g_ 81 (.faddr 13 (t_ 3)) 78 true,
 g_ 82 (.load false 1 (t_ 81)) 78 true,
 g_ 83 (.binS .eql (t_ 80) (t_ 82)) 78 true,
 o_ 84 (.pick (t_ 78) (t_ 83) (.const (.bool false))),
 m_ 85 84,
 g_ 86 (.faddr 14 (t_ 2)) 85 true,
 g_ 87 (.load false 1 (t_ 86)) 85 true,
 g_ 88 (.faddr 14 (t_ 3)) 85 true,
 g_ 89 (.load false 1 (t_ 88)) 85 true,
 g_ 90 (.binS .eql (t_ 87) (t_ 89)) 85 true,
 o_ 91 (.pick (t_ 85) (t_ 90) (.const (.bool false))),
 m_ 92 91,
 g_ 93 (.faddr 15 (t_ 2)) 92 true,
 g_ 94 (.load true 2 (t_ 93)) 92 true,
 g_ 95 (.faddr 15 (t_ 3)) 92 true,
 g_ 96 (.load true 2 (t_ 95)) 92 true,
 g_ 97 (.eqA false [.s,(.i .i64)] (t_ 94) (t_ 96)) 92 true,
 o_ 98 (.pick (t_ 92) (t_ 97) (.const (.bool false))),
 m_ 99 98,
 g_ 100 (.faddr 17 (t_ 2)) 99 true,
 g_ 101 (.load false 1 (t_ 100)) 99 true,
 g_ 102 (.faddr 17 (t_ 3)) 99 true,
 g_ 103 (.load false 1 (t_ 102)) 99 true,
 g_ 104 (.binS .eql (t_ 101) (t_ 103)) 99 true,
 o_ 105 (.pick (t_ 99) (t_ 104) (.const (.bool false))),
 m_ 4 105])
def b62_4:AC:=.ret
def b62:AC:=(.seq b62_0 (.seq b62_1 (.seq b62_2 (.seq b62_3 b62_4))))
def ir62:AF:=⟨106,[(.tmp 4)],b62⟩
theorem c62:compF tt Tryz.f23=some ir62:=by kernel_rfl
def b1025_0:AC:=(.region 1 [
 o_ 1 (.box 0 (t_ 0)),
 o_ 2 (.mov (.const (.int .i64 0)))])
def b1025_1:AC:=(.seq (.region 0 [
 o_ 5 (.faddr 0 (t_ 1)),
 o_ 6 (.faddr 0 (t_ 5)),
 o_ 7 (.load false 1 (t_ 6)),
 o_ 8 (.call 52 [(t_ 7)]),
 o_ 9 (.not (t_ 8))])
 (.cond (t_ 9) (.seq (.region 0 [
 o_ 2 (.mov (.const (.int .i64 7)))])
 .ret) .skip))
def b1025_2:AC:=(.seq (.region 0 [
 o_ 10 (.faddr 0 (t_ 1)),
 o_ 11 (.faddr 1 (t_ 10)),
 o_ 12 (.load false 1 (t_ 11)),
 o_ 13 (.binI .lss .i64 (t_ 12) (.const (.int .i64 1))),
 m_ 14 13,
 g_ 15 (.faddr 0 (t_ 1)) 14 false,
 g_ 16 (.faddr 1 (t_ 15)) 14 false,
 g_ 17 (.load false 1 (t_ 16)) 14 false,
 g_ 18 (.binI .gtr .i64 (t_ 17) (.const (.int .i64 1000000000))) 14 false,
 o_ 19 (.pick (t_ 14) (.const (.bool true)) (t_ 18)),
 m_ 20 19,
 g_ 21 (.faddr 2 (t_ 1)) 20 false,
 g_ 22 (.load false 1 (t_ 21)) 20 false,
 g_ 23 (.faddr 0 (t_ 1)) 20 false,
 g_ 24 (.faddr 1 (t_ 23)) 20 false,
 g_ 25 (.load false 1 (t_ 24)) 20 false,
 g_ 26 (.binI .lss .i64 (t_ 22) (t_ 25)) 20 false,
 o_ 27 (.pick (t_ 20) (.const (.bool true)) (t_ 26)),
 m_ 28 27,
 g_ 29 (.faddr 2 (t_ 1)) 28 false,
 g_ 30 (.load false 1 (t_ 29)) 28 false,
 g_ 31 (.binI .gtr .i64 (t_ 30) (.const (.int .i64 1000000000))) 28 false,
 o_ 32 (.pick (t_ 28) (.const (.bool true)) (t_ 31)),
 m_ 33 32,
 g_ 34 (.faddr 3 (t_ 1)) 33 false,
 g_ 35 (.load false 1 (t_ 34)) 33 false,
 g_ 36 (.binI .lss .i64 (t_ 35) (.const (.int .i64 0))) 33 false,
 o_ 37 (.pick (t_ 33) (.const (.bool true)) (t_ 36)),
 m_ 38 37,
 g_ 39 (.faddr 3 (t_ 1)) 38 false,
 g_ 40 (.load false 1 (t_ 39)) 38 false,
 g_ 41 (.faddr 2 (t_ 1)) 38 false,
 g_ 42 (.load false 1 (t_ 41)) 38 false,
 g_ 43 (.binI .geq .i64 (t_ 40) (t_ 42)) 38 false,
 o_ 44 (.pick (t_ 38) (.const (.bool true)) (t_ 43))])
 (.cond (t_ 44) (.seq (.region 0 [
 o_ 2 (.mov (.const (.int .i64 2)))])
 .ret) .skip))
def b1025_3:AC:=(.region 0 [
 o_ 45 (.faddr 4 (t_ 1)),
 o_ 46 (.load false 1 (t_ 45)),
 o_ 47 (.call 27 [(t_ 46)]),
 m_ 3 47])
def b1025_4:AC:=(.seq (.region 0 [
 m_ 48 3,
 o_ 49 (.binI .neq .i64 (t_ 48) (.const (.int .i64 0)))])
 (.cond (t_ 49) (.seq (.region 0 [
 m_ 50 3,
 m_ 2 50])
 .ret) .skip))
def b1025_5:AC:=(.seq (.region 0 [
 o_ 51 (.faddr 4 (t_ 1)),
 o_ 52 (.load false 1 (t_ 51)),
 o_ 53 (.lenL (t_ 52)),
 o_ 54 (.mov (.const (.int .i64 0)))])
 (.block 0 (.loop (.seq (.region 0 [
 o_ 55 (.binI .lss .i64 (t_ 54) (t_ 53))])
 (.seq (.cond (t_ 55) .skip (.exit 0))
 (.seq (.block 1 (.seq (.region 0 [
 m_ 56 54,
 m_ 4 56])
 (.seq (.region 0 [
 o_ 57 (.faddr 4 (t_ 1)),
 o_ 58 (.load false 1 (t_ 57)),
 m_ 59 4,
 o_ 60 (.iaddr 2 (t_ 58) (t_ 59)),
 o_ 61 (.faddr 1 (t_ 60)),
 o_ 62 (.load false 1 (t_ 61)),
 o_ 63 (.binI .gtr .i64 (t_ 62) (.const (.int .i64 1000000000)))])
 (.cond (t_ 63) (.seq (.region 0 [
 o_ 2 (.mov (.const (.int .i64 2)))])
 .ret) .skip))))
 (.region 0 [
 o_ 64 (.binI .add .i64 (t_ 54) (.const (.int .i64 1))),
 m_ 54 64])))))))
def b1025_6:AC:=(.seq (.dregion 0 [
 o_ 65 (.faddr 4 (t_ 1)),
 o_ 66 (.load false 1 (t_ 65)),
 o_ 67 (.faddr 0 (t_ 1)),
 o_ 68 (.faddr 0 (t_ 67)),
 o_ 69 (.load false 1 (t_ 68)),
 o_ 70 (.call 53 [(t_ 66),(t_ 69)]),
 o_ 71 (.faddr 0 (t_ 1)),
 o_ 72 (.faddr 1 (t_ 71)),
 o_ 73 (.load false 1 (t_ 72)),
 o_ 74 (.binI .sub .i64 (t_ 73) (.const (.int .i64 1))),
 o_ 75 (.binI .neq .i64 (t_ 70) (t_ 74))] [[],[0],[],[2],[3],[1,4],[],[6],[7],[8],[5,9]])
 (.cond (t_ 75) (.seq (.region 0 [
 o_ 2 (.mov (.const (.int .i64 1)))])
 .ret) .skip))
def b1025_7:AC:=(.seq (.region 0 [
 o_ 76 (.faddr 5 (t_ 1)),
 o_ 77 (.load false 1 (t_ 76)),
 o_ 78 (.binI .lss .i64 (t_ 77) (.const (.int .i64 1))),
 m_ 79 78,
 g_ 80 (.faddr 5 (t_ 1)) 79 false,
 g_ 81 (.load false 1 (t_ 80)) 79 false,
 g_ 82 (.binI .gtr .i64 (t_ 81) (.const (.int .i64 6))) 79 false,
 o_ 83 (.pick (t_ 79) (.const (.bool true)) (t_ 82))])
 (.cond (t_ 83) (.seq (.region 0 [
 o_ 2 (.mov (.const (.int .i64 11)))])
 .ret) .skip))
def b1025_8:AC:=(.seq (.region 0 [
 o_ 84 (.faddr 5 (t_ 1)),
 o_ 85 (.load false 1 (t_ 84)),
 o_ 86 (.binI .eql .i64 (t_ 85) (.const (.int .i64 3))),
 m_ 87 86,
 g_ 88 (.faddr 14 (t_ 1)) 87 true,
 g_ 89 (.load false 1 (t_ 88)) 87 true,
 g_ 90 (.lenS (t_ 89)) 87 true,
 g_ 91 (.binI .gtr .i64 (t_ 90) (.const (.int .i64 2000))) 87 true,
 o_ 92 (.pick (t_ 87) (t_ 91) (.const (.bool false)))])
 (.cond (t_ 92) (.seq (.region 0 [
 o_ 2 (.mov (.const (.int .i64 6)))])
 .ret) .skip))
def b1025_9:AC:=(.seq (.region 0 [
 o_ 93 (.load true 18 (t_ 1)),
 o_ 94 (.call 54 [(t_ 93)]),
 o_ 95 (.not (t_ 94)),
 m_ 96 95,
 g_ 97 (.load true 18 (t_ 1)) 96 false,
 g_ 98 (.call 55 [(t_ 97)]) 96 false,
 g_ 99 (.not (t_ 98)) 96 false,
 o_ 100 (.pick (t_ 96) (.const (.bool true)) (t_ 99))])
 (.cond (t_ 100) (.seq (.region 0 [
 o_ 2 (.mov (.const (.int .i64 1)))])
 .ret) .skip))
def b1025_10:AC:=(.region 0 [
 o_ 2 (.mov (.const (.int .i64 0)))])
def b1025_11:AC:=.ret
def b1025:AC:=(.seq b1025_0 (.seq b1025_1 (.seq b1025_2 (.seq b1025_3 (.seq b1025_4 (.seq b1025_5 (.seq b1025_6 (.seq b1025_7 (.seq b1025_8 (.seq b1025_9 (.seq b1025_10 b1025_11)))))))))))
def ir1025:AF:=⟨101,[(.tmp 2)],b1025⟩
theorem c1025:compF tt Tryz.f25=some ir1025:=by kernel_rfl
def b622:AC:=(.seq (.region 1 [
 o_ 3 (.box 0 (t_ 1)),
 o_ 4 (.mov (.const (.bool false)))])
 (.seq (.dregion 0 [
 o_ 5 (.faddr 1 (t_ 3)),
 o_ 6 (.load false 1 (t_ 5)),
 o_ 7 (.binI .geq .i64 (t_ 6) (.const (.int .i64 1))),
 m_ 8 7,
 g_ 9 (.mov (t_ 0)) 8 true,
 g_ 10 (.faddr 0 (t_ 3)) 8 true,
 g_ 11 (.load false 1 (t_ 10)) 8 true,
 g_ 12 (.call 56 [(t_ 9),(t_ 11)]) 8 true,
 g_ 13 (.faddr 1 (t_ 3)) 8 true,
 g_ 14 (.load false 1 (t_ 13)) 8 true,
 g_ 15 (.binI .geq .i64 (t_ 12) (t_ 14)) 8 true,
 o_ 16 (.pick (t_ 8) (t_ 15) (.const (.bool false))),
 m_ 4 16] [[],[0],[1],[2],[3],[3],[5,3],[4,6,3,3],[3],[8,3],[7,9,3],[3,10],[11,7,0,1,2,3,4,5,6,7,8,9,10,11]])
 .ret))
def ir622:AF:=⟨17,[(.tmp 4)],b622⟩
theorem c622:compF tt Tryz.f26=some ir622:=by kernel_rfl
def b528_0:AC:=(.region 0 [
 o_ 2 (.mov (.const (.int .i64 0)))])
def b528_1:AC:=(.seq (.region 0 [
 o_ 3 (.mov (.const (.int .i64 0)))])
 (.block 0 (.loop (.seq (.seq (.region 0 [
 m_ 4 3,
 m_ 5 0,
 o_ 6 (.lenL (t_ 5)),
 o_ 7 (.binI .lss .i64 (t_ 4) (t_ 6))])
 (.cond (t_ 7) .skip (.exit 0)))
 (.seq (.block 1 (.seq (.seq (.region 0 [
 m_ 10 0,
 m_ 11 3,
 o_ 12 (.iaddr 2 (t_ 10) (t_ 11)),
 o_ 13 (.faddr 0 (t_ 12)),
 o_ 14 (.load false 1 (t_ 13)),
 o_ 15 (.call 52 [(t_ 14)]),
 o_ 16 (.not (t_ 15))])
 (.cond (t_ 16) (.seq (.region 0 [
 o_ 2 (.mov (.const (.int .i64 7)))])
 .ret) .skip))
 (.seq (.seq (.region 0 [
 m_ 17 0,
 m_ 18 3,
 o_ 19 (.iaddr 2 (t_ 17) (t_ 18)),
 o_ 20 (.faddr 1 (t_ 19)),
 o_ 21 (.load false 1 (t_ 20)),
 o_ 22 (.binI .lss .i64 (t_ 21) (.const (.int .i64 1)))])
 (.cond (t_ 22) (.seq (.region 0 [
 o_ 2 (.mov (.const (.int .i64 2)))])
 .ret) .skip))
 (.seq (.seq (.dregion 0 [
 m_ 23 3,
 o_ 24 (.binI .gtr .i64 (t_ 23) (.const (.int .i64 0))),
 m_ 25 24,
 g_ 26 (.mov (t_ 0)) 25 true,
 g_ 27 (.mov (t_ 3)) 25 true,
 g_ 28 (.iaddr 2 (t_ 26) (t_ 27)) 25 true,
 g_ 29 (.faddr 0 (t_ 28)) 25 true,
 g_ 30 (.load false 1 (t_ 29)) 25 true,
 g_ 31 (.mov (t_ 0)) 25 true,
 g_ 32 (.mov (t_ 3)) 25 true,
 g_ 33 (.binI .sub .i64 (t_ 32) (.const (.int .i64 1))) 25 true,
 g_ 34 (.iaddr 2 (t_ 31) (t_ 33)) 25 true,
 g_ 35 (.faddr 0 (t_ 34)) 25 true,
 g_ 36 (.load false 1 (t_ 35)) 25 true,
 g_ 37 (.binS .eql (t_ 30) (t_ 36)) 25 true,
 o_ 38 (.pick (t_ 25) (t_ 37) (.const (.bool false)))] [[],[0],[1],[2],[2],[3,4,2],[5,2],[6,2],[2],[2],[9,2],[8,10,2],[11,2],[12,2],[7,13,2],[2,14]])
 (.cond (t_ 38) (.seq (.region 0 [
 o_ 2 (.mov (.const (.int .i64 8)))])
 .ret) .skip))
 (.seq (.dregion 0 [
 m_ 39 3,
 o_ 40 (.binI .gtr .i64 (t_ 39) (.const (.int .i64 0))),
 m_ 41 40,
 g_ 42 (.mov (t_ 0)) 41 true,
 g_ 43 (.mov (t_ 3)) 41 true,
 g_ 44 (.iaddr 2 (t_ 42) (t_ 43)) 41 true,
 g_ 45 (.faddr 0 (t_ 44)) 41 true,
 g_ 46 (.load false 1 (t_ 45)) 41 true,
 g_ 47 (.mov (t_ 0)) 41 true,
 g_ 48 (.mov (t_ 3)) 41 true,
 g_ 49 (.binI .sub .i64 (t_ 48) (.const (.int .i64 1))) 41 true,
 g_ 50 (.iaddr 2 (t_ 47) (t_ 49)) 41 true,
 g_ 51 (.faddr 0 (t_ 50)) 41 true,
 g_ 52 (.load false 1 (t_ 51)) 41 true,
 g_ 53 (.binS .lss (t_ 46) (t_ 52)) 41 true,
 o_ 54 (.pick (t_ 41) (t_ 53) (.const (.bool false)))] [[],[0],[1],[2],[2],[3,4,2],[5,2],[6,2],[2],[2],[9,2],[8,10,2],[11,2],[12,2],[7,13,2],[2,14]])
 (.cond (t_ 54) (.seq (.region 0 [
 o_ 2 (.mov (.const (.int .i64 3)))])
 .ret) .skip))))))
 (.region 0 [
 m_ 8 3,
 o_ 9 (.binI .add .i64 (t_ 8) (.const (.int .i64 1))),
 m_ 3 9]))))))
def b528_2:AC:=(.region 0 [
 o_ 2 (.mov (.const (.int .i64 0)))])
def b528_3:AC:=.ret
def b528:AC:=(.seq b528_0 (.seq b528_1 (.seq b528_2 b528_3)))
def ir528:AF:=⟨55,[(.tmp 2)],b528⟩
theorem c528:compF tt Tryz.f27=some ir528:=by kernel_rfl
def b1028_0:AC:=(.region 1 [
 o_ 1 (.box 0 (t_ 0)),
 o_ 2 (.mov (.const (.int .i64 0)))])
def b1028_1:AC:=(.seq (.region 0 [
 o_ 4 (.faddr 4 (t_ 1)),
 o_ 5 (.load false 1 (t_ 4)),
 o_ 6 (.lenL (t_ 5)),
 o_ 7 (.binI .gtr .i64 (t_ 6) (.const (.int .i64 12))),
 m_ 8 7,
 g_ 9 (.faddr 13 (t_ 1)) 8 false,
 g_ 10 (.load false 1 (t_ 9)) 8 false,
 g_ 11 (.lenS (t_ 10)) 8 false,
 g_ 12 (.faddr 17 (t_ 1)) 8 false,
 g_ 13 (.load false 1 (t_ 12)) 8 false,
 g_ 14 (.lenS (t_ 13)) 8 false,
 g_ 15 (.binI .add .i64 (t_ 11) (t_ 14)) 8 false,
 g_ 16 (.faddr 6 (t_ 1)) 8 false,
 g_ 17 (.faddr 0 (t_ 16)) 8 false,
 g_ 18 (.load false 1 (t_ 17)) 8 false,
 g_ 19 (.lenS (t_ 18)) 8 false,
 g_ 20 (.binI .add .i64 (t_ 15) (t_ 19)) 8 false,
 g_ 21 (.faddr 8 (t_ 1)) 8 false,
 g_ 22 (.faddr 0 (t_ 21)) 8 false,
 g_ 23 (.load false 1 (t_ 22)) 8 false,
 g_ 24 (.lenS (t_ 23)) 8 false,
 g_ 25 (.binI .add .i64 (t_ 20) (t_ 24)) 8 false,
 g_ 26 (.faddr 15 (t_ 1)) 8 false,
 g_ 27 (.faddr 0 (t_ 26)) 8 false,
 g_ 28 (.load false 1 (t_ 27)) 8 false,
 g_ 29 (.lenS (t_ 28)) 8 false,
 g_ 30 (.binI .add .i64 (t_ 25) (t_ 29)) 8 false,
 g_ 31 (.faddr 0 (t_ 1)) 8 false,
 g_ 32 (.faddr 0 (t_ 31)) 8 false,
 g_ 33 (.load false 1 (t_ 32)) 8 false,
 g_ 34 (.lenS (t_ 33)) 8 false,
 g_ 35 (.binI .add .i64 (t_ 30) (t_ 34)) 8 false,
 g_ 36 (.binI .gtr .i64 (t_ 35) (.const (.int .i64 300))) 8 false,
 o_ 37 (.pick (t_ 8) (.const (.bool true)) (t_ 36)),
 m_ 38 37,
 g_ 39 (.faddr 14 (t_ 1)) 38 false,
 g_ 40 (.load false 1 (t_ 39)) 38 false,
 g_ 41 (.lenS (t_ 40)) 38 false,
 g_ 42 (.binI .gtr .i64 (t_ 41) (.const (.int .i64 300))) 38 false,
 o_ 43 (.pick (t_ 38) (.const (.bool true)) (t_ 42)),
 m_ 44 43,
 g_ 45 (.faddr 10 (t_ 1)) 44 false,
 g_ 46 (.faddr 1 (t_ 45)) 44 false,
 g_ 47 (.load false 1 (t_ 46)) 44 false,
 g_ 48 (.lenS (t_ 47)) 44 false,
 g_ 49 (.faddr 10 (t_ 1)) 44 false,
 g_ 50 (.faddr 2 (t_ 49)) 44 false,
 g_ 51 (.load false 1 (t_ 50)) 44 false,
 g_ 52 (.lenS (t_ 51)) 44 false,
 g_ 53 (.binI .add .i64 (t_ 48) (t_ 52)) 44 false,
 g_ 54 (.binI .gtr .i64 (t_ 53) (.const (.int .i64 60))) 44 false,
 o_ 55 (.pick (t_ 44) (.const (.bool true)) (t_ 54))])
 (.cond (t_ 55) (.seq (.region 0 [
 o_ 2 (.mov (.const (.int .i64 1)))])
 .ret) .skip))
def b1028_2:AC:=(.seq (.region 0 [
 o_ 56 (.faddr 4 (t_ 1)),
 o_ 57 (.load false 1 (t_ 56)),
 o_ 58 (.lenL (t_ 57)),
 o_ 59 (.mov (.const (.int .i64 0)))])
 (.block 0 (.loop (.seq (.region 0 [
 o_ 60 (.binI .lss .i64 (t_ 59) (t_ 58))])
 (.seq (.cond (t_ 60) .skip (.exit 0))
 (.seq (.block 1 (.seq (.region 0 [
 m_ 61 59,
 m_ 3 61])
 (.seq (.region 0 [
 o_ 62 (.faddr 4 (t_ 1)),
 o_ 63 (.load false 1 (t_ 62)),
 m_ 64 3,
 o_ 65 (.iaddr 2 (t_ 63) (t_ 64)),
 o_ 66 (.faddr 0 (t_ 65)),
 o_ 67 (.load false 1 (t_ 66)),
 o_ 68 (.lenS (t_ 67)),
 o_ 69 (.binI .gtr .i64 (t_ 68) (.const (.int .i64 60)))])
 (.cond (t_ 69) (.seq (.region 0 [
 o_ 2 (.mov (.const (.int .i64 1)))])
 .ret) .skip))))
 (.region 0 [
 o_ 70 (.binI .add .i64 (t_ 59) (.const (.int .i64 1))),
 m_ 59 70])))))))
def b1028_3:AC:=(.region 0 [
 o_ 2 (.mov (.const (.int .i64 0)))])
def b1028_4:AC:=.ret
def b1028:AC:=(.seq b1028_0 (.seq b1028_1 (.seq b1028_2 (.seq b1028_3 b1028_4))))
def ir1028:AF:=⟨71,[(.tmp 2)],b1028⟩
theorem c1028:compF tt Tryz.f28=some ir1028:=by kernel_rfl
def b1029_0:AC:=(.region 1 [
 o_ 1 (.box 0 (t_ 0)),
 o_ 2 (.mov (.const (.int .i64 0)))])
def b1029_1:AC:=(.block 0 (.seq (.region 0 [
 o_ 8 (.faddr 0 (t_ 1)),
 o_ 9 (.faddr 0 (t_ 8)),
 o_ 10 (.load false 1 (t_ 9)),
 o_ 11 (.call 57 [(t_ 10)]),
 o_ 12 (.not (t_ 11)),
 m_ 7 12])
 (.cond (t_ 7) (.seq (.region 0 [
 o_ 2 (.mov (.const (.int .i64 7)))])
 .ret) (.seq (.seq (.region 0 [
 o_ 14 (.faddr 0 (t_ 1)),
 o_ 15 (.load true 2 (t_ 14)),
 o_ 16 (.call 58 [(t_ 15)]),
 o_ 17 (.not (t_ 16)),
 m_ 13 17])
 (.cond (t_ 13) .skip (.seq (.region 0 [
 o_ 18 (.faddr 2 (t_ 1)),
 o_ 19 (.load false 1 (t_ 18)),
 o_ 20 (.faddr 0 (t_ 1)),
 o_ 21 (.faddr 1 (t_ 20)),
 o_ 22 (.load false 1 (t_ 21)),
 o_ 23 (.binI .lss .i64 (t_ 19) (t_ 22)),
 m_ 13 23])
 (.cond (t_ 13) .skip (.seq (.region 0 [
 o_ 24 (.faddr 2 (t_ 1)),
 o_ 25 (.load false 1 (t_ 24)),
 o_ 26 (.binI .gtr .i64 (t_ 25) (.const (.int .i64 1000000000))),
 m_ 13 26])
 (.cond (t_ 13) .skip (.seq (.region 0 [
 o_ 27 (.faddr 3 (t_ 1)),
 o_ 28 (.load false 1 (t_ 27)),
 o_ 29 (.binI .lss .i64 (t_ 28) (.const (.int .i64 0))),
 m_ 13 29])
 (.cond (t_ 13) .skip (.region 0 [
 o_ 30 (.faddr 3 (t_ 1)),
 o_ 31 (.load false 1 (t_ 30)),
 o_ 32 (.faddr 2 (t_ 1)),
 o_ 33 (.load false 1 (t_ 32)),
 o_ 34 (.binI .geq .i64 (t_ 31) (t_ 33)),
 m_ 13 34])))))))))
 (.cond (t_ 13) (.seq (.region 0 [
 o_ 2 (.mov (.const (.int .i64 2)))])
 .ret) .skip)))))
def b1029_2:AC:=(.seq (.region 0 [
 o_ 35 (.faddr 4 (t_ 1)),
 o_ 36 (.load false 1 (t_ 35)),
 o_ 37 (.call 59 [(t_ 36)]),
 m_ 3 37])
 (.seq (.region 0 [
 m_ 38 3,
 o_ 39 (.binI .neq .i64 (t_ 38) (.const (.int .i64 0)))])
 (.cond (t_ 39) (.seq (.region 0 [
 m_ 40 3,
 m_ 2 40])
 .ret) .skip)))
def b1029_3:AC:=(.region 0 [
 o_ 4 (.mov (.const (.int .i64 0)))])
def b1029_4:AC:=(.seq (.region 0 [
 o_ 41 (.faddr 4 (t_ 1)),
 o_ 42 (.load false 1 (t_ 41)),
 o_ 43 (.lenL (t_ 42)),
 o_ 44 (.mov (.const (.int .i64 0)))])
 (.block 1 (.loop (.seq (.region 0 [
 o_ 45 (.binI .lss .i64 (t_ 44) (t_ 43))])
 (.seq (.cond (t_ 45) .skip (.exit 1))
 (.seq (.block 2 (.seq (.region 1 [
 o_ 46 (.iaddr 2 (t_ 42) (t_ 44)),
 o_ 47 (.load true 2 (t_ 46)),
 o_ 6 (.zero 0 [(.v (.string ⟨#[]⟩)),(.v (.int .i64 0))]),
 s_ (.store 2 (t_ 6) (t_ 47))])
 (.seq (.seq (.region 0 [
 o_ 48 (.faddr 1 (t_ 6)),
 o_ 49 (.load false 1 (t_ 48)),
 o_ 50 (.binI .gtr .i64 (t_ 49) (.const (.int .i64 1000000000)))])
 (.cond (t_ 50) (.seq (.region 0 [
 o_ 2 (.mov (.const (.int .i64 2)))])
 .ret) .skip))
 (.seq (.region 0 [
 o_ 51 (.faddr 0 (t_ 6)),
 o_ 52 (.load false 1 (t_ 51)),
 o_ 53 (.faddr 0 (t_ 1)),
 o_ 54 (.faddr 0 (t_ 53)),
 o_ 55 (.load false 1 (t_ 54)),
 o_ 56 (.binS .eql (t_ 52) (t_ 55))])
 (.cond (t_ 56) (.region 0 [
 o_ 57 (.faddr 1 (t_ 6)),
 o_ 58 (.load false 1 (t_ 57)),
 m_ 4 58]) .skip)))))
 (.region 0 [
 o_ 59 (.binI .add .i64 (t_ 44) (.const (.int .i64 1))),
 m_ 44 59])))))))
def b1029_5:AC:=(.block 3 (.seq (.region 0 [
 m_ 61 4,
 o_ 62 (.faddr 0 (t_ 1)),
 o_ 63 (.faddr 1 (t_ 62)),
 o_ 64 (.load false 1 (t_ 63)),
 o_ 65 (.binI .sub .i64 (t_ 64) (.const (.int .i64 1))),
 o_ 66 (.binI .neq .i64 (t_ 61) (t_ 65)),
 m_ 60 66])
 (.cond (t_ 60) (.seq (.region 0 [
 o_ 2 (.mov (.const (.int .i64 1)))])
 .ret) (.seq (.region 0 [
 o_ 68 (.faddr 5 (t_ 1)),
 o_ 69 (.load false 1 (t_ 68)),
 o_ 70 (.binI .lss .i64 (t_ 69) (.const (.int .i64 1))),
 m_ 71 70,
 g_ 72 (.faddr 5 (t_ 1)) 71 false,
 g_ 73 (.load false 1 (t_ 72)) 71 false,
 g_ 74 (.binI .gtr .i64 (t_ 73) (.const (.int .i64 6))) 71 false,
 o_ 75 (.pick (t_ 71) (.const (.bool true)) (t_ 74)),
 m_ 67 75])
 (.cond (t_ 67) (.seq (.region 0 [
 o_ 2 (.mov (.const (.int .i64 11)))])
 .ret) (.seq (.region 0 [
 o_ 77 (.faddr 5 (t_ 1)),
 o_ 78 (.load false 1 (t_ 77)),
 o_ 79 (.binI .eql .i64 (t_ 78) (.const (.int .i64 3))),
 m_ 80 79,
 g_ 81 (.faddr 14 (t_ 1)) 80 true,
 g_ 82 (.load false 1 (t_ 81)) 80 true,
 g_ 83 (.lenS (t_ 82)) 80 true,
 g_ 84 (.binI .gtr .i64 (t_ 83) (.const (.int .i64 2000))) 80 true,
 o_ 85 (.pick (t_ 80) (t_ 84) (.const (.bool false))),
 m_ 76 85])
 (.cond (t_ 76) (.seq (.region 0 [
 o_ 2 (.mov (.const (.int .i64 6)))])
 .ret) (.seq (.region 0 [
 o_ 87 (.load true 18 (t_ 1)),
 o_ 88 (.call 60 [(t_ 87)]),
 o_ 89 (.not (t_ 88)),
 m_ 86 89])
 (.cond (t_ 86) (.seq (.region 0 [
 o_ 2 (.mov (.const (.int .i64 1)))])
 .ret) .skip)))))))))
def b1029_6:AC:=(.region 0 [
 o_ 2 (.mov (.const (.int .i64 0)))])
def b1029_7:AC:=.ret
def b1029:AC:=(.seq b1029_0 (.seq b1029_1 (.seq b1029_2 (.seq b1029_3 (.seq b1029_4 (.seq b1029_5 (.seq b1029_6 b1029_7)))))))
def ir1029:AF:=⟨90,[(.tmp 2)],b1029⟩
theorem c1029:compF tt Tryz.f29=some ir1029:=by kernel_rfl
def b60:AC:=(.seq (.region 0 [
 o_ 4 (.mov (.const (.int .i64 0)))])
 (.seq (.seq (.region 0 [
 m_ 6 0,
 o_ 7 (.lenL (t_ 6)),
 o_ 8 (.mov (.const (.int .i64 0)))])
 (.block 0 (.loop (.seq (.region 0 [
 o_ 9 (.binI .lss .i64 (t_ 8) (t_ 7))])
 (.seq (.cond (t_ 9) .skip (.exit 0))
 (.seq (.block 1 (.seq (.region 0 [
 m_ 10 8,
 m_ 5 10])
 (.seq (.region 0 [
 m_ 11 1,
 m_ 12 0,
 m_ 13 5,
 o_ 14 (.iaddr 18 (t_ 12) (t_ 13)),
 o_ 15 (.load true 18 (t_ 14)),
 o_ 16 (.callv (t_ 11) [(t_ 15)])])
 (.cond (t_ 16) (.seq (.region 0 [
 m_ 17 5,
 m_ 4 17])
 .ret) .skip))))
 (.region 0 [
 o_ 18 (.binI .add .i64 (t_ 8) (.const (.int .i64 1))),
 m_ 8 18])))))))
 (.seq (.region 0 [
 o_ 4 (.mov (.const (.int .i64 (-1))))])
 .ret)))
def ir60:AF:=⟨19,[(.tmp 4)],b60⟩
theorem c60:compF tt Tryz.f30=some ir60:=by kernel_rfl
def b1031:AC:=(.seq (.region 1 [
 o_ 1 (.box 0 (t_ 0)),
 o_ 2 (.mov (.const .nilFunc))])
 (.seq (.region 0 [
 o_ 3 (.mkfn 61 [(t_ 1)]),
 m_ 2 3])
 .ret))
def ir1031:AF:=⟨4,[(.tmp 2)],b1031⟩
theorem c1031:compF tt Tryz.f31=some ir1031:=by kernel_rfl
def b22:AC:=(.seq (.region 2 [
 o_ 2 (.box 0 (t_ 0)),
 o_ 3 (.box 1 (t_ 1)),
 o_ 4 (.mov (.const (.bool false)))])
 (.seq (.dregion 0 [
 o_ 5 (.load true 18 (t_ 2)),
 o_ 6 (.call 62 [(t_ 5)]),
 o_ 7 (.load true 18 (t_ 3)),
 o_ 8 (.call 62 [(t_ 7)]),
 o_ 9 (.eqA false [.s,(.i .i64),.s,(.i .i64),.s,(.i .i64),.s,(.i .i64),(.i .i64),(.i .i64),(.i .i64),.b,.s,.s,.s,.s,.s] (t_ 6) (t_ 8)),
 m_ 10 9,
 g_ 11 (.faddr 4 (t_ 2)) 10 true,
 g_ 12 (.load false 1 (t_ 11)) 10 true,
 g_ 13 (.faddr 4 (t_ 3)) 10 true,
 g_ 14 (.load false 1 (t_ 13)) 10 true,
 g_ 15 (.call 63 [(t_ 12),(t_ 14)]) 10 true,
 o_ 16 (.pick (t_ 10) (t_ 15) (.const (.bool false))),
 m_ 4 16] [[],[0],[],[2,1],[1,3],[4,3],[5],[6,5],[5],[8,5],[7,9,5,5],[5,10],[11,10,0,1,2,3,4,5,6,7,8,9,10,11]])
 .ret))
def ir22:AF:=⟨17,[(.tmp 4)],b22⟩
theorem c22:compF tt Tryz.f32=some ir22:=by kernel_rfl
def b82:AC:=(.seq (.region 0 [
 o_ 4 (.mov (.const (.bool false)))])
 (.seq (.region 0 [
 m_ 5 0,
 m_ 6 1,
 o_ 7 (.call 30 [(t_ 5),(t_ 6)]),
 o_ 8 (.binI .geq .i64 (t_ 7) (.const (.int .i64 0))),
 m_ 4 8])
 .ret))
def ir82:AF:=⟨9,[(.tmp 4)],b82⟩
theorem c82:compF tt Tryz.f33=some ir82:=by kernel_rfl
def b554:AC:=(.seq (.region 0 [
 o_ 2 (.mov (.const (.slice none 0 0)))])
 (.seq (.seq (.region 0 [
 m_ 3 0,
 o_ 4 (.eqN false .sl (t_ 3))])
 (.cond (t_ 4) (.seq (.region 0 [
 o_ 2 (.mov (.const (.slice none 0 0)))])
 .ret) .skip))
 (.seq (.region 2 [
 o_ 5 (.bsl 0 2 [(.v (.string ⟨#[]⟩)),(.v (.int .i64 0))] 0 []),
 m_ 6 0,
 o_ 7 (.app 1 2 24 (t_ 5) (t_ 6)),
 m_ 2 7])
 .ret)))
def ir554:AF:=⟨8,[(.tmp 2)],b554⟩
theorem c554:compF tt Tryz.f34=some ir554:=by kernel_rfl
def b1035:AC:=(.seq (.region 1 [
 o_ 1 (.box 0 (t_ 0)),
 o_ 2 (.mov (.const .nilFunc))])
 (.seq (.region 0 [
 o_ 3 (.mkfn 64 [(t_ 1)]),
 m_ 2 3])
 .ret))
def ir1035:AF:=⟨4,[(.tmp 2)],b1035⟩
theorem c1035:compF tt Tryz.f35=some ir1035:=by kernel_rfl
def b43:AC:=(.seq (.region 0 [
 o_ 2 (.mov (.const (.slice none 0 0)))])
 (.seq (.seq (.region 0 [
 m_ 3 0,
 o_ 4 (.eqN false .sl (t_ 3))])
 (.cond (t_ 4) (.seq (.region 0 [
 o_ 2 (.mov (.const (.slice none 0 0)))])
 .ret) .skip))
 (.seq (.region 2 [
 o_ 5 (.bsl 0 18 [(.v (.string ⟨#[]⟩)),(.v (.int .i64 0)),(.v (.int .i64 0)),(.v (.int .i64 0)),(.v (.slice none 0 0)),(.v (.int .i64 0)),(.v (.string ⟨#[]⟩)),(.v (.int .i64 0)),(.v (.string ⟨#[]⟩)),(.v (.int .i64 0)),(.v (.bool false)),(.v (.string ⟨#[]⟩)),(.v (.string ⟨#[]⟩)),(.v (.string ⟨#[]⟩)),(.v (.string ⟨#[]⟩)),(.v (.string ⟨#[]⟩)),(.v (.int .i64 0)),(.v (.string ⟨#[]⟩))] 0 []),
 m_ 6 0,
 o_ 7 (.app 1 18 232 (t_ 5) (t_ 6)),
 m_ 2 7])
 .ret)))
def ir43:AF:=⟨8,[(.tmp 2)],b43⟩
theorem c43:compF tt Tryz.f36=some ir43:=by kernel_rfl
def b44:AC:=(.region 0 [
 m_ 4 0,
 m_ 5 0,
 o_ 6 (.lenL (t_ 5)),
 m_ 7 1,
 o_ 8 (.call 65 [(t_ 4),(t_ 6),(t_ 7)])])
def ir44:AF:=⟨9,[],b44⟩
theorem c44:compF tt Tryz.f37=some ir44:=by kernel_rfl
def b21:AC:=(.seq (.region 2 [
 o_ 2 (.box 0 (t_ 0)),
 o_ 3 (.box 1 (t_ 1)),
 o_ 4 (.mov (.const (.int .i64 0)))])
 (.seq (.dregion 1 [
 o_ 5 (.faddr 2 (t_ 2)),
 o_ 6 (.load false 1 (t_ 5)),
 o_ 7 (.faddr 2 (t_ 3)),
 o_ 8 (.load false 1 (t_ 7)),
 o_ 9 (.call 67 [(t_ 6),(t_ 8)]),
 o_ 10 (.faddr 0 (t_ 2)),
 o_ 11 (.faddr 0 (t_ 10)),
 o_ 12 (.load false 1 (t_ 11)),
 o_ 13 (.faddr 0 (t_ 3)),
 o_ 14 (.faddr 0 (t_ 13)),
 o_ 15 (.load false 1 (t_ 14)),
 o_ 16 (.call 68 [(t_ 12),(t_ 15)]),
 o_ 17 (.faddr 0 (t_ 2)),
 o_ 18 (.faddr 1 (t_ 17)),
 o_ 19 (.load false 1 (t_ 18)),
 o_ 20 (.faddr 0 (t_ 3)),
 o_ 21 (.faddr 1 (t_ 20)),
 o_ 22 (.load false 1 (t_ 21)),
 o_ 23 (.call 67 [(t_ 19),(t_ 22)]),
 o_ 24 (.bsl 0 1 [(.v (.int .i64 0))] 3 [(0,(t_ 9)),(1,(t_ 16)),(2,(t_ 23))]),
 o_ 25 (.call 66 [(t_ 24)]),
 m_ 4 25] [[],[0],[],[2],[1,3],[],[5],[6],[],[8],[9],[7,10,4],[],[12],[13],[],[15],[16],[14,17,11],[4,11,18],[19,18],[20,20,0,1,2,3,4,5,6,7,8,9,10,11,12,13,14,15,16,17,18,19,20]])
 .ret))
def ir21:AF:=⟨26,[(.tmp 4)],b21⟩
theorem c21:compF tt Tryz.f38=some ir21:=by kernel_rfl
def b1040:AC:=(.seq (.region 1 [
 o_ 3 (.box 0 (t_ 1)),
 o_ 4 (.mov (.const (.int .i64 0)))])
 (.seq (.seq (.region 0 [
 m_ 6 0,
 o_ 7 (.lenL (t_ 6)),
 o_ 8 (.mov (.const (.int .i64 0)))])
 (.block 0 (.loop (.seq (.region 0 [
 o_ 9 (.binI .lss .i64 (t_ 8) (t_ 7))])
 (.seq (.cond (t_ 9) .skip (.exit 0))
 (.seq (.block 1 (.seq (.region 0 [
 m_ 10 8,
 m_ 5 10])
 (.seq (.dregion 0 [
 m_ 11 0,
 m_ 12 5,
 o_ 13 (.iaddr 18 (t_ 11) (t_ 12)),
 o_ 14 (.faddr 0 (t_ 13)),
 o_ 15 (.load true 2 (t_ 14)),
 o_ 16 (.load true 2 (t_ 3)),
 o_ 17 (.eqA false [.s,(.i .i64)] (t_ 15) (t_ 16))] [[],[],[0,1],[2],[3],[],[4,5]])
 (.cond (t_ 17) (.seq (.region 0 [
 m_ 18 5,
 m_ 4 18])
 .ret) .skip))))
 (.region 0 [
 o_ 19 (.binI .add .i64 (t_ 8) (.const (.int .i64 1))),
 m_ 8 19])))))))
 (.seq (.region 0 [
 o_ 4 (.mov (.const (.int .i64 (-1))))])
 .ret)))
def ir1040:AF:=⟨20,[(.tmp 4)],b1040⟩
theorem c1040:compF tt Tryz.f40=some ir1040:=by kernel_rfl
def b1041:AC:=(.seq (.region 0 [
 o_ 4 (.mov (.const (.bool false)))])
 (.seq (.seq (.region 0 [
 o_ 5 (.mov (.const (.int .i64 0)))])
 (.block 0 (.loop (.seq (.seq (.region 0 [
 m_ 6 5,
 m_ 7 1,
 o_ 8 (.lenL (t_ 7)),
 o_ 9 (.binI .lss .i64 (t_ 6) (t_ 8))])
 (.cond (t_ 9) .skip (.exit 0)))
 (.seq (.block 1 (.seq (.region 0 [
 m_ 12 0,
 m_ 13 1,
 m_ 14 5,
 o_ 15 (.iaddr 2 (t_ 13) (t_ 14)),
 o_ 16 (.load true 2 (t_ 15)),
 o_ 17 (.call 26 [(t_ 12),(t_ 16)]),
 o_ 18 (.not (t_ 17))])
 (.cond (t_ 18) (.seq (.region 0 [
 o_ 4 (.mov (.const (.bool false)))])
 .ret) .skip)))
 (.region 0 [
 m_ 10 5,
 o_ 11 (.binI .add .i64 (t_ 10) (.const (.int .i64 1))),
 m_ 5 11]))))))
 (.seq (.region 0 [
 o_ 4 (.mov (.const (.bool true)))])
 .ret)))
def ir1041:AF:=⟨19,[(.tmp 4)],b1041⟩
theorem c1041:compF tt Tryz.f41=some ir1041:=by kernel_rfl
def b76:AC:=(.seq (.region 2 [
 o_ 2 (.box 0 (t_ 0)),
 o_ 3 (.box 1 (t_ 1)),
 o_ 4 (.mov (.const (.int .i64 0)))])
 (.seq (.seq (.region 0 [
 o_ 5 (.faddr 2 (t_ 2)),
 o_ 6 (.load false 1 (t_ 5)),
 o_ 7 (.faddr 2 (t_ 3)),
 o_ 8 (.load false 1 (t_ 7)),
 o_ 9 (.binI .neq .i64 (t_ 6) (t_ 8))])
 (.cond (t_ 9) (.seq (.seq (.region 0 [
 o_ 10 (.faddr 2 (t_ 2)),
 o_ 11 (.load false 1 (t_ 10)),
 o_ 12 (.faddr 2 (t_ 3)),
 o_ 13 (.load false 1 (t_ 12)),
 o_ 14 (.binI .lss .i64 (t_ 11) (t_ 13))])
 (.cond (t_ 14) (.seq (.region 0 [
 o_ 4 (.mov (.const (.int .i64 (-1))))])
 .ret) .skip))
 (.seq (.region 0 [
 o_ 4 (.mov (.const (.int .i64 1)))])
 .ret)) .skip))
 (.seq (.seq (.region 0 [
 o_ 15 (.faddr 0 (t_ 2)),
 o_ 16 (.faddr 0 (t_ 15)),
 o_ 17 (.load false 1 (t_ 16)),
 o_ 18 (.faddr 0 (t_ 3)),
 o_ 19 (.faddr 0 (t_ 18)),
 o_ 20 (.load false 1 (t_ 19)),
 o_ 21 (.binS .neq (t_ 17) (t_ 20))])
 (.cond (t_ 21) (.seq (.seq (.region 0 [
 o_ 22 (.faddr 0 (t_ 2)),
 o_ 23 (.faddr 0 (t_ 22)),
 o_ 24 (.load false 1 (t_ 23)),
 o_ 25 (.faddr 0 (t_ 3)),
 o_ 26 (.faddr 0 (t_ 25)),
 o_ 27 (.load false 1 (t_ 26)),
 o_ 28 (.binS .lss (t_ 24) (t_ 27))])
 (.cond (t_ 28) (.seq (.region 0 [
 o_ 4 (.mov (.const (.int .i64 (-1))))])
 .ret) .skip))
 (.seq (.region 0 [
 o_ 4 (.mov (.const (.int .i64 1)))])
 .ret)) .skip))
 (.seq (.seq (.region 0 [
 o_ 29 (.faddr 0 (t_ 2)),
 o_ 30 (.faddr 1 (t_ 29)),
 o_ 31 (.load false 1 (t_ 30)),
 o_ 32 (.faddr 0 (t_ 3)),
 o_ 33 (.faddr 1 (t_ 32)),
 o_ 34 (.load false 1 (t_ 33)),
 o_ 35 (.binI .lss .i64 (t_ 31) (t_ 34))])
 (.cond (t_ 35) (.seq (.region 0 [
 o_ 4 (.mov (.const (.int .i64 (-1))))])
 .ret) .skip))
 (.seq (.seq (.region 0 [
 o_ 36 (.faddr 0 (t_ 2)),
 o_ 37 (.faddr 1 (t_ 36)),
 o_ 38 (.load false 1 (t_ 37)),
 o_ 39 (.faddr 0 (t_ 3)),
 o_ 40 (.faddr 1 (t_ 39)),
 o_ 41 (.load false 1 (t_ 40)),
 o_ 42 (.binI .gtr .i64 (t_ 38) (t_ 41))])
 (.cond (t_ 42) (.seq (.region 0 [
 o_ 4 (.mov (.const (.int .i64 1)))])
 .ret) .skip))
 (.seq (.region 0 [
 o_ 4 (.mov (.const (.int .i64 0)))])
 .ret))))))
def ir76:AF:=⟨43,[(.tmp 4)],b76⟩
theorem c76:compF tt Tryz.f42=some ir76:=by kernel_rfl
def b1043_0:AC:=(.region 3 [
 o_ 2 (.box 0 (t_ 0)),
 o_ 3 (.box 1 (t_ 1)),
 o_ 4 (.zero 2 [(.v (.slice none 0 0)),(.v (.slice none 0 0)),(.v (.slice none 0 0))])])
def b1043_1:AC:=(.dregion 4 [
 o_ 7 (.bsl 0 18 [(.v (.string ⟨#[]⟩)),(.v (.int .i64 0)),(.v (.int .i64 0)),(.v (.int .i64 0)),(.v (.slice none 0 0)),(.v (.int .i64 0)),(.v (.string ⟨#[]⟩)),(.v (.int .i64 0)),(.v (.string ⟨#[]⟩)),(.v (.int .i64 0)),(.v (.bool false)),(.v (.string ⟨#[]⟩)),(.v (.string ⟨#[]⟩)),(.v (.string ⟨#[]⟩)),(.v (.string ⟨#[]⟩)),(.v (.string ⟨#[]⟩)),(.v (.int .i64 0)),(.v (.string ⟨#[]⟩))] 0 []),
 o_ 8 (.faddr 0 (t_ 2)),
 o_ 9 (.load false 1 (t_ 8)),
 o_ 10 (.app 1 18 232 (t_ 7) (t_ 9)),
 o_ 11 (.load true 18 (t_ 3)),
 o_ 12 (.bsl 2 18 [(.v (.string ⟨#[]⟩)),(.v (.int .i64 0)),(.v (.int .i64 0)),(.v (.int .i64 0)),(.v (.slice none 0 0)),(.v (.int .i64 0)),(.v (.string ⟨#[]⟩)),(.v (.int .i64 0)),(.v (.string ⟨#[]⟩)),(.v (.int .i64 0)),(.v (.bool false)),(.v (.string ⟨#[]⟩)),(.v (.string ⟨#[]⟩)),(.v (.string ⟨#[]⟩)),(.v (.string ⟨#[]⟩)),(.v (.string ⟨#[]⟩)),(.v (.int .i64 0)),(.v (.string ⟨#[]⟩))] 1 [(0,(t_ 11))]),
 o_ 13 (.app 3 18 232 (t_ 10) (t_ 12)),
 o_ 14 (.faddr 0 (t_ 2)),
 s_ (.store 1 (t_ 14) (t_ 13))] [[],[],[1],[0,2],[],[4],[3,5,3],[0,1,2,3,4,5,6],[7,6,6,0,1,2,3,4,5,6]])
def b1043_2:AC:=(.region 0 [
 o_ 15 (.faddr 2 (t_ 2)),
 o_ 16 (.load false 1 (t_ 15)),
 o_ 17 (.faddr 0 (t_ 3)),
 o_ 18 (.load true 2 (t_ 17)),
 o_ 19 (.call 69 [(t_ 16),(t_ 18)]),
 o_ 20 (.faddr 2 (t_ 2)),
 s_ (.store 1 (t_ 20) (t_ 19))])
def b1043_3:AC:=(.seq (.region 0 [
 o_ 21 (.faddr 1 (t_ 2)),
 o_ 22 (.load false 1 (t_ 21)),
 o_ 23 (.lenL (t_ 22)),
 o_ 24 (.mov (.const (.int .i64 0)))])
 (.block 0 (.loop (.seq (.region 0 [
 o_ 25 (.binI .lss .i64 (t_ 24) (t_ 23))])
 (.seq (.cond (t_ 25) .skip (.exit 0))
 (.seq (.block 1 (.seq (.region 0 [
 m_ 26 24,
 m_ 5 26])
 (.seq (.dregion 0 [
 o_ 27 (.faddr 2 (t_ 2)),
 o_ 28 (.load false 1 (t_ 27)),
 o_ 29 (.faddr 1 (t_ 2)),
 o_ 30 (.load false 1 (t_ 29)),
 m_ 31 5,
 o_ 32 (.iaddr 18 (t_ 30) (t_ 31)),
 o_ 33 (.faddr 4 (t_ 32)),
 o_ 34 (.load false 1 (t_ 33)),
 o_ 35 (.call 41 [(t_ 28),(t_ 34)])] [[],[0],[],[2],[],[3,4],[5],[6],[1,7]])
 (.cond (t_ 35) (.seq (.region 1 [
 o_ 36 (.faddr 1 (t_ 2)),
 o_ 37 (.load false 1 (t_ 36)),
 m_ 38 5,
 o_ 39 (.iaddr 18 (t_ 37) (t_ 38)),
 o_ 40 (.load true 18 (t_ 39)),
 o_ 6 (.zero 0 [(.v (.string ⟨#[]⟩)),(.v (.int .i64 0)),(.v (.int .i64 0)),(.v (.int .i64 0)),(.v (.slice none 0 0)),(.v (.int .i64 0)),(.v (.string ⟨#[]⟩)),(.v (.int .i64 0)),(.v (.string ⟨#[]⟩)),(.v (.int .i64 0)),(.v (.bool false)),(.v (.string ⟨#[]⟩)),(.v (.string ⟨#[]⟩)),(.v (.string ⟨#[]⟩)),(.v (.string ⟨#[]⟩)),(.v (.string ⟨#[]⟩)),(.v (.int .i64 0)),(.v (.string ⟨#[]⟩))]),
 s_ (.store 18 (t_ 6) (t_ 40))])
 (.seq (.dregion 3 [
 o_ 41 (.bsl 0 18 [(.v (.string ⟨#[]⟩)),(.v (.int .i64 0)),(.v (.int .i64 0)),(.v (.int .i64 0)),(.v (.slice none 0 0)),(.v (.int .i64 0)),(.v (.string ⟨#[]⟩)),(.v (.int .i64 0)),(.v (.string ⟨#[]⟩)),(.v (.int .i64 0)),(.v (.bool false)),(.v (.string ⟨#[]⟩)),(.v (.string ⟨#[]⟩)),(.v (.string ⟨#[]⟩)),(.v (.string ⟨#[]⟩)),(.v (.string ⟨#[]⟩)),(.v (.int .i64 0)),(.v (.string ⟨#[]⟩))] 0 []),
 o_ 42 (.faddr 1 (t_ 2)),
 o_ 43 (.load false 1 (t_ 42)),
 m_ 44 5,
 o_ 45 (.slice 18 (t_ 43) none (some (t_ 44))),
 o_ 46 (.app 1 18 232 (t_ 41) (t_ 45)),
 o_ 47 (.faddr 1 (t_ 2)),
 o_ 48 (.load false 1 (t_ 47)),
 m_ 49 5,
 o_ 50 (.binI .add .i64 (t_ 49) (.const (.int .i64 1))),
 o_ 51 (.slice 18 (t_ 48) (some (t_ 50)) none),
 o_ 52 (.app 2 18 232 (t_ 46) (t_ 51)),
 o_ 53 (.faddr 1 (t_ 2)),
 s_ (.store 1 (t_ 53) (t_ 52))] [[],[],[1],[],[2,3],[0,4],[],[6],[],[8],[7,9],[5,10,5],[0,1,2,3,4,5,6,7,8,9,10,11],[12,11,11,0,1,2,3,4,5,6,7,8,9,10,11]])
 (.seq (.region 0 [
 o_ 54 (.load true 3 (t_ 2)),
 o_ 55 (.load true 18 (t_ 6)),
 o_ 56 (.call 43 [(t_ 54),(t_ 55)]),
 s_ (.store 3 (t_ 4) (t_ 56))])
 .ret))) .skip))))
 (.region 0 [
 o_ 57 (.binI .add .i64 (t_ 24) (.const (.int .i64 1))),
 m_ 24 57])))))))
def b1043_4:AC:=(.region 0 [
 o_ 58 (.load true 3 (t_ 2)),
 s_ (.store 3 (t_ 4) (t_ 58))])
def b1043_5:AC:=.ret
def b1043:AC:=(.seq b1043_0 (.seq b1043_1 (.seq b1043_2 (.seq b1043_3 (.seq b1043_4 b1043_5)))))
def ir1043:AF:=⟨59,[(.cell 4 true 3)],b1043⟩
theorem c1043:compF tt Tryz.f43=some ir1043:=by kernel_rfl
def b527:AC:=(.seq (.region 0 [
 o_ 4 (.mov (.const (.slice none 0 0)))])
 (.seq (.region 0 [
 m_ 8 0,
 o_ 9 (.call 34 [(t_ 8)]),
 m_ 5 9])
 (.seq (.seq (.region 0 [
 m_ 10 1,
 o_ 11 (.lenL (t_ 10)),
 o_ 12 (.mov (.const (.int .i64 0)))])
 (.block 0 (.loop (.seq (.region 0 [
 o_ 13 (.binI .lss .i64 (t_ 12) (t_ 11))])
 (.seq (.cond (t_ 13) .skip (.exit 0))
 (.seq (.block 1 (.seq (.region 1 [
 o_ 14 (.iaddr 2 (t_ 10) (t_ 12)),
 o_ 15 (.load true 2 (t_ 14)),
 o_ 7 (.zero 0 [(.v (.string ⟨#[]⟩)),(.v (.int .i64 0))]),
 s_ (.store 2 (t_ 7) (t_ 15))])
 (.region 0 [
 m_ 16 5,
 o_ 17 (.load true 2 (t_ 7)),
 o_ 18 (.call 20 [(t_ 16),(t_ 17)]),
 m_ 5 18])))
 (.region 0 [
 o_ 19 (.binI .add .i64 (t_ 12) (.const (.int .i64 1))),
 m_ 12 19])))))))
 (.seq (.region 0 [
 m_ 20 5,
 m_ 4 20])
 .ret))))
def ir527:AF:=⟨21,[(.tmp 4)],b527⟩
theorem c527:compF tt Tryz.f44=some ir527:=by kernel_rfl
def b1045:AC:=(.seq (.region 0 [
 o_ 4 (.mov (.const (.slice none 0 0)))])
 (.seq (.region 0 [
 m_ 8 0,
 m_ 9 1,
 o_ 10 (.call 70 [(t_ 8),(t_ 9)]),
 m_ 5 10])
 (.seq (.seq (.region 0 [
 m_ 11 5,
 o_ 12 (.binI .eql .i64 (t_ 11) (.const (.int .i64 (-1))))])
 (.cond (t_ 12) (.seq (.region 0 [
 m_ 13 0,
 m_ 4 13])
 .ret) .skip))
 (.seq (.seq (.region 0 [
 m_ 14 5,
 o_ 15 (.binI .add .i64 (t_ 14) (.const (.int .i64 1))),
 m_ 6 15])
 (.block 0 (.loop (.seq (.seq (.region 0 [
 m_ 16 6,
 m_ 17 0,
 o_ 18 (.lenL (t_ 17)),
 o_ 19 (.binI .lss .i64 (t_ 16) (t_ 18))])
 (.cond (t_ 19) .skip (.exit 0)))
 (.seq (.block 1 (.seq (.region 1 [
 m_ 22 0,
 m_ 23 6,
 o_ 24 (.iaddr 2 (t_ 22) (t_ 23)),
 o_ 25 (.load true 2 (t_ 24)),
 o_ 7 (.zero 0 [(.v (.string ⟨#[]⟩)),(.v (.int .i64 0))]),
 s_ (.store 2 (t_ 7) (t_ 25))])
 (.seq (.region 0 [
 m_ 26 1,
 o_ 27 (.load true 2 (t_ 7)),
 o_ 28 (.callv (t_ 26) [(t_ 27)]),
 o_ 29 (.not (t_ 28))])
 (.cond (t_ 29) (.seq (.region 0 [
 m_ 30 0,
 m_ 31 5,
 o_ 32 (.load true 2 (t_ 7)),
 o_ 33 (.iaddr 2 (t_ 30) (t_ 31)),
 s_ (.store 2 (t_ 33) (t_ 32))])
 (.region 0 [
 m_ 34 5,
 o_ 35 (.binI .add .i64 (t_ 34) (.const (.int .i64 1))),
 m_ 5 35])) .skip))))
 (.region 0 [
 m_ 20 6,
 o_ 21 (.binI .add .i64 (t_ 20) (.const (.int .i64 1))),
 m_ 6 21]))))))
 (.seq (.region 0 [
 m_ 36 0,
 m_ 37 5,
 o_ 38 (.slice 2 (t_ 36) (some (t_ 37)) none),
 s_ (.clr 2 [(.v (.string ⟨#[]⟩)),(.v (.int .i64 0))] (t_ 38))])
 (.seq (.region 0 [
 m_ 39 0,
 m_ 40 5,
 o_ 41 (.slice 2 (t_ 39) none (some (t_ 40))),
 m_ 4 41])
 .ret))))))
def ir1045:AF:=⟨42,[(.tmp 4)],b1045⟩
theorem c1045:compF tt Tryz.f45=some ir1045:=by kernel_rfl
def b1046:AC:=(.seq (.region 1 [
 o_ 2 (.box 0 (t_ 0)),
 o_ 3 (.mov (.const (.bool false)))])
 (.seq (.region 0 [
 o_ 4 (.faddr 2 (t_ 1)),
 o_ 5 (.load false 1 (t_ 4)),
 o_ 6 (.load true 2 (t_ 2)),
 o_ 7 (.call 19 [(t_ 5),(t_ 6)]),
 m_ 3 7])
 .ret))
def ir1046:AF:=⟨8,[(.tmp 3)],b1046⟩
theorem c1046:compF tt Tryz.f46=some ir1046:=by kernel_rfl
def b1047:AC:=(.seq (.region 0 [
 o_ 4 (.mov (.const (.slice none 0 0)))])
 (.seq (.region 2 [
 o_ 7 (.bsl 0 2 [(.v (.string ⟨#[]⟩)),(.v (.int .i64 0))] 0 []),
 m_ 8 0,
 o_ 9 (.app 1 2 24 (t_ 7) (t_ 8)),
 m_ 5 9])
 (.seq (.seq (.region 0 [
 o_ 6 (.mov (.const (.int .i64 0)))])
 (.block 0 (.loop (.seq (.seq (.region 0 [
 m_ 10 6,
 m_ 11 1,
 o_ 12 (.lenL (t_ 11)),
 o_ 13 (.binI .lss .i64 (t_ 10) (t_ 12))])
 (.cond (t_ 13) .skip (.exit 0)))
 (.seq (.block 1 (.region 0 [
 m_ 16 5,
 m_ 17 1,
 m_ 18 6,
 o_ 19 (.iaddr 2 (t_ 17) (t_ 18)),
 o_ 20 (.load true 2 (t_ 19)),
 o_ 21 (.call 69 [(t_ 16),(t_ 20)]),
 m_ 5 21]))
 (.region 0 [
 m_ 14 6,
 o_ 15 (.binI .add .i64 (t_ 14) (.const (.int .i64 1))),
 m_ 6 15]))))))
 (.seq (.region 0 [
 m_ 22 5,
 m_ 4 22])
 .ret))))
def ir1047:AF:=⟨23,[(.tmp 4)],b1047⟩
theorem c1047:compF tt Tryz.f47=some ir1047:=by kernel_rfl
def b1048:AC:=(.seq (.region 0 [
 o_ 4 (.mov (.const (.bool false)))])
 (.seq (.region 0 [
 m_ 5 0,
 m_ 6 1,
 o_ 7 (.call 70 [(t_ 5),(t_ 6)]),
 o_ 8 (.binI .geq .i64 (t_ 7) (.const (.int .i64 0))),
 m_ 4 8])
 .ret))
def ir1048:AF:=⟨9,[(.tmp 4)],b1048⟩
theorem c1048:compF tt Tryz.f48=some ir1048:=by kernel_rfl
def b1049:AC:=(.seq (.region 1 [
 o_ 2 (.box 0 (t_ 0)),
 o_ 3 (.mov (.const (.bool false)))])
 (.seq (.region 0 [
 o_ 4 (.load false 1 (t_ 1)),
 o_ 5 (.load true 2 (t_ 2)),
 o_ 6 (.call 19 [(t_ 4),(t_ 5)]),
 o_ 7 (.not (t_ 6)),
 m_ 3 7])
 .ret))
def ir1049:AF:=⟨8,[(.tmp 3)],b1049⟩
theorem c1049:compF tt Tryz.f49=some ir1049:=by kernel_rfl
def b547:AC:=(.seq (.region 0 [
 o_ 4 (.mov (.const (.int .i64 0))),
 o_ 5 (.mov (.const (.bool false)))])
 (.seq (.region 0 [
 m_ 6 0,
 m_ 7 1,
 o_ 8 (.call 71 [(t_ 6),(t_ 7),(.func 72)]),
 o_ 9 (.ext (t_ 8) 0),
 o_ 10 (.ext (t_ 8) 1),
 m_ 4 9,
 m_ 5 10])
 .ret))
def ir547:AF:=⟨11,[(.tmp 4),(.tmp 5)],b547⟩
theorem c547:compF tt Tryz.f50=some ir547:=by kernel_rfl
def b526:AC:=(.seq (.region 0 [
 o_ 2 (.mov (.const (.bool false)))])
 (.seq (.seq (.region 0 [
 o_ 3 (.mov (.const (.int .i64 0)))])
 (.block 0 (.loop (.seq (.seq (.region 0 [
 m_ 5 3,
 m_ 6 0,
 o_ 7 (.lenS (t_ 6)),
 o_ 8 (.binI .lss .i64 (t_ 5) (t_ 7))])
 (.cond (t_ 8) .skip (.exit 0)))
 (.seq (.block 1 (.seq (.region 0 [
 m_ 11 0,
 m_ 12 3,
 o_ 13 (.index (t_ 11) (t_ 12)),
 o_ 14 (.binI .geq .u8 (t_ 13) (.const (.int .u8 97))),
 m_ 15 14,
 g_ 16 (.mov (t_ 0)) 15 true,
 g_ 17 (.mov (t_ 3)) 15 true,
 g_ 18 (.index (t_ 16) (t_ 17)) 15 true,
 g_ 19 (.binI .leq .u8 (t_ 18) (.const (.int .u8 122))) 15 true,
 o_ 20 (.pick (t_ 15) (t_ 19) (.const (.bool false))),
 m_ 4 20])
 (.seq (.region 0 [
 m_ 21 4,
 o_ 22 (.not (t_ 21)),
 m_ 23 22,
 g_ 24 (.mov (t_ 3)) 23 true,
 g_ 25 (.binI .eql .i64 (t_ 24) (.const (.int .i64 0))) 23 true,
 g_ 26 (.mov (t_ 25)) 23 true,
 g_ 27 (.mov (t_ 0)) 26 false,
 g_ 28 (.mov (t_ 3)) 26 false,
 g_ 29 (.index (t_ 27) (t_ 28)) 26 false,
 g_ 30 (.binI .lss .u8 (t_ 29) (.const (.int .u8 48))) 26 false,
 g_ 31 (.pick (t_ 26) (.const (.bool true)) (t_ 30)) 23 true,
 g_ 32 (.mov (t_ 31)) 23 true,
 g_ 33 (.mov (t_ 0)) 32 false,
 g_ 34 (.mov (t_ 3)) 32 false,
 g_ 35 (.index (t_ 33) (t_ 34)) 32 false,
 g_ 36 (.binI .gtr .u8 (t_ 35) (.const (.int .u8 57))) 32 false,
 g_ 37 (.pick (t_ 32) (.const (.bool true)) (t_ 36)) 23 true,
 o_ 38 (.pick (t_ 23) (t_ 37) (.const (.bool false)))])
 (.cond (t_ 38) (.seq (.region 0 [
 o_ 2 (.mov (.const (.bool false)))])
 .ret) .skip))))
 (.region 0 [
 m_ 9 3,
 o_ 10 (.binI .add .i64 (t_ 9) (.const (.int .i64 1))),
 m_ 3 10]))))))
 (.seq (.region 0 [
 m_ 39 0,
 o_ 40 (.lenS (t_ 39)),
 o_ 41 (.binI .gtr .i64 (t_ 40) (.const (.int .i64 0))),
 m_ 42 41,
 g_ 43 (.mov (t_ 0)) 42 true,
 g_ 44 (.lenS (t_ 43)) 42 true,
 g_ 45 (.binI .leq .i64 (t_ 44) (.const (.int .i64 24))) 42 true,
 o_ 46 (.pick (t_ 42) (t_ 45) (.const (.bool false))),
 m_ 2 46])
 .ret)))
def ir526:AF:=⟨47,[(.tmp 2)],b526⟩
theorem c526:compF tt Tryz.f52=some ir526:=by kernel_rfl
def b1053:AC:=(.seq (.region 0 [
 o_ 4 (.mov (.const (.int .i64 0)))])
 (.seq (.seq (.region 0 [
 m_ 6 0,
 o_ 7 (.lenL (t_ 6)),
 o_ 8 (.mov (.const (.int .i64 0)))])
 (.block 0 (.loop (.seq (.region 0 [
 o_ 9 (.binI .lss .i64 (t_ 8) (t_ 7))])
 (.seq (.cond (t_ 9) .skip (.exit 0))
 (.seq (.block 1 (.seq (.region 0 [
 m_ 10 8,
 m_ 5 10])
 (.seq (.region 0 [
 m_ 11 0,
 m_ 12 5,
 o_ 13 (.iaddr 2 (t_ 11) (t_ 12)),
 o_ 14 (.faddr 0 (t_ 13)),
 o_ 15 (.load false 1 (t_ 14)),
 m_ 16 1,
 o_ 17 (.binS .eql (t_ 15) (t_ 16))])
 (.cond (t_ 17) (.seq (.region 0 [
 m_ 18 0,
 m_ 19 5,
 o_ 20 (.iaddr 2 (t_ 18) (t_ 19)),
 o_ 21 (.faddr 1 (t_ 20)),
 o_ 22 (.load false 1 (t_ 21)),
 m_ 4 22])
 .ret) .skip))))
 (.region 0 [
 o_ 23 (.binI .add .i64 (t_ 8) (.const (.int .i64 1))),
 m_ 8 23])))))))
 (.seq (.region 0 [
 o_ 4 (.mov (.const (.int .i64 0)))])
 .ret)))
def ir1053:AF:=⟨24,[(.tmp 4)],b1053⟩
theorem c1053:compF tt Tryz.f53=some ir1053:=by kernel_rfl
def b1054_0:AC:=(.region 1 [
 o_ 1 (.box 0 (t_ 0)),
 o_ 2 (.mov (.const (.bool false)))])
def b1054_1:AC:=(.region 1 [
 o_ 11 (.build [(.v (.string ⟨#[]⟩)),(.v (.int .i64 0))] []),
 o_ 3 (.zero 0 [(.v (.string ⟨#[]⟩)),(.v (.int .i64 0))]),
 s_ (.store 2 (t_ 3) (t_ 11))])
def b1054_2:AC:=(.dregion 0 [
 o_ 12 (.faddr 6 (t_ 1)),
 o_ 13 (.load true 2 (t_ 12)),
 o_ 14 (.load true 2 (t_ 3)),
 o_ 15 (.eqA false [.s,(.i .i64)] (t_ 13) (t_ 14)),
 o_ 16 (.faddr 8 (t_ 1)),
 o_ 17 (.load true 2 (t_ 16)),
 o_ 18 (.load true 2 (t_ 3)),
 o_ 19 (.eqA false [.s,(.i .i64)] (t_ 17) (t_ 18)),
 o_ 20 (.faddr 10 (t_ 1)),
 o_ 21 (.load true 3 (t_ 20)),
 o_ 22 (.build [(.v (.bool false)),(.v (.string ⟨#[]⟩)),(.v (.string ⟨#[]⟩))] []),
 o_ 23 (.eqA false [.b,.s,.s] (t_ 21) (t_ 22)),
 m_ 4 15,
 m_ 5 19,
 m_ 6 23] [[],[0],[],[1,2],[],[4],[],[5,6],[],[8],[],[9,10],[3,0,1,2,3],[7,12,0,1,2,3,4,5,6,7,12],[11,13,0,1,2,3,4,5,6,7,8,9,10,11,12,13]])
def b1054_3:AC:=(.dregion 0 [
 o_ 24 (.faddr 13 (t_ 1)),
 o_ 25 (.load false 1 (t_ 24)),
 o_ 26 (.binS .eql (t_ 25) (.const (.string ⟨#[]⟩))),
 o_ 27 (.faddr 14 (t_ 1)),
 o_ 28 (.load false 1 (t_ 27)),
 o_ 29 (.binS .eql (t_ 28) (.const (.string ⟨#[]⟩))),
 o_ 30 (.faddr 15 (t_ 1)),
 o_ 31 (.load true 2 (t_ 30)),
 o_ 32 (.load true 2 (t_ 3)),
 o_ 33 (.eqA false [.s,(.i .i64)] (t_ 31) (t_ 32)),
 o_ 34 (.faddr 17 (t_ 1)),
 o_ 35 (.load false 1 (t_ 34)),
 o_ 36 (.binS .eql (t_ 35) (.const (.string ⟨#[]⟩))),
 m_ 7 26,
 m_ 8 29,
 m_ 9 33,
 m_ 10 36] [[],[0],[1],[],[3],[4],[],[6],[],[7,8],[],[10],[11],[2,0,1,2],[5,13,0,1,2,3,4,5,13],[9,14,0,1,2,3,4,5,6,7,8,9,13,14],[12,15,0,1,2,3,4,5,6,7,8,9,10,11,12,13,14,15]])
def b1054_4:AC:=(.seq (.region 0 [
 o_ 37 (.faddr 5 (t_ 1)),
 o_ 38 (.load false 1 (t_ 37))])
 (.block 0 (.seq (.region 0 [
 o_ 40 (.binI .eql .i64 (t_ 38) (.const (.int .i64 1))),
 m_ 39 40])
 (.cond (t_ 39) (.seq (.region 0 [
 m_ 41 4,
 m_ 42 41,
 g_ 43 (.mov (t_ 7)) 42 true,
 o_ 44 (.pick (t_ 42) (t_ 43) (.const (.bool false))),
 m_ 45 44,
 g_ 46 (.mov (t_ 9)) 45 true,
 o_ 47 (.pick (t_ 45) (t_ 46) (.const (.bool false))),
 m_ 48 47,
 g_ 49 (.mov (t_ 10)) 48 true,
 o_ 50 (.pick (t_ 48) (t_ 49) (.const (.bool false))),
 m_ 2 50])
 .ret) (.seq (.region 0 [
 o_ 52 (.binI .eql .i64 (t_ 38) (.const (.int .i64 2))),
 m_ 51 52])
 (.cond (t_ 51) (.seq (.region 0 [
 m_ 53 7,
 m_ 54 53,
 g_ 55 (.mov (t_ 8)) 54 true,
 o_ 56 (.pick (t_ 54) (t_ 55) (.const (.bool false))),
 m_ 57 56,
 g_ 58 (.mov (t_ 9)) 57 true,
 o_ 59 (.pick (t_ 57) (t_ 58) (.const (.bool false))),
 m_ 60 59,
 g_ 61 (.mov (t_ 10)) 60 true,
 o_ 62 (.pick (t_ 60) (t_ 61) (.const (.bool false))),
 m_ 2 62])
 .ret) (.seq (.region 0 [
 o_ 64 (.binI .eql .i64 (t_ 38) (.const (.int .i64 3))),
 m_ 63 64])
 (.cond (t_ 63) (.seq (.region 0 [
 m_ 65 5,
 m_ 66 65,
 g_ 67 (.mov (t_ 6)) 66 true,
 o_ 68 (.pick (t_ 66) (t_ 67) (.const (.bool false))),
 m_ 69 68,
 g_ 70 (.mov (t_ 9)) 69 true,
 o_ 71 (.pick (t_ 69) (t_ 70) (.const (.bool false))),
 m_ 72 71,
 g_ 73 (.mov (t_ 10)) 72 true,
 o_ 74 (.pick (t_ 72) (t_ 73) (.const (.bool false))),
 m_ 2 74])
 .ret) (.seq (.region 0 [
 o_ 76 (.binI .eql .i64 (t_ 38) (.const (.int .i64 4))),
 m_ 75 76])
 (.cond (t_ 75) (.seq (.region 0 [
 m_ 77 4,
 m_ 78 77,
 g_ 79 (.mov (t_ 5)) 78 true,
 o_ 80 (.pick (t_ 78) (t_ 79) (.const (.bool false))),
 m_ 81 80,
 g_ 82 (.mov (t_ 6)) 81 true,
 o_ 83 (.pick (t_ 81) (t_ 82) (.const (.bool false))),
 m_ 84 83,
 g_ 85 (.mov (t_ 7)) 84 true,
 o_ 86 (.pick (t_ 84) (t_ 85) (.const (.bool false))),
 m_ 87 86,
 g_ 88 (.mov (t_ 8)) 87 true,
 o_ 89 (.pick (t_ 87) (t_ 88) (.const (.bool false))),
 m_ 90 89,
 g_ 91 (.mov (t_ 10)) 90 true,
 o_ 92 (.pick (t_ 90) (t_ 91) (.const (.bool false))),
 m_ 2 92])
 .ret) (.seq (.region 0 [
 o_ 94 (.binI .eql .i64 (t_ 38) (.const (.int .i64 5))),
 m_ 93 94])
 (.cond (t_ 93) (.seq (.region 0 [
 m_ 95 4,
 m_ 96 95,
 g_ 97 (.mov (t_ 5)) 96 true,
 o_ 98 (.pick (t_ 96) (t_ 97) (.const (.bool false))),
 m_ 99 98,
 g_ 100 (.mov (t_ 6)) 99 true,
 o_ 101 (.pick (t_ 99) (t_ 100) (.const (.bool false))),
 m_ 102 101,
 g_ 103 (.mov (t_ 7)) 102 true,
 o_ 104 (.pick (t_ 102) (t_ 103) (.const (.bool false))),
 m_ 105 104,
 g_ 106 (.mov (t_ 8)) 105 true,
 o_ 107 (.pick (t_ 105) (t_ 106) (.const (.bool false))),
 m_ 108 107,
 g_ 109 (.mov (t_ 9)) 108 true,
 o_ 110 (.pick (t_ 108) (t_ 109) (.const (.bool false))),
 m_ 2 110])
 .ret) .skip))))))))))))
def b1054_5:AC:=(.region 0 [
 m_ 111 4,
 m_ 112 111,
 g_ 113 (.mov (t_ 5)) 112 true,
 o_ 114 (.pick (t_ 112) (t_ 113) (.const (.bool false))),
 m_ 115 114,
 g_ 116 (.mov (t_ 6)) 115 true,
 o_ 117 (.pick (t_ 115) (t_ 116) (.const (.bool false))),
 m_ 118 117,
 g_ 119 (.mov (t_ 7)) 118 true,
 o_ 120 (.pick (t_ 118) (t_ 119) (.const (.bool false))),
 m_ 121 120,
 g_ 122 (.mov (t_ 8)) 121 true,
 o_ 123 (.pick (t_ 121) (t_ 122) (.const (.bool false))),
 m_ 124 123,
 g_ 125 (.mov (t_ 9)) 124 true,
 o_ 126 (.pick (t_ 124) (t_ 125) (.const (.bool false))),
 m_ 127 126,
 g_ 128 (.mov (t_ 10)) 127 true,
 o_ 129 (.pick (t_ 127) (t_ 128) (.const (.bool false))),
 m_ 2 129])
def b1054_6:AC:=.ret
def b1054:AC:=(.seq b1054_0 (.seq b1054_1 (.seq b1054_2 (.seq b1054_3 (.seq b1054_4 (.seq b1054_5 b1054_6))))))
def ir1054:AF:=⟨130,[(.tmp 2)],b1054⟩
theorem c1054:compF tt Tryz.f54=some ir1054:=by kernel_rfl
def b1055_0:AC:=(.region 1 [
 o_ 1 (.box 0 (t_ 0)),
 o_ 2 (.mov (.const (.bool false)))])
def b1055_1:AC:=(.region 1 [
 o_ 4 (.build [(.v (.string ⟨#[]⟩)),(.v (.int .i64 0))] []),
 o_ 3 (.zero 0 [(.v (.string ⟨#[]⟩)),(.v (.int .i64 0))]),
 s_ (.store 2 (t_ 3) (t_ 4))])
def b1055_2:AC:=(.seq (.region 0 [
 o_ 5 (.faddr 5 (t_ 1)),
 o_ 6 (.load false 1 (t_ 5))])
 (.block 0 (.seq (.region 0 [
 o_ 8 (.binI .eql .i64 (t_ 6) (.const (.int .i64 1))),
 m_ 7 8])
 (.cond (t_ 7) (.seq (.region 0 [
 o_ 9 (.faddr 8 (t_ 1)),
 o_ 10 (.load true 2 (t_ 9)),
 o_ 11 (.load true 2 (t_ 3)),
 o_ 12 (.eqA false [.s,(.i .i64)] (t_ 10) (t_ 11)),
 m_ 13 12,
 g_ 14 (.faddr 8 (t_ 1)) 13 false,
 g_ 15 (.load true 2 (t_ 14)) 13 false,
 g_ 16 (.call 75 [(t_ 15)]) 13 false,
 o_ 17 (.pick (t_ 13) (.const (.bool true)) (t_ 16)),
 m_ 18 17,
 g_ 19 (.faddr 10 (t_ 1)) 18 true,
 g_ 20 (.load true 3 (t_ 19)) 18 true,
 g_ 21 (.call 76 [(t_ 20)]) 18 true,
 o_ 22 (.pick (t_ 18) (t_ 21) (.const (.bool false))),
 m_ 23 22,
 g_ 24 (.faddr 14 (t_ 1)) 23 true,
 g_ 25 (.load false 1 (t_ 24)) 23 true,
 g_ 26 (.call 77 [(t_ 25)]) 23 true,
 o_ 27 (.pick (t_ 23) (t_ 26) (.const (.bool false))),
 m_ 2 27])
 .ret) (.seq (.region 0 [
 o_ 29 (.binI .eql .i64 (t_ 6) (.const (.int .i64 2))),
 m_ 28 29])
 (.cond (t_ 28) (.seq (.dregion 0 [
 o_ 30 (.faddr 6 (t_ 1)),
 o_ 31 (.load true 2 (t_ 30)),
 o_ 32 (.call 75 [(t_ 31)]),
 m_ 33 32,
 g_ 34 (.faddr 8 (t_ 1)) 33 true,
 g_ 35 (.load true 2 (t_ 34)) 33 true,
 g_ 36 (.load true 2 (t_ 3)) 33 true,
 g_ 37 (.eqA false [.s,(.i .i64)] (t_ 35) (t_ 36)) 33 true,
 g_ 38 (.mov (t_ 37)) 33 true,
 g_ 39 (.faddr 8 (t_ 1)) 38 false,
 g_ 40 (.load true 2 (t_ 39)) 38 false,
 g_ 41 (.call 78 []) 38 false,
 g_ 42 (.eqA false [.s,(.i .i64)] (t_ 40) (t_ 41)) 38 false,
 g_ 43 (.pick (t_ 38) (.const (.bool true)) (t_ 42)) 33 true,
 g_ 44 (.mov (t_ 43)) 33 true,
 g_ 45 (.faddr 8 (t_ 1)) 44 false,
 g_ 46 (.load true 2 (t_ 45)) 44 false,
 g_ 47 (.call 75 [(t_ 46)]) 44 false,
 g_ 48 (.pick (t_ 44) (.const (.bool true)) (t_ 47)) 33 true,
 o_ 49 (.pick (t_ 33) (t_ 48) (.const (.bool false))),
 m_ 50 49,
 g_ 51 (.faddr 10 (t_ 1)) 50 true,
 g_ 52 (.load true 3 (t_ 51)) 50 true,
 g_ 53 (.call 76 [(t_ 52)]) 50 true,
 o_ 54 (.pick (t_ 50) (t_ 53) (.const (.bool false))),
 m_ 2 54] [[],[0],[1],[2,2],[3],[4,3],[3],[5,6,3],[7,3,3],[8],[9,8],[8,8],[10,11,8],[8,12,3],[13,11,3],[14],[15,14],[16,14,14],[14,17,3],[3,18],[19,17],[20],[21,20],[22,20,20],[20,23],[24,23,0,1,2,3,4,5,6,7,8,9,10,11,12,13,14,15,16,17,18,19,20,21,22,23,24]])
 .ret) (.seq (.region 0 [
 o_ 56 (.binI .eql .i64 (t_ 6) (.const (.int .i64 3))),
 m_ 55 56])
 (.cond (t_ 55) (.seq (.region 0 [
 o_ 57 (.faddr 6 (t_ 1)),
 o_ 58 (.load true 2 (t_ 57)),
 o_ 59 (.call 75 [(t_ 58)]),
 m_ 60 59,
 g_ 61 (.faddr 13 (t_ 1)) 60 true,
 g_ 62 (.load false 1 (t_ 61)) 60 true,
 g_ 63 (.call 77 [(t_ 62)]) 60 true,
 o_ 64 (.pick (t_ 60) (t_ 63) (.const (.bool false))),
 m_ 2 64])
 .ret) (.seq (.region 0 [
 o_ 66 (.binI .eql .i64 (t_ 6) (.const (.int .i64 4))),
 m_ 65 66])
 (.cond (t_ 65) (.seq (.region 0 [
 o_ 67 (.faddr 15 (t_ 1)),
 o_ 68 (.load true 2 (t_ 67)),
 o_ 69 (.call 75 [(t_ 68)]),
 m_ 70 69,
 g_ 71 (.faddr 15 (t_ 1)) 70 true,
 g_ 72 (.faddr 0 (t_ 71)) 70 true,
 g_ 73 (.load false 1 (t_ 72)) 70 true,
 g_ 74 (.faddr 0 (t_ 1)) 70 true,
 g_ 75 (.faddr 0 (t_ 74)) 70 true,
 g_ 76 (.load false 1 (t_ 75)) 70 true,
 g_ 77 (.binS .eql (t_ 73) (t_ 76)) 70 true,
 o_ 78 (.pick (t_ 70) (t_ 77) (.const (.bool false))),
 m_ 79 78,
 g_ 80 (.faddr 15 (t_ 1)) 79 true,
 g_ 81 (.faddr 1 (t_ 80)) 79 true,
 g_ 82 (.load false 1 (t_ 81)) 79 true,
 g_ 83 (.faddr 0 (t_ 1)) 79 true,
 g_ 84 (.faddr 1 (t_ 83)) 79 true,
 g_ 85 (.load false 1 (t_ 84)) 79 true,
 g_ 86 (.binI .lss .i64 (t_ 82) (t_ 85)) 79 true,
 o_ 87 (.pick (t_ 79) (t_ 86) (.const (.bool false))),
 m_ 2 87])
 .ret) (.seq (.region 0 [
 o_ 89 (.binI .eql .i64 (t_ 6) (.const (.int .i64 5))),
 m_ 88 89])
 (.cond (t_ 88) (.seq (.region 0 [
 o_ 90 (.faddr 0 (t_ 1)),
 o_ 91 (.faddr 0 (t_ 90)),
 o_ 92 (.load false 1 (t_ 91)),
 o_ 93 (.faddr 17 (t_ 1)),
 o_ 94 (.load false 1 (t_ 93)),
 o_ 95 (.call 79 [(t_ 92),(t_ 94)]),
 m_ 2 95])
 .ret) .skip))))))))))))
def b1055_3:AC:=(.region 0 [
 o_ 2 (.mov (.const (.bool true)))])
def b1055_4:AC:=.ret
def b1055:AC:=(.seq b1055_0 (.seq b1055_1 (.seq b1055_2 (.seq b1055_3 b1055_4))))
def ir1055:AF:=⟨96,[(.tmp 2)],b1055⟩
theorem c1055:compF tt Tryz.f55=some ir1055:=by kernel_rfl
def b647:AC:=(.seq (.region 0 [
 o_ 4 (.mov (.const (.int .i64 0)))])
 (.seq (.seq (.region 0 [
 o_ 5 (.mov (.const (.int .i64 0)))])
 (.block 0 (.loop (.seq (.seq (.region 0 [
 m_ 6 5,
 m_ 7 0,
 o_ 8 (.lenL (t_ 7)),
 o_ 9 (.binI .lss .i64 (t_ 6) (t_ 8))])
 (.cond (t_ 9) .skip (.exit 0)))
 (.seq (.block 1 (.seq (.region 0 [
 m_ 12 0,
 m_ 13 5,
 o_ 14 (.iaddr 2 (t_ 12) (t_ 13)),
 o_ 15 (.faddr 0 (t_ 14)),
 o_ 16 (.load false 1 (t_ 15)),
 m_ 17 1,
 o_ 18 (.binS .eql (t_ 16) (t_ 17))])
 (.cond (t_ 18) (.seq (.region 0 [
 m_ 19 0,
 m_ 20 5,
 o_ 21 (.iaddr 2 (t_ 19) (t_ 20)),
 o_ 22 (.faddr 1 (t_ 21)),
 o_ 23 (.load false 1 (t_ 22)),
 m_ 4 23])
 .ret) .skip)))
 (.region 0 [
 m_ 10 5,
 o_ 11 (.binI .add .i64 (t_ 10) (.const (.int .i64 1))),
 m_ 5 11]))))))
 (.seq (.region 0 [
 o_ 4 (.mov (.const (.int .i64 0)))])
 .ret)))
def ir647:AF:=⟨24,[(.tmp 4)],b647⟩
theorem c647:compF tt Tryz.f56=some ir647:=by kernel_rfl
def b1057:AC:=(.seq (.region 0 [
 o_ 2 (.mov (.const (.bool false)))])
 (.seq (.seq (.region 0 [
 m_ 5 0,
 o_ 6 (.lenS (t_ 5)),
 o_ 7 (.mov (.const (.int .i64 0)))])
 (.block 0 (.loop (.seq (.region 0 [
 o_ 8 (.binI .lss .i64 (t_ 7) (t_ 6))])
 (.seq (.cond (t_ 8) .skip (.exit 0))
 (.seq (.block 1 (.seq (.region 0 [
 m_ 9 7,
 m_ 3 9])
 (.seq (.region 0 [
 m_ 10 0,
 m_ 11 3,
 o_ 12 (.index (t_ 10) (t_ 11)),
 m_ 4 12])
 (.seq (.region 0 [
 m_ 13 4,
 o_ 14 (.binI .lss .u8 (t_ 13) (.const (.int .u8 97))),
 m_ 15 14,
 g_ 16 (.mov (t_ 4)) 15 false,
 g_ 17 (.binI .gtr .u8 (t_ 16) (.const (.int .u8 122))) 15 false,
 o_ 18 (.pick (t_ 15) (.const (.bool true)) (t_ 17)),
 m_ 19 18,
 g_ 20 (.mov (t_ 3)) 19 true,
 g_ 21 (.binI .eql .i64 (t_ 20) (.const (.int .i64 0))) 19 true,
 g_ 22 (.mov (t_ 21)) 19 true,
 g_ 23 (.mov (t_ 4)) 22 false,
 g_ 24 (.binI .lss .u8 (t_ 23) (.const (.int .u8 48))) 22 false,
 g_ 25 (.pick (t_ 22) (.const (.bool true)) (t_ 24)) 19 true,
 g_ 26 (.mov (t_ 25)) 19 true,
 g_ 27 (.mov (t_ 4)) 26 false,
 g_ 28 (.binI .gtr .u8 (t_ 27) (.const (.int .u8 57))) 26 false,
 g_ 29 (.pick (t_ 26) (.const (.bool true)) (t_ 28)) 19 true,
 o_ 30 (.pick (t_ 19) (t_ 29) (.const (.bool false)))])
 (.cond (t_ 30) (.seq (.region 0 [
 o_ 2 (.mov (.const (.bool false)))])
 .ret) .skip)))))
 (.region 0 [
 o_ 31 (.binI .add .i64 (t_ 7) (.const (.int .i64 1))),
 m_ 7 31])))))))
 (.seq (.region 0 [
 m_ 32 0,
 o_ 33 (.lenS (t_ 32)),
 o_ 34 (.binI .geq .i64 (t_ 33) (.const (.int .i64 1))),
 m_ 35 34,
 g_ 36 (.mov (t_ 0)) 35 true,
 g_ 37 (.lenS (t_ 36)) 35 true,
 g_ 38 (.binI .leq .i64 (t_ 37) (.const (.int .i64 24))) 35 true,
 o_ 39 (.pick (t_ 35) (t_ 38) (.const (.bool false))),
 m_ 2 39])
 .ret)))
def ir1057:AF:=⟨40,[(.tmp 2)],b1057⟩
theorem c1057:compF tt Tryz.f57=some ir1057:=by kernel_rfl
def b1058:AC:=(.seq (.region 1 [
 o_ 1 (.box 0 (t_ 0)),
 o_ 2 (.mov (.const (.bool false)))])
 (.seq (.region 0 [
 o_ 3 (.faddr 0 (t_ 1)),
 o_ 4 (.load false 1 (t_ 3)),
 o_ 5 (.call 57 [(t_ 4)]),
 m_ 6 5,
 g_ 7 (.faddr 1 (t_ 1)) 6 true,
 g_ 8 (.load false 1 (t_ 7)) 6 true,
 g_ 9 (.binI .geq .i64 (t_ 8) (.const (.int .i64 1))) 6 true,
 o_ 10 (.pick (t_ 6) (t_ 9) (.const (.bool false))),
 m_ 11 10,
 g_ 12 (.faddr 1 (t_ 1)) 11 true,
 g_ 13 (.load false 1 (t_ 12)) 11 true,
 g_ 14 (.binI .leq .i64 (t_ 13) (.const (.int .i64 1000000000))) 11 true,
 o_ 15 (.pick (t_ 11) (t_ 14) (.const (.bool false))),
 m_ 2 15])
 .ret))
def ir1058:AF:=⟨16,[(.tmp 2)],b1058⟩
theorem c1058:compF tt Tryz.f58=some ir1058:=by kernel_rfl
def b1059_0:AC:=(.region 0 [
 o_ 2 (.mov (.const (.int .i64 0)))])
def b1059_1:AC:=(.seq (.region 0 [
 m_ 5 0,
 o_ 6 (.lenL (t_ 5)),
 o_ 7 (.mov (.const (.int .i64 0)))])
 (.block 0 (.loop (.seq (.region 0 [
 o_ 8 (.binI .lss .i64 (t_ 7) (t_ 6))])
 (.seq (.cond (t_ 8) .skip (.exit 0))
 (.seq (.block 1 (.seq (.region 1 [
 m_ 9 7,
 o_ 10 (.iaddr 2 (t_ 5) (t_ 7)),
 o_ 11 (.load true 2 (t_ 10)),
 o_ 4 (.zero 0 [(.v (.string ⟨#[]⟩)),(.v (.int .i64 0))]),
 m_ 3 9,
 s_ (.store 2 (t_ 4) (t_ 11))])
 (.block 2 (.seq (.region 0 [
 o_ 13 (.faddr 0 (t_ 4)),
 o_ 14 (.load false 1 (t_ 13)),
 o_ 15 (.call 57 [(t_ 14)]),
 o_ 16 (.not (t_ 15)),
 m_ 12 16])
 (.cond (t_ 12) (.seq (.region 0 [
 o_ 2 (.mov (.const (.int .i64 7)))])
 .ret) (.seq (.region 0 [
 o_ 18 (.faddr 1 (t_ 4)),
 o_ 19 (.load false 1 (t_ 18)),
 o_ 20 (.binI .lss .i64 (t_ 19) (.const (.int .i64 1))),
 m_ 17 20])
 (.cond (t_ 17) (.seq (.region 0 [
 o_ 2 (.mov (.const (.int .i64 2)))])
 .ret) (.seq (.dregion 0 [
 m_ 22 3,
 o_ 23 (.binI .gtr .i64 (t_ 22) (.const (.int .i64 0))),
 m_ 24 23,
 g_ 25 (.mov (t_ 0)) 24 true,
 g_ 26 (.mov (t_ 3)) 24 true,
 g_ 27 (.binI .sub .i64 (t_ 26) (.const (.int .i64 1))) 24 true,
 g_ 28 (.iaddr 2 (t_ 25) (t_ 27)) 24 true,
 g_ 29 (.faddr 0 (t_ 28)) 24 true,
 g_ 30 (.load false 1 (t_ 29)) 24 true,
 g_ 31 (.faddr 0 (t_ 4)) 24 true,
 g_ 32 (.load false 1 (t_ 31)) 24 true,
 g_ 33 (.binS .eql (t_ 30) (t_ 32)) 24 true,
 o_ 34 (.pick (t_ 24) (t_ 33) (.const (.bool false))),
 m_ 21 34] [[],[0],[1],[2],[2],[4,2],[3,5,2],[6,2],[7,2],[2],[9,2],[8,10,2],[2,11],[12,2]])
 (.cond (t_ 21) (.seq (.region 0 [
 o_ 2 (.mov (.const (.int .i64 8)))])
 .ret) (.seq (.dregion 0 [
 m_ 36 3,
 o_ 37 (.binI .gtr .i64 (t_ 36) (.const (.int .i64 0))),
 m_ 38 37,
 g_ 39 (.mov (t_ 0)) 38 true,
 g_ 40 (.mov (t_ 3)) 38 true,
 g_ 41 (.binI .sub .i64 (t_ 40) (.const (.int .i64 1))) 38 true,
 g_ 42 (.iaddr 2 (t_ 39) (t_ 41)) 38 true,
 g_ 43 (.faddr 0 (t_ 42)) 38 true,
 g_ 44 (.load false 1 (t_ 43)) 38 true,
 g_ 45 (.faddr 0 (t_ 4)) 38 true,
 g_ 46 (.load false 1 (t_ 45)) 38 true,
 g_ 47 (.binS .gtr (t_ 44) (t_ 46)) 38 true,
 o_ 48 (.pick (t_ 38) (t_ 47) (.const (.bool false))),
 m_ 35 48] [[],[0],[1],[2],[2],[4,2],[3,5,2],[6,2],[7,2],[2],[9,2],[8,10,2],[2,11],[12,2]])
 (.cond (t_ 35) (.seq (.region 0 [
 o_ 2 (.mov (.const (.int .i64 3)))])
 .ret) .skip)))))))))))
 (.region 0 [
 o_ 49 (.binI .add .i64 (t_ 7) (.const (.int .i64 1))),
 m_ 7 49])))))))
def b1059_2:AC:=(.region 0 [
 o_ 2 (.mov (.const (.int .i64 0)))])
def b1059_3:AC:=.ret
def b1059:AC:=(.seq b1059_0 (.seq b1059_1 (.seq b1059_2 b1059_3)))
def ir1059:AF:=⟨50,[(.tmp 2)],b1059⟩
theorem c1059:compF tt Tryz.f59=some ir1059:=by kernel_rfl
def b1060_0:AC:=(.region 1 [
 o_ 1 (.box 0 (t_ 0)),
 o_ 2 (.mov (.const (.bool false)))])
def b1060_1:AC:=(.region 1 [
 o_ 4 (.load true 18 (t_ 1)),
 o_ 5 (.call 80 [(t_ 4)]),
 o_ 3 (.zero 0 [(.v (.string ⟨#[]⟩)),(.v (.int .i64 0)),(.v (.string ⟨#[]⟩)),(.v (.int .i64 0)),(.v (.string ⟨#[]⟩)),(.v (.int .i64 0)),(.v (.bool false)),(.v (.string ⟨#[]⟩)),(.v (.string ⟨#[]⟩)),(.v (.string ⟨#[]⟩)),(.v (.string ⟨#[]⟩)),(.v (.string ⟨#[]⟩))]),
 s_ (.store 12 (t_ 3) (t_ 5))])
def b1060_2:AC:=(.seq (.region 0 [
 o_ 6 (.faddr 5 (t_ 1)),
 o_ 7 (.load false 1 (t_ 6))])
 (.block 0 (.seq (.region 0 [
 o_ 9 (.binI .eql .i64 (t_ 7) (.const (.int .i64 1))),
 m_ 8 9])
 (.cond (t_ 8) (.seq (.region 0 [
 o_ 10 (.build [(.v (.string ⟨#[]⟩)),(.v (.int .i64 0))] []),
 o_ 11 (.build [(.v (.bool false)),(.v (.string ⟨#[]⟩)),(.v (.string ⟨#[]⟩))] []),
 o_ 12 (.faddr 2 (t_ 3)),
 s_ (.store 2 (t_ 12) (t_ 10)),
 o_ 13 (.faddr 6 (t_ 3)),
 s_ (.store 3 (t_ 13) (t_ 11)),
 o_ 14 (.faddr 10 (t_ 3)),
 s_ (.store 1 (t_ 14) (.const (.string ⟨#[]⟩)))])
 (.seq (.region 0 [
 o_ 15 (.load true 12 (t_ 3)),
 o_ 16 (.build [(.v (.string ⟨#[]⟩)),(.v (.int .i64 0)),(.v (.string ⟨#[]⟩)),(.v (.int .i64 0)),(.v (.string ⟨#[]⟩)),(.v (.int .i64 0)),(.v (.bool false)),(.v (.string ⟨#[]⟩)),(.v (.string ⟨#[]⟩)),(.v (.string ⟨#[]⟩)),(.v (.string ⟨#[]⟩)),(.v (.string ⟨#[]⟩))] []),
 o_ 17 (.eqA false [.s,(.i .i64),.s,(.i .i64),.s,(.i .i64),.b,.s,.s,.s,.s,.s] (t_ 15) (t_ 16)),
 m_ 18 17,
 g_ 19 (.faddr 8 (t_ 1)) 18 true,
 g_ 20 (.load true 2 (t_ 19)) 18 true,
 g_ 21 (.call 81 [(t_ 20)]) 18 true,
 o_ 22 (.pick (t_ 18) (t_ 21) (.const (.bool false))),
 m_ 23 22,
 g_ 24 (.faddr 10 (t_ 1)) 23 true,
 g_ 25 (.load true 3 (t_ 24)) 23 true,
 g_ 26 (.call 82 [(t_ 25)]) 23 true,
 o_ 27 (.pick (t_ 23) (t_ 26) (.const (.bool false))),
 m_ 28 27,
 g_ 29 (.faddr 14 (t_ 1)) 28 true,
 g_ 30 (.load false 1 (t_ 29)) 28 true,
 g_ 31 (.call 83 [(t_ 30)]) 28 true,
 o_ 32 (.pick (t_ 28) (t_ 31) (.const (.bool false))),
 m_ 2 32])
 .ret)) (.seq (.region 0 [
 o_ 34 (.binI .eql .i64 (t_ 7) (.const (.int .i64 2))),
 m_ 33 34])
 (.cond (t_ 33) (.seq (.region 0 [
 o_ 35 (.build [(.v (.string ⟨#[]⟩)),(.v (.int .i64 0))] []),
 o_ 36 (.build [(.v (.string ⟨#[]⟩)),(.v (.int .i64 0))] []),
 o_ 37 (.build [(.v (.bool false)),(.v (.string ⟨#[]⟩)),(.v (.string ⟨#[]⟩))] []),
 o_ 38 (.faddr 0 (t_ 3)),
 s_ (.store 2 (t_ 38) (t_ 35)),
 o_ 39 (.faddr 2 (t_ 3)),
 s_ (.store 2 (t_ 39) (t_ 36)),
 o_ 40 (.faddr 6 (t_ 3)),
 s_ (.store 3 (t_ 40) (t_ 37))])
 (.seq (.region 0 [
 o_ 41 (.load true 12 (t_ 3)),
 o_ 42 (.build [(.v (.string ⟨#[]⟩)),(.v (.int .i64 0)),(.v (.string ⟨#[]⟩)),(.v (.int .i64 0)),(.v (.string ⟨#[]⟩)),(.v (.int .i64 0)),(.v (.bool false)),(.v (.string ⟨#[]⟩)),(.v (.string ⟨#[]⟩)),(.v (.string ⟨#[]⟩)),(.v (.string ⟨#[]⟩)),(.v (.string ⟨#[]⟩))] []),
 o_ 43 (.eqA false [.s,(.i .i64),.s,(.i .i64),.s,(.i .i64),.b,.s,.s,.s,.s,.s] (t_ 41) (t_ 42)),
 m_ 44 43,
 g_ 45 (.faddr 6 (t_ 1)) 44 true,
 g_ 46 (.load true 2 (t_ 45)) 44 true,
 g_ 47 (.call 58 [(t_ 46)]) 44 true,
 o_ 48 (.pick (t_ 44) (t_ 47) (.const (.bool false))),
 m_ 49 48,
 g_ 50 (.faddr 8 (t_ 1)) 49 true,
 g_ 51 (.load true 2 (t_ 50)) 49 true,
 g_ 52 (.call 81 [(t_ 51)]) 49 true,
 g_ 53 (.mov (t_ 52)) 49 true,
 g_ 54 (.faddr 8 (t_ 1)) 53 false,
 g_ 55 (.load true 2 (t_ 54)) 53 false,
 g_ 56 (.build [(.v (.string ⟨#[]⟩)),(.v (.int .i64 0))] [(0,(1,(.const (.string ⟨#[45]⟩))))]) 53 false,
 g_ 57 (.eqA false [.s,(.i .i64)] (t_ 55) (t_ 56)) 53 false,
 g_ 58 (.pick (t_ 53) (.const (.bool true)) (t_ 57)) 49 true,
 o_ 59 (.pick (t_ 49) (t_ 58) (.const (.bool false))),
 m_ 60 59,
 g_ 61 (.faddr 10 (t_ 1)) 60 true,
 g_ 62 (.load true 3 (t_ 61)) 60 true,
 g_ 63 (.call 82 [(t_ 62)]) 60 true,
 o_ 64 (.pick (t_ 60) (t_ 63) (.const (.bool false))),
 m_ 2 64])
 .ret)) (.seq (.region 0 [
 o_ 66 (.binI .eql .i64 (t_ 7) (.const (.int .i64 3))),
 m_ 65 66])
 (.cond (t_ 65) (.seq (.region 0 [
 o_ 67 (.build [(.v (.string ⟨#[]⟩)),(.v (.int .i64 0))] []),
 o_ 68 (.faddr 0 (t_ 3)),
 s_ (.store 2 (t_ 68) (t_ 67)),
 o_ 69 (.faddr 9 (t_ 3)),
 s_ (.store 1 (t_ 69) (.const (.string ⟨#[]⟩))),
 o_ 70 (.faddr 10 (t_ 3)),
 s_ (.store 1 (t_ 70) (.const (.string ⟨#[]⟩)))])
 (.seq (.region 0 [
 o_ 71 (.load true 12 (t_ 3)),
 o_ 72 (.build [(.v (.string ⟨#[]⟩)),(.v (.int .i64 0)),(.v (.string ⟨#[]⟩)),(.v (.int .i64 0)),(.v (.string ⟨#[]⟩)),(.v (.int .i64 0)),(.v (.bool false)),(.v (.string ⟨#[]⟩)),(.v (.string ⟨#[]⟩)),(.v (.string ⟨#[]⟩)),(.v (.string ⟨#[]⟩)),(.v (.string ⟨#[]⟩))] []),
 o_ 73 (.eqA false [.s,(.i .i64),.s,(.i .i64),.s,(.i .i64),.b,.s,.s,.s,.s,.s] (t_ 71) (t_ 72)),
 m_ 74 73,
 g_ 75 (.faddr 6 (t_ 1)) 74 true,
 g_ 76 (.load true 2 (t_ 75)) 74 true,
 g_ 77 (.call 58 [(t_ 76)]) 74 true,
 o_ 78 (.pick (t_ 74) (t_ 77) (.const (.bool false))),
 m_ 79 78,
 g_ 80 (.faddr 13 (t_ 1)) 79 true,
 g_ 81 (.load false 1 (t_ 80)) 79 true,
 g_ 82 (.call 83 [(t_ 81)]) 79 true,
 o_ 83 (.pick (t_ 79) (t_ 82) (.const (.bool false))),
 m_ 2 83])
 .ret)) (.seq (.region 0 [
 o_ 85 (.binI .eql .i64 (t_ 7) (.const (.int .i64 4))),
 m_ 84 85])
 (.cond (t_ 84) (.seq (.region 0 [
 o_ 86 (.build [(.v (.string ⟨#[]⟩)),(.v (.int .i64 0))] []),
 o_ 87 (.faddr 4 (t_ 3)),
 s_ (.store 2 (t_ 87) (t_ 86))])
 (.seq (.region 0 [
 o_ 88 (.load true 12 (t_ 3)),
 o_ 89 (.build [(.v (.string ⟨#[]⟩)),(.v (.int .i64 0)),(.v (.string ⟨#[]⟩)),(.v (.int .i64 0)),(.v (.string ⟨#[]⟩)),(.v (.int .i64 0)),(.v (.bool false)),(.v (.string ⟨#[]⟩)),(.v (.string ⟨#[]⟩)),(.v (.string ⟨#[]⟩)),(.v (.string ⟨#[]⟩)),(.v (.string ⟨#[]⟩))] []),
 o_ 90 (.eqA false [.s,(.i .i64),.s,(.i .i64),.s,(.i .i64),.b,.s,.s,.s,.s,.s] (t_ 88) (t_ 89)),
 m_ 91 90,
 g_ 92 (.faddr 15 (t_ 1)) 91 true,
 g_ 93 (.load true 2 (t_ 92)) 91 true,
 g_ 94 (.call 58 [(t_ 93)]) 91 true,
 o_ 95 (.pick (t_ 91) (t_ 94) (.const (.bool false))),
 m_ 96 95,
 g_ 97 (.faddr 15 (t_ 1)) 96 true,
 g_ 98 (.faddr 0 (t_ 97)) 96 true,
 g_ 99 (.load false 1 (t_ 98)) 96 true,
 g_ 100 (.faddr 0 (t_ 1)) 96 true,
 g_ 101 (.faddr 0 (t_ 100)) 96 true,
 g_ 102 (.load false 1 (t_ 101)) 96 true,
 g_ 103 (.binS .eql (t_ 99) (t_ 102)) 96 true,
 o_ 104 (.pick (t_ 96) (t_ 103) (.const (.bool false))),
 m_ 105 104,
 g_ 106 (.faddr 15 (t_ 1)) 105 true,
 g_ 107 (.faddr 1 (t_ 106)) 105 true,
 g_ 108 (.load false 1 (t_ 107)) 105 true,
 g_ 109 (.faddr 0 (t_ 1)) 105 true,
 g_ 110 (.faddr 1 (t_ 109)) 105 true,
 g_ 111 (.load false 1 (t_ 110)) 105 true,
 g_ 112 (.binI .lss .i64 (t_ 108) (t_ 111)) 105 true,
 o_ 113 (.pick (t_ 105) (t_ 112) (.const (.bool false))),
 m_ 2 113])
 .ret)) (.seq (.region 0 [
 o_ 115 (.binI .eql .i64 (t_ 7) (.const (.int .i64 5))),
 m_ 114 115])
 (.cond (t_ 114) (.seq (.region 0 [
 o_ 116 (.faddr 11 (t_ 3)),
 s_ (.store 1 (t_ 116) (.const (.string ⟨#[]⟩)))])
 (.seq (.region 0 [
 o_ 117 (.load true 12 (t_ 3)),
 o_ 118 (.build [(.v (.string ⟨#[]⟩)),(.v (.int .i64 0)),(.v (.string ⟨#[]⟩)),(.v (.int .i64 0)),(.v (.string ⟨#[]⟩)),(.v (.int .i64 0)),(.v (.bool false)),(.v (.string ⟨#[]⟩)),(.v (.string ⟨#[]⟩)),(.v (.string ⟨#[]⟩)),(.v (.string ⟨#[]⟩)),(.v (.string ⟨#[]⟩))] []),
 o_ 119 (.eqA false [.s,(.i .i64),.s,(.i .i64),.s,(.i .i64),.b,.s,.s,.s,.s,.s] (t_ 117) (t_ 118)),
 m_ 120 119,
 g_ 121 (.faddr 0 (t_ 1)) 120 true,
 g_ 122 (.faddr 0 (t_ 121)) 120 true,
 g_ 123 (.load false 1 (t_ 122)) 120 true,
 g_ 124 (.faddr 17 (t_ 1)) 120 true,
 g_ 125 (.load false 1 (t_ 124)) 120 true,
 g_ 126 (.call 84 [(t_ 123),(t_ 125)]) 120 true,
 o_ 127 (.pick (t_ 120) (t_ 126) (.const (.bool false))),
 m_ 2 127])
 .ret)) .skip))))))))))))
def b1060_3:AC:=(.region 0 [
 o_ 128 (.load true 12 (t_ 3)),
 o_ 129 (.build [(.v (.string ⟨#[]⟩)),(.v (.int .i64 0)),(.v (.string ⟨#[]⟩)),(.v (.int .i64 0)),(.v (.string ⟨#[]⟩)),(.v (.int .i64 0)),(.v (.bool false)),(.v (.string ⟨#[]⟩)),(.v (.string ⟨#[]⟩)),(.v (.string ⟨#[]⟩)),(.v (.string ⟨#[]⟩)),(.v (.string ⟨#[]⟩))] []),
 o_ 130 (.eqA false [.s,(.i .i64),.s,(.i .i64),.s,(.i .i64),.b,.s,.s,.s,.s,.s] (t_ 128) (t_ 129)),
 m_ 2 130])
def b1060_4:AC:=.ret
def b1060:AC:=(.seq b1060_0 (.seq b1060_1 (.seq b1060_2 (.seq b1060_3 b1060_4))))
def ir1060:AF:=⟨131,[(.tmp 2)],b1060⟩
theorem c1060:compF tt Tryz.f60=some ir1060:=by kernel_rfl
def b1061:AC:=(.seq (.region 1 [
 o_ 2 (.box 0 (t_ 0)),
 o_ 3 (.mov (.const (.bool false)))])
 (.seq (.region 0 [
 o_ 4 (.faddr 0 (t_ 2)),
 o_ 5 (.load true 2 (t_ 4)),
 o_ 6 (.load true 2 (t_ 1)),
 o_ 7 (.eqA false [.s,(.i .i64)] (t_ 5) (t_ 6)),
 m_ 3 7])
 .ret))
def ir1061:AF:=⟨8,[(.tmp 3)],b1061⟩
theorem c1061:compF tt Tryz.f61=some ir1061:=by kernel_rfl
def b50:AC:=(.seq (.region 2 [
 o_ 1 (.box 0 (t_ 0)),
 o_ 2 (.zero 1 [(.v (.string ⟨#[]⟩)),(.v (.int .i64 0)),(.v (.string ⟨#[]⟩)),(.v (.int .i64 0)),(.v (.string ⟨#[]⟩)),(.v (.int .i64 0)),(.v (.string ⟨#[]⟩)),(.v (.int .i64 0)),(.v (.int .i64 0)),(.v (.int .i64 0)),(.v (.int .i64 0)),(.v (.bool false)),(.v (.string ⟨#[]⟩)),(.v (.string ⟨#[]⟩)),(.v (.string ⟨#[]⟩)),(.v (.string ⟨#[]⟩)),(.v (.string ⟨#[]⟩))])])
 (.seq (.region 0 [
 o_ 3 (.faddr 0 (t_ 1)),
 o_ 4 (.load true 2 (t_ 3)),
 o_ 5 (.faddr 6 (t_ 1)),
 o_ 6 (.load true 2 (t_ 5)),
 o_ 7 (.faddr 8 (t_ 1)),
 o_ 8 (.load true 2 (t_ 7)),
 o_ 9 (.faddr 15 (t_ 1)),
 o_ 10 (.load true 2 (t_ 9)),
 o_ 11 (.faddr 2 (t_ 1)),
 o_ 12 (.load false 1 (t_ 11)),
 o_ 13 (.faddr 3 (t_ 1)),
 o_ 14 (.load false 1 (t_ 13)),
 o_ 15 (.faddr 5 (t_ 1)),
 o_ 16 (.load false 1 (t_ 15)),
 o_ 17 (.faddr 10 (t_ 1)),
 o_ 18 (.load true 3 (t_ 17)),
 o_ 19 (.faddr 13 (t_ 1)),
 o_ 20 (.load false 1 (t_ 19)),
 o_ 21 (.faddr 14 (t_ 1)),
 o_ 22 (.load false 1 (t_ 21)),
 o_ 23 (.faddr 17 (t_ 1)),
 o_ 24 (.load false 1 (t_ 23)),
 o_ 25 (.build [(.v (.string ⟨#[]⟩)),(.v (.int .i64 0)),(.v (.string ⟨#[]⟩)),(.v (.int .i64 0)),(.v (.string ⟨#[]⟩)),(.v (.int .i64 0)),(.v (.string ⟨#[]⟩)),(.v (.int .i64 0)),(.v (.int .i64 0)),(.v (.int .i64 0)),(.v (.int .i64 0)),(.v (.bool false)),(.v (.string ⟨#[]⟩)),(.v (.string ⟨#[]⟩)),(.v (.string ⟨#[]⟩)),(.v (.string ⟨#[]⟩)),(.v (.string ⟨#[]⟩))] [(0,(2,(t_ 4))),(2,(2,(t_ 6))),(4,(2,(t_ 8))),(6,(2,(t_ 10))),(8,(1,(t_ 12))),(9,(1,(t_ 14))),(10,(1,(t_ 16))),(11,(3,(t_ 18))),(14,(1,(t_ 20))),(15,(1,(t_ 22))),(16,(1,(t_ 24)))]),
 s_ (.store 17 (t_ 2) (t_ 25))])
 .ret))
def ir50:AF:=⟨26,[(.cell 2 true 17)],b50⟩
theorem c50:compF tt Tryz.f62=some ir50:=by kernel_rfl
def b51:AC:=(.seq (.region 0 [
 o_ 4 (.mov (.const (.bool false)))])
 (.seq (.seq (.region 0 [
 m_ 6 0,
 o_ 7 (.lenL (t_ 6)),
 m_ 8 1,
 o_ 9 (.lenL (t_ 8)),
 o_ 10 (.binI .neq .i64 (t_ 7) (t_ 9))])
 (.cond (t_ 10) (.seq (.region 0 [
 o_ 4 (.mov (.const (.bool false)))])
 .ret) .skip))
 (.seq (.seq (.region 0 [
 m_ 11 0,
 o_ 12 (.lenL (t_ 11)),
 o_ 13 (.mov (.const (.int .i64 0)))])
 (.block 0 (.loop (.seq (.region 0 [
 o_ 14 (.binI .lss .i64 (t_ 13) (t_ 12))])
 (.seq (.cond (t_ 14) .skip (.exit 0))
 (.seq (.block 1 (.seq (.region 0 [
 m_ 15 13,
 m_ 5 15])
 (.seq (.dregion 0 [
 m_ 16 0,
 m_ 17 5,
 o_ 18 (.iaddr 2 (t_ 16) (t_ 17)),
 o_ 19 (.load true 2 (t_ 18)),
 m_ 20 1,
 m_ 21 5,
 o_ 22 (.iaddr 2 (t_ 20) (t_ 21)),
 o_ 23 (.load true 2 (t_ 22)),
 o_ 24 (.eqA true [.s,(.i .i64)] (t_ 19) (t_ 23))] [[],[],[0,1],[2],[],[],[4,5],[6],[3,7]])
 (.cond (t_ 24) (.seq (.region 0 [
 o_ 4 (.mov (.const (.bool false)))])
 .ret) .skip))))
 (.region 0 [
 o_ 25 (.binI .add .i64 (t_ 13) (.const (.int .i64 1))),
 m_ 13 25])))))))
 (.seq (.region 0 [
 o_ 4 (.mov (.const (.bool true)))])
 .ret))))
def ir51:AF:=⟨26,[(.tmp 4)],b51⟩
theorem c51:compF tt Tryz.f63=some ir51:=by kernel_rfl
def b1064:AC:=(.seq (.region 1 [
 o_ 2 (.box 0 (t_ 0)),
 o_ 3 (.mov (.const (.bool false)))])
 (.seq (.region 0 [
 o_ 4 (.load false 1 (t_ 1)),
 o_ 5 (.faddr 4 (t_ 2)),
 o_ 6 (.load false 1 (t_ 5)),
 o_ 7 (.call 18 [(t_ 4),(t_ 6)]),
 m_ 3 7])
 .ret))
def ir1064:AF:=⟨8,[(.tmp 3)],b1064⟩
theorem c1064:compF tt Tryz.f64=some ir1064:=by kernel_rfl
def b64_0:AC:=(.region 0 [
 o_ 6 (.mov (.const (.int .i64 20)))])
def b64_1:AC:=(.region 0 [
 m_ 10 6,
 o_ 7 (.mov (.const (.int .i64 0))),
 m_ 8 10])
def b64_2:AC:=(.block 0 (.loop (.seq (.seq (.region 0 [
 m_ 11 8,
 m_ 12 1,
 o_ 13 (.binI .leq .i64 (t_ 11) (t_ 12))])
 (.cond (t_ 13) .skip (.exit 0)))
 (.block 1 (.seq (.region 0 [
 m_ 14 0,
 m_ 15 7,
 m_ 16 8,
 m_ 17 2,
 o_ 18 (.call 85 [(t_ 14),(t_ 15),(t_ 16),(t_ 17)])])
 (.seq (.region 0 [
 m_ 19 8,
 m_ 7 19])
 (.region 0 [
 m_ 20 8,
 m_ 21 6,
 o_ 22 (.binI .add .i64 (t_ 20) (t_ 21)),
 m_ 8 22])))))))
def b64_3:AC:=(.region 0 [
 m_ 23 0,
 m_ 24 7,
 m_ 25 1,
 m_ 26 2,
 o_ 27 (.call 85 [(t_ 23),(t_ 24),(t_ 25),(t_ 26)])])
def b64_4:AC:=(.block 2 (.loop (.seq (.seq (.region 0 [
 m_ 28 6,
 m_ 29 1,
 o_ 30 (.binI .lss .i64 (t_ 28) (t_ 29))])
 (.cond (t_ 30) .skip (.exit 2)))
 (.block 3 (.seq (.region 0 [
 m_ 31 6,
 o_ 32 (.binI .mul .i64 (.const (.int .i64 2)) (t_ 31)),
 o_ 7 (.mov (.const (.int .i64 0))),
 m_ 8 32])
 (.seq (.block 4 (.loop (.seq (.seq (.region 0 [
 m_ 33 8,
 m_ 34 1,
 o_ 35 (.binI .leq .i64 (t_ 33) (t_ 34))])
 (.cond (t_ 35) .skip (.exit 4)))
 (.block 5 (.seq (.region 0 [
 m_ 36 0,
 m_ 37 7,
 m_ 38 7,
 m_ 39 6,
 o_ 40 (.binI .add .i64 (t_ 38) (t_ 39)),
 m_ 41 8,
 m_ 42 2,
 o_ 43 (.call 86 [(t_ 36),(t_ 37),(t_ 40),(t_ 41),(t_ 42)])])
 (.seq (.region 0 [
 m_ 44 8,
 m_ 7 44])
 (.region 0 [
 m_ 45 8,
 m_ 46 6,
 o_ 47 (.binI .mul .i64 (.const (.int .i64 2)) (t_ 46)),
 o_ 48 (.binI .add .i64 (t_ 45) (t_ 47)),
 m_ 8 48])))))))
 (.seq (.seq (.region 0 [
 m_ 49 7,
 m_ 50 6,
 o_ 51 (.binI .add .i64 (t_ 49) (t_ 50)),
 m_ 9 51])
 (.seq (.region 0 [
 m_ 52 9,
 m_ 53 1,
 o_ 54 (.binI .lss .i64 (t_ 52) (t_ 53))])
 (.cond (t_ 54) (.region 0 [
 m_ 55 0,
 m_ 56 7,
 m_ 57 9,
 m_ 58 1,
 m_ 59 2,
 o_ 60 (.call 86 [(t_ 55),(t_ 56),(t_ 57),(t_ 58),(t_ 59)])]) .skip)))
 (.region 0 [
 m_ 61 6,
 o_ 62 (.binI .mul .i64 (t_ 61) (.const (.int .i64 2))),
 m_ 6 62]))))))))
def b64:AC:=(.seq b64_0 (.seq b64_1 (.seq b64_2 (.seq b64_3 b64_4))))
def ir64:AF:=⟨63,[],b64⟩
theorem c64:compF tt Tryz.f65=some ir64:=by kernel_rfl
def b47:AC:=(.seq (.region 0 [
 o_ 2 (.mov (.const (.int .i64 0)))])
 (.seq (.region 0 [
 o_ 3 (.mov (.const (.int .i64 0)))])
 (.seq (.seq (.region 0 [
 m_ 6 0,
 o_ 7 (.lenL (t_ 6)),
 o_ 8 (.mov (.const (.int .i64 0)))])
 (.block 0 (.loop (.seq (.region 0 [
 o_ 9 (.binI .lss .i64 (t_ 8) (t_ 7))])
 (.seq (.cond (t_ 9) .skip (.exit 0))
 (.seq (.block 1 (.seq (.region 0 [
 o_ 10 (.iaddr 1 (t_ 6) (t_ 8)),
 o_ 11 (.load false 1 (t_ 10)),
 m_ 5 11])
 (.seq (.region 0 [
 m_ 12 5,
 m_ 13 3,
 o_ 14 (.binI .neq .i64 (t_ 12) (t_ 13))])
 (.cond (t_ 14) (.seq (.region 0 [
 m_ 15 5,
 m_ 2 15])
 .ret) .skip))))
 (.region 0 [
 o_ 16 (.binI .add .i64 (t_ 8) (.const (.int .i64 1))),
 m_ 8 16])))))))
 (.seq (.region 0 [
 m_ 17 3,
 m_ 2 17])
 .ret))))
def ir47:AF:=⟨18,[(.tmp 2)],b47⟩
theorem c47:compF tt Tryz.f66=some ir47:=by kernel_rfl
def b48:AC:=(.seq (.region 0 [
 o_ 4 (.mov (.const (.int .i64 0)))])
 (.seq (.region 0 [
 m_ 7 0,
 o_ 8 (.call 87 [(t_ 7)]),
 m_ 5 8])
 (.seq (.region 0 [
 m_ 9 1,
 o_ 10 (.call 87 [(t_ 9)]),
 m_ 6 10])
 (.seq (.seq (.region 0 [
 m_ 11 5])
 (.cond (t_ 11) (.seq (.seq (.region 0 [
 m_ 12 6])
 (.cond (t_ 12) (.seq (.region 0 [
 o_ 4 (.mov (.const (.int .i64 0)))])
 .ret) .skip))
 (.seq (.region 0 [
 o_ 4 (.mov (.const (.int .i64 (-1))))])
 .ret)) .skip))
 (.seq (.seq (.region 0 [
 m_ 13 6])
 (.cond (t_ 13) (.seq (.region 0 [
 o_ 4 (.mov (.const (.int .i64 1)))])
 .ret) .skip))
 (.seq (.seq (.region 0 [
 m_ 14 0,
 m_ 15 1,
 o_ 16 (.binI .lss .i64 (t_ 14) (t_ 15))])
 (.cond (t_ 16) (.seq (.region 0 [
 o_ 4 (.mov (.const (.int .i64 (-1))))])
 .ret) .skip))
 (.seq (.seq (.region 0 [
 m_ 17 0,
 m_ 18 1,
 o_ 19 (.binI .gtr .i64 (t_ 17) (t_ 18))])
 (.cond (t_ 19) (.seq (.region 0 [
 o_ 4 (.mov (.const (.int .i64 1)))])
 .ret) .skip))
 (.seq (.region 0 [
 o_ 4 (.mov (.const (.int .i64 0)))])
 .ret))))))))
def ir48:AF:=⟨20,[(.tmp 4)],b48⟩
theorem c48:compF tt Tryz.f67=some ir48:=by kernel_rfl
def b49:AC:=(.seq (.region 0 [
 o_ 4 (.mov (.const (.int .i64 0)))])
 (.seq (.region 0 [
 m_ 5 0,
 m_ 6 1,
 o_ 7 (.call 88 [(t_ 5),(t_ 6)]),
 m_ 4 7])
 .ret))
def ir49:AF:=⟨8,[(.tmp 4)],b49⟩
theorem c49:compF tt Tryz.f68=some ir49:=by kernel_rfl
def b1069_0:AC:=(.region 1 [
 o_ 3 (.box 0 (t_ 1)),
 o_ 4 (.mov (.const (.slice none 0 0)))])
def b1069_1:AC:=(.region 1 [
 o_ 8 (.bsl 0 2 [(.v (.string ⟨#[]⟩)),(.v (.int .i64 0))] 0 []),
 m_ 5 8])
def b1069_2:AC:=(.region 0 [
 o_ 6 (.mov (.const (.bool false)))])
def b1069_3:AC:=(.seq (.region 0 [
 o_ 7 (.mov (.const (.int .i64 0)))])
 (.block 0 (.loop (.seq (.seq (.region 0 [
 m_ 9 7,
 m_ 10 0,
 o_ 11 (.lenL (t_ 10)),
 o_ 12 (.binI .lss .i64 (t_ 9) (t_ 11))])
 (.cond (t_ 12) .skip (.exit 0)))
 (.seq (.block 1 (.seq (.seq (.dregion 0 [
 m_ 15 0,
 m_ 16 7,
 o_ 17 (.iaddr 2 (t_ 15) (t_ 16)),
 o_ 18 (.faddr 0 (t_ 17)),
 o_ 19 (.load false 1 (t_ 18)),
 o_ 20 (.faddr 0 (t_ 3)),
 o_ 21 (.load false 1 (t_ 20)),
 o_ 22 (.binS .eql (t_ 19) (t_ 21))] [[],[],[0,1],[2],[3],[],[5],[4,6]])
 (.cond (t_ 22) (.seq (.seq (.dregion 0 [
 m_ 23 0,
 m_ 24 7,
 o_ 25 (.iaddr 2 (t_ 23) (t_ 24)),
 o_ 26 (.faddr 1 (t_ 25)),
 o_ 27 (.load false 1 (t_ 26)),
 o_ 28 (.faddr 1 (t_ 3)),
 o_ 29 (.load false 1 (t_ 28)),
 o_ 30 (.binI .gtr .i64 (t_ 27) (t_ 29))] [[],[],[0,1],[2],[3],[],[5],[4,6]])
 (.cond (t_ 30) (.region 0 [
 m_ 31 0,
 m_ 32 7,
 o_ 33 (.iaddr 2 (t_ 31) (t_ 32)),
 o_ 34 (.load true 2 (t_ 33)),
 s_ (.store 2 (t_ 3) (t_ 34))]) .skip))
 (.exit 1)) .skip))
 (.seq (.seq (.dregion 0 [
 m_ 35 0,
 m_ 36 7,
 o_ 37 (.iaddr 2 (t_ 35) (t_ 36)),
 o_ 38 (.faddr 0 (t_ 37)),
 o_ 39 (.load false 1 (t_ 38)),
 o_ 40 (.faddr 0 (t_ 3)),
 o_ 41 (.load false 1 (t_ 40)),
 o_ 42 (.binS .gtr (t_ 39) (t_ 41)),
 m_ 43 42,
 g_ 44 (.mov (t_ 6)) 43 true,
 g_ 45 (.not (t_ 44)) 43 true,
 o_ 46 (.pick (t_ 43) (t_ 45) (.const (.bool false)))] [[],[],[0,1],[2],[3],[],[5],[4,6],[7],[8],[9,8],[8,10]])
 (.cond (t_ 46) (.seq (.region 0 [
 o_ 6 (.mov (.const (.bool true)))])
 (.region 2 [
 m_ 47 5,
 o_ 48 (.load true 2 (t_ 3)),
 o_ 49 (.bsl 0 2 [(.v (.string ⟨#[]⟩)),(.v (.int .i64 0))] 1 [(0,(t_ 48))]),
 o_ 50 (.app 1 2 24 (t_ 47) (t_ 49)),
 m_ 5 50])) .skip))
 (.region 2 [
 m_ 51 5,
 m_ 52 0,
 m_ 53 7,
 o_ 54 (.iaddr 2 (t_ 52) (t_ 53)),
 o_ 55 (.load true 2 (t_ 54)),
 o_ 56 (.bsl 0 2 [(.v (.string ⟨#[]⟩)),(.v (.int .i64 0))] 1 [(0,(t_ 55))]),
 o_ 57 (.app 1 2 24 (t_ 51) (t_ 56)),
 m_ 5 57]))))
 (.region 0 [
 m_ 13 7,
 o_ 14 (.binI .add .i64 (t_ 13) (.const (.int .i64 1))),
 m_ 7 14]))))))
def b1069_4:AC:=(.seq (.region 0 [
 m_ 58 6,
 o_ 59 (.not (t_ 58))])
 (.cond (t_ 59) (.region 2 [
 m_ 60 5,
 o_ 61 (.load true 2 (t_ 3)),
 o_ 62 (.bsl 0 2 [(.v (.string ⟨#[]⟩)),(.v (.int .i64 0))] 1 [(0,(t_ 61))]),
 o_ 63 (.app 1 2 24 (t_ 60) (t_ 62)),
 m_ 5 63]) .skip))
def b1069_5:AC:=(.region 0 [
 m_ 64 5,
 m_ 4 64])
def b1069_6:AC:=.ret
def b1069:AC:=(.seq b1069_0 (.seq b1069_1 (.seq b1069_2 (.seq b1069_3 (.seq b1069_4 (.seq b1069_5 b1069_6))))))
def ir1069:AF:=⟨65,[(.tmp 4)],b1069⟩
theorem c1069:compF tt Tryz.f69=some ir1069:=by kernel_rfl
def b619:AC:=(.seq (.region 0 [
 o_ 4 (.mov (.const (.int .i64 0)))])
 (.seq (.seq (.region 0 [
 m_ 6 0,
 o_ 7 (.lenL (t_ 6)),
 o_ 8 (.mov (.const (.int .i64 0)))])
 (.block 0 (.loop (.seq (.region 0 [
 o_ 9 (.binI .lss .i64 (t_ 8) (t_ 7))])
 (.seq (.cond (t_ 9) .skip (.exit 0))
 (.seq (.block 1 (.seq (.region 0 [
 m_ 10 8,
 m_ 5 10])
 (.seq (.region 0 [
 m_ 11 1,
 m_ 12 0,
 m_ 13 5,
 o_ 14 (.iaddr 2 (t_ 12) (t_ 13)),
 o_ 15 (.load true 2 (t_ 14)),
 o_ 16 (.callv (t_ 11) [(t_ 15)])])
 (.cond (t_ 16) (.seq (.region 0 [
 m_ 17 5,
 m_ 4 17])
 .ret) .skip))))
 (.region 0 [
 o_ 18 (.binI .add .i64 (t_ 8) (.const (.int .i64 1))),
 m_ 8 18])))))))
 (.seq (.region 0 [
 o_ 4 (.mov (.const (.int .i64 (-1))))])
 .ret)))
def ir619:AF:=⟨19,[(.tmp 4)],b619⟩
theorem c619:compF tt Tryz.f70=some ir619:=by kernel_rfl
def b584:AC:=(.seq (.region 0 [
 o_ 6 (.mov (.const (.int .i64 0))),
 o_ 7 (.mov (.const (.bool false)))])
 (.seq (.region 0 [
 m_ 12 0,
 o_ 13 (.lenL (t_ 12)),
 m_ 8 13])
 (.seq (.region 0 [
 m_ 14 8,
 o_ 9 (.mov (.const (.int .i64 0))),
 m_ 10 14])
 (.seq (.block 0 (.loop (.seq (.seq (.region 0 [
 m_ 15 9,
 m_ 16 10,
 o_ 17 (.binI .lss .i64 (t_ 15) (t_ 16))])
 (.cond (t_ 17) .skip (.exit 0)))
 (.block 1 (.seq (.region 0 [
 m_ 18 9,
 m_ 19 10,
 o_ 20 (.binI .add .i64 (t_ 18) (t_ 19)),
 o_ 21 (.conv .u64 (t_ 20)),
 o_ 22 (.shf .shr .u64 (t_ 21) (.const (.int .u64 1))),
 o_ 23 (.conv .i64 (t_ 22)),
 m_ 11 23])
 (.seq (.region 0 [
 m_ 24 2,
 m_ 25 0,
 m_ 26 11,
 o_ 27 (.iaddr 2 (t_ 25) (t_ 26)),
 o_ 28 (.load true 2 (t_ 27)),
 m_ 29 1,
 o_ 30 (.callv (t_ 24) [(t_ 28),(t_ 29)]),
 o_ 31 (.binI .lss .i64 (t_ 30) (.const (.int .i64 0)))])
 (.cond (t_ 31) (.region 0 [
 m_ 32 11,
 o_ 33 (.binI .add .i64 (t_ 32) (.const (.int .i64 1))),
 m_ 9 33]) (.region 0 [
 m_ 34 11,
 m_ 10 34]))))))))
 (.seq (.region 0 [
 m_ 35 9,
 m_ 36 9,
 m_ 37 8,
 o_ 38 (.binI .lss .i64 (t_ 36) (t_ 37)),
 m_ 39 38,
 g_ 40 (.mov (t_ 2)) 39 true,
 g_ 41 (.mov (t_ 0)) 39 true,
 g_ 42 (.mov (t_ 9)) 39 true,
 g_ 43 (.iaddr 2 (t_ 41) (t_ 42)) 39 true,
 g_ 44 (.load true 2 (t_ 43)) 39 true,
 g_ 45 (.mov (t_ 1)) 39 true,
 g_ 46 (.callv (t_ 40) [(t_ 44),(t_ 45)]) 39 true,
 g_ 47 (.binI .eql .i64 (t_ 46) (.const (.int .i64 0))) 39 true,
 o_ 48 (.pick (t_ 39) (t_ 47) (.const (.bool false))),
 m_ 6 35,
 m_ 7 48])
 .ret)))))
def ir584:AF:=⟨49,[(.tmp 6),(.tmp 7)],b584⟩
theorem c584:compF tt Tryz.f71=some ir584:=by kernel_rfl
def b585:AC:=(.seq (.region 1 [
 o_ 2 (.box 0 (t_ 0)),
 o_ 4 (.mov (.const (.int .i64 0)))])
 (.seq (.region 0 [
 o_ 5 (.faddr 0 (t_ 2)),
 o_ 6 (.load false 1 (t_ 5)),
 m_ 7 1,
 o_ 8 (.call 68 [(t_ 6),(t_ 7)]),
 m_ 4 8])
 .ret))
def ir585:AF:=⟨9,[(.tmp 4)],b585⟩
theorem c585:compF tt Tryz.f72=some ir585:=by kernel_rfl
def b1075:AC:=(.seq (.region 1 [
 o_ 1 (.box 0 (t_ 0)),
 o_ 2 (.mov (.const (.bool false)))])
 (.seq (.region 0 [
 o_ 3 (.faddr 0 (t_ 1)),
 o_ 4 (.load false 1 (t_ 3)),
 o_ 5 (.call 52 [(t_ 4)]),
 m_ 6 5,
 g_ 7 (.faddr 1 (t_ 1)) 6 true,
 g_ 8 (.load false 1 (t_ 7)) 6 true,
 g_ 9 (.binI .geq .i64 (t_ 8) (.const (.int .i64 1))) 6 true,
 o_ 10 (.pick (t_ 6) (t_ 9) (.const (.bool false))),
 m_ 11 10,
 g_ 12 (.faddr 1 (t_ 1)) 11 true,
 g_ 13 (.load false 1 (t_ 12)) 11 true,
 g_ 14 (.binI .leq .i64 (t_ 13) (.const (.int .i64 1000000000))) 11 true,
 o_ 15 (.pick (t_ 11) (t_ 14) (.const (.bool false))),
 m_ 2 15])
 .ret))
def ir1075:AF:=⟨16,[(.tmp 2)],b1075⟩
theorem c1075:compF tt Tryz.f75=some ir1075:=by kernel_rfl
def b1076:AC:=(.seq (.region 1 [
 o_ 1 (.box 0 (t_ 0)),
 o_ 2 (.mov (.const (.bool false)))])
 (.seq (.dregion 0 [
 o_ 3 (.load true 3 (t_ 1)),
 o_ 4 (.call 90 [(t_ 3)]),
 o_ 5 (.load true 3 (t_ 1)),
 o_ 6 (.eqA false [.b,.s,.s] (t_ 4) (t_ 5)),
 m_ 7 6,
 g_ 8 (.load true 3 (t_ 1)) 7 true,
 g_ 9 (.call 91 [(t_ 8),(.const (.int .i64 16))]) 7 true,
 o_ 10 (.pick (t_ 7) (t_ 9) (.const (.bool false))),
 m_ 2 10] [[],[0],[],[1,2],[3,1],[4],[5,4,4],[4,6],[7,6,0,1,2,3,4,5,6,7]])
 .ret))
def ir1076:AF:=⟨11,[(.tmp 2)],b1076⟩
theorem c1076:compF tt Tryz.f76=some ir1076:=by kernel_rfl
def b1077:AC:=(.seq (.region 0 [
 o_ 2 (.mov (.const (.bool false)))])
 (.seq (.seq (.region 0 [
 o_ 3 (.mov (.const (.int .i64 0)))])
 (.block 0 (.loop (.seq (.seq (.region 0 [
 m_ 4 3,
 m_ 5 0,
 o_ 6 (.lenS (t_ 5)),
 o_ 7 (.binI .lss .i64 (t_ 4) (t_ 6))])
 (.cond (t_ 7) .skip (.exit 0)))
 (.seq (.block 1 (.seq (.region 0 [
 m_ 10 0,
 m_ 11 3,
 o_ 12 (.index (t_ 10) (t_ 11)),
 o_ 13 (.binI .lss .u8 (t_ 12) (.const (.int .u8 97))),
 m_ 14 13,
 g_ 15 (.mov (t_ 0)) 14 false,
 g_ 16 (.mov (t_ 3)) 14 false,
 g_ 17 (.index (t_ 15) (t_ 16)) 14 false,
 g_ 18 (.binI .gtr .u8 (t_ 17) (.const (.int .u8 122))) 14 false,
 o_ 19 (.pick (t_ 14) (.const (.bool true)) (t_ 18))])
 (.cond (t_ 19) (.seq (.region 0 [
 o_ 2 (.mov (.const (.bool false)))])
 .ret) .skip)))
 (.region 0 [
 m_ 8 3,
 o_ 9 (.binI .add .i64 (t_ 8) (.const (.int .i64 1))),
 m_ 3 9]))))))
 (.seq (.region 0 [
 m_ 20 0,
 o_ 21 (.lenS (t_ 20)),
 o_ 22 (.binI .geq .i64 (t_ 21) (.const (.int .i64 1))),
 m_ 23 22,
 g_ 24 (.mov (t_ 0)) 23 true,
 g_ 25 (.lenS (t_ 24)) 23 true,
 g_ 26 (.binI .leq .i64 (t_ 25) (.const (.int .i64 24))) 23 true,
 o_ 27 (.pick (t_ 23) (t_ 26) (.const (.bool false))),
 m_ 2 27])
 .ret)))
def ir1077:AF:=⟨28,[(.tmp 2)],b1077⟩
theorem c1077:compF tt Tryz.f77=some ir1077:=by kernel_rfl
def b1078:AC:=(.seq (.region 1 [
 o_ 0 (.zero 0 [(.v (.string ⟨#[]⟩)),(.v (.int .i64 0))])])
 (.seq (.region 0 [
 o_ 1 (.build [(.v (.string ⟨#[]⟩)),(.v (.int .i64 0))] [(0,(1,(.const (.string ⟨#[45]⟩))))]),
 s_ (.store 2 (t_ 0) (t_ 1))])
 .ret))
def ir1078:AF:=⟨2,[(.cell 0 true 2)],b1078⟩
theorem c1078:compF tt Tryz.f78=some ir1078:=by kernel_rfl
def b1079:AC:=(.seq (.region 0 [
 o_ 4 (.mov (.const (.bool false)))])
 (.seq (.region 0 [
 m_ 9 1,
 o_ 10 (.call 92 [(t_ 9)]),
 m_ 8 10,
 o_ 11 (.ext (t_ 8) 0),
 o_ 12 (.ext (t_ 8) 1),
 m_ 5 11,
 m_ 6 12])
 (.seq (.seq (.region 0 [
 m_ 13 5,
 o_ 14 (.lenL (t_ 13)),
 o_ 15 (.mov (.const (.int .i64 0)))])
 (.block 0 (.loop (.seq (.region 0 [
 o_ 16 (.binI .lss .i64 (t_ 15) (t_ 14))])
 (.seq (.cond (t_ 16) .skip (.exit 0))
 (.seq (.block 1 (.seq (.region 0 [
 m_ 17 15,
 m_ 7 17])
 (.seq (.region 0 [
 m_ 18 5,
 m_ 19 7,
 o_ 20 (.iaddr 1 (t_ 18) (t_ 19)),
 o_ 21 (.load false 1 (t_ 20)),
 m_ 22 0,
 o_ 23 (.binS .eql (t_ 21) (t_ 22))])
 (.cond (t_ 23) (.seq (.region 0 [
 o_ 4 (.mov (.const (.bool false)))])
 .ret) .skip))))
 (.region 0 [
 o_ 24 (.binI .add .i64 (t_ 15) (.const (.int .i64 1))),
 m_ 15 24])))))))
 (.seq (.region 0 [
 m_ 25 6,
 m_ 4 25])
 .ret))))
def ir1079:AF:=⟨26,[(.tmp 4)],b1079⟩
theorem c1079:compF tt Tryz.f79=some ir1079:=by kernel_rfl
def b1080:AC:=(.seq (.region 2 [
 o_ 1 (.box 0 (t_ 0)),
 o_ 2 (.zero 1 [(.v (.string ⟨#[]⟩)),(.v (.int .i64 0)),(.v (.string ⟨#[]⟩)),(.v (.int .i64 0)),(.v (.string ⟨#[]⟩)),(.v (.int .i64 0)),(.v (.bool false)),(.v (.string ⟨#[]⟩)),(.v (.string ⟨#[]⟩)),(.v (.string ⟨#[]⟩)),(.v (.string ⟨#[]⟩)),(.v (.string ⟨#[]⟩))])])
 (.seq (.region 0 [
 o_ 3 (.faddr 6 (t_ 1)),
 o_ 4 (.load true 2 (t_ 3)),
 o_ 5 (.faddr 8 (t_ 1)),
 o_ 6 (.load true 2 (t_ 5)),
 o_ 7 (.faddr 15 (t_ 1)),
 o_ 8 (.load true 2 (t_ 7)),
 o_ 9 (.faddr 10 (t_ 1)),
 o_ 10 (.load true 3 (t_ 9)),
 o_ 11 (.faddr 13 (t_ 1)),
 o_ 12 (.load false 1 (t_ 11)),
 o_ 13 (.faddr 14 (t_ 1)),
 o_ 14 (.load false 1 (t_ 13)),
 o_ 15 (.faddr 17 (t_ 1)),
 o_ 16 (.load false 1 (t_ 15)),
 o_ 17 (.build [(.v (.string ⟨#[]⟩)),(.v (.int .i64 0)),(.v (.string ⟨#[]⟩)),(.v (.int .i64 0)),(.v (.string ⟨#[]⟩)),(.v (.int .i64 0)),(.v (.bool false)),(.v (.string ⟨#[]⟩)),(.v (.string ⟨#[]⟩)),(.v (.string ⟨#[]⟩)),(.v (.string ⟨#[]⟩)),(.v (.string ⟨#[]⟩))] [(0,(2,(t_ 4))),(2,(2,(t_ 6))),(4,(2,(t_ 8))),(6,(3,(t_ 10))),(9,(1,(t_ 12))),(10,(1,(t_ 14))),(11,(1,(t_ 16)))]),
 s_ (.store 12 (t_ 2) (t_ 17))])
 .ret))
def ir1080:AF:=⟨18,[(.cell 2 true 12)],b1080⟩
theorem c1080:compF tt Tryz.f80=some ir1080:=by kernel_rfl
def b1081:AC:=(.seq (.region 1 [
 o_ 1 (.box 0 (t_ 0)),
 o_ 2 (.mov (.const (.bool false)))])
 (.seq (.region 0 [
 o_ 3 (.load true 2 (t_ 1)),
 o_ 4 (.build [(.v (.string ⟨#[]⟩)),(.v (.int .i64 0))] []),
 o_ 5 (.eqA false [.s,(.i .i64)] (t_ 3) (t_ 4)),
 m_ 6 5,
 g_ 7 (.load true 2 (t_ 1)) 6 false,
 g_ 8 (.call 58 [(t_ 7)]) 6 false,
 o_ 9 (.pick (t_ 6) (.const (.bool true)) (t_ 8)),
 m_ 2 9])
 .ret))
def ir1081:AF:=⟨10,[(.tmp 2)],b1081⟩
theorem c1081:compF tt Tryz.f81=some ir1081:=by kernel_rfl
def b1082:AC:=(.seq (.region 1 [
 o_ 1 (.box 0 (t_ 0)),
 o_ 2 (.mov (.const (.bool false)))])
 (.seq (.dregion 0 [
 o_ 3 (.load true 3 (t_ 1)),
 o_ 4 (.call 93 [(t_ 3)]),
 o_ 5 (.load true 3 (t_ 1)),
 o_ 6 (.eqA false [.b,.s,.s] (t_ 4) (t_ 5)),
 m_ 7 6,
 g_ 8 (.load true 3 (t_ 1)) 7 true,
 g_ 9 (.call 94 [(t_ 8),(.const (.int .i64 16))]) 7 true,
 o_ 10 (.pick (t_ 7) (t_ 9) (.const (.bool false))),
 m_ 2 10] [[],[0],[],[1,2],[3,1],[4],[5,4,4],[4,6],[7,6,0,1,2,3,4,5,6,7]])
 .ret))
def ir1082:AF:=⟨11,[(.tmp 2)],b1082⟩
theorem c1082:compF tt Tryz.f82=some ir1082:=by kernel_rfl
def b1083:AC:=(.seq (.region 0 [
 o_ 2 (.mov (.const (.bool false)))])
 (.seq (.region 0 [
 m_ 3 0,
 o_ 4 (.binS .neq (t_ 3) (.const (.string ⟨#[]⟩))),
 m_ 5 4,
 g_ 6 (.mov (t_ 0)) 5 true,
 g_ 7 (.lenS (t_ 6)) 5 true,
 g_ 8 (.binI .leq .i64 (t_ 7) (.const (.int .i64 24))) 5 true,
 o_ 9 (.pick (t_ 5) (t_ 8) (.const (.bool false))),
 m_ 10 9,
 g_ 11 (.mov (t_ 0)) 10 true,
 g_ 12 (.call 95 [(t_ 11),(.const (.string ⟨#[97,98,99,100,101,102,103,104,105,106,107,108,109,110,111,112,113,114,115,116,117,118,119,120,121,122]⟩))]) 10 true,
 g_ 13 (.binS .eql (t_ 12) (.const (.string ⟨#[]⟩))) 10 true,
 o_ 14 (.pick (t_ 10) (t_ 13) (.const (.bool false))),
 m_ 2 14])
 .ret))
def ir1083:AF:=⟨15,[(.tmp 2)],b1083⟩
theorem c1083:compF tt Tryz.f83=some ir1083:=by kernel_rfl
def b1084:AC:=(.seq (.region 0 [
 o_ 4 (.mov (.const (.bool false)))])
 (.seq (.region 0 [
 m_ 8 1,
 o_ 9 (.call 96 [(t_ 8),(.const (.string ⟨#[44]⟩))]),
 m_ 5 9])
 (.seq (.seq (.region 0 [
 m_ 10 5,
 o_ 11 (.lenL (t_ 10)),
 o_ 12 (.mov (.const (.int .i64 0)))])
 (.block 0 (.loop (.seq (.region 0 [
 o_ 13 (.binI .lss .i64 (t_ 12) (t_ 11))])
 (.seq (.cond (t_ 13) .skip (.exit 0))
 (.seq (.block 1 (.seq (.region 0 [
 m_ 14 12,
 o_ 15 (.iaddr 1 (t_ 10) (t_ 12)),
 o_ 16 (.load false 1 (t_ 15)),
 m_ 6 14,
 m_ 7 16])
 (.seq (.region 0 [
 m_ 17 7,
 o_ 18 (.call 57 [(t_ 17)]),
 o_ 19 (.not (t_ 18)),
 m_ 20 19,
 g_ 21 (.mov (t_ 7)) 20 false,
 g_ 22 (.mov (t_ 0)) 20 false,
 g_ 23 (.binS .eql (t_ 21) (t_ 22)) 20 false,
 o_ 24 (.pick (t_ 20) (.const (.bool true)) (t_ 23)),
 m_ 25 24,
 g_ 26 (.mov (t_ 6)) 25 false,
 g_ 27 (.binI .gtr .i64 (t_ 26) (.const (.int .i64 0))) 25 false,
 g_ 28 (.mov (t_ 27)) 25 false,
 g_ 29 (.mov (t_ 5)) 28 true,
 g_ 30 (.mov (t_ 6)) 28 true,
 g_ 31 (.binI .sub .i64 (t_ 30) (.const (.int .i64 1))) 28 true,
 g_ 32 (.iaddr 1 (t_ 29) (t_ 31)) 28 true,
 g_ 33 (.load false 1 (t_ 32)) 28 true,
 g_ 34 (.mov (t_ 7)) 28 true,
 g_ 35 (.binS .geq (t_ 33) (t_ 34)) 28 true,
 g_ 36 (.pick (t_ 28) (t_ 35) (.const (.bool false))) 25 false,
 o_ 37 (.pick (t_ 25) (.const (.bool true)) (t_ 36))])
 (.cond (t_ 37) (.seq (.region 0 [
 o_ 4 (.mov (.const (.bool false)))])
 .ret) .skip))))
 (.region 0 [
 o_ 38 (.binI .add .i64 (t_ 12) (.const (.int .i64 1))),
 m_ 12 38])))))))
 (.seq (.region 0 [
 o_ 4 (.mov (.const (.bool true)))])
 .ret))))
def ir1084:AF:=⟨39,[(.tmp 4)],b1084⟩
theorem c1084:compF tt Tryz.f84=some ir1084:=by kernel_rfl
def b77:AC:=(.seq (.region 0 [
 m_ 10 1,
 o_ 11 (.binI .add .i64 (t_ 10) (.const (.int .i64 1))),
 m_ 8 11])
 (.block 0 (.loop (.seq (.seq (.region 0 [
 m_ 12 8,
 m_ 13 2,
 o_ 14 (.binI .lss .i64 (t_ 12) (t_ 13))])
 (.cond (t_ 14) .skip (.exit 0)))
 (.seq (.block 1 (.seq (.region 0 [
 m_ 17 8,
 m_ 9 17])
 (.block 2 (.loop (.seq (.seq (.dregion 0 [
 m_ 18 9,
 m_ 19 1,
 o_ 20 (.binI .gtr .i64 (t_ 18) (t_ 19)),
 m_ 21 20,
 g_ 22 (.mov (t_ 3)) 21 true,
 g_ 23 (.mov (t_ 0)) 21 true,
 g_ 24 (.mov (t_ 9)) 21 true,
 g_ 25 (.iaddr 18 (t_ 23) (t_ 24)) 21 true,
 g_ 26 (.load true 18 (t_ 25)) 21 true,
 g_ 27 (.mov (t_ 0)) 21 true,
 g_ 28 (.mov (t_ 9)) 21 true,
 g_ 29 (.binI .sub .i64 (t_ 28) (.const (.int .i64 1))) 21 true,
 g_ 30 (.iaddr 18 (t_ 27) (t_ 29)) 21 true,
 g_ 31 (.load true 18 (t_ 30)) 21 true,
 g_ 32 (.callv (t_ 22) [(t_ 26),(t_ 31)]) 21 true,
 g_ 33 (.binI .lss .i64 (t_ 32) (.const (.int .i64 0))) 21 true,
 o_ 34 (.pick (t_ 21) (t_ 33) (.const (.bool false)))] [[],[],[0,1],[2],[3],[3],[3],[5,6,3],[7,3],[3],[3],[10,3],[9,11,3],[12,3],[4,8,13,3,3],[14,3],[3,15]])
 (.cond (t_ 34) .skip (.exit 2)))
 (.seq (.block 3 (.dregion 0 [
 m_ 37 0,
 m_ 38 9,
 m_ 39 0,
 m_ 40 9,
 o_ 41 (.binI .sub .i64 (t_ 40) (.const (.int .i64 1))),
 m_ 42 0,
 m_ 43 9,
 o_ 44 (.binI .sub .i64 (t_ 43) (.const (.int .i64 1))),
 o_ 45 (.iaddr 18 (t_ 42) (t_ 44)),
 o_ 46 (.load true 18 (t_ 45)),
 m_ 47 0,
 m_ 48 9,
 o_ 49 (.iaddr 18 (t_ 47) (t_ 48)),
 o_ 50 (.load true 18 (t_ 49)),
 o_ 51 (.iaddr 18 (t_ 37) (t_ 38)),
 s_ (.store 18 (t_ 51) (t_ 46)),
 o_ 52 (.iaddr 18 (t_ 39) (t_ 41)),
 s_ (.store 18 (t_ 52) (t_ 50))] [[],[],[],[],[3],[],[],[6],[5,7],[8],[],[],[10,11],[12],[0,1,0,1,5,6,7,8,9,13],[14,9,0,1,5,6,7,8,9,13],[2,4,0,1,2,3,4,5,6,7,8,9,10,11,12,13,14,15],[16,13,15,0,1,2,3,4,5,6,7,8,9,10,11,12,13,14,15]]))
 (.region 0 [
 m_ 35 9,
 o_ 36 (.binI .sub .i64 (t_ 35) (.const (.int .i64 1))),
 m_ 9 36])))))))
 (.region 0 [
 m_ 15 8,
 o_ 16 (.binI .add .i64 (t_ 15) (.const (.int .i64 1))),
 m_ 8 16]))))))
def ir77:AF:=⟨53,[],b77⟩
theorem c77:compF tt Tryz.f85=some ir77:=by kernel_rfl
def b78_0:AC:=(.seq (.region 0 [
 m_ 25 2,
 m_ 26 1,
 o_ 27 (.binI .sub .i64 (t_ 25) (t_ 26)),
 o_ 28 (.binI .eql .i64 (t_ 27) (.const (.int .i64 1)))])
 (.cond (t_ 28) (.seq (.region 0 [
 m_ 29 2,
 m_ 10 29])
 (.seq (.region 0 [
 m_ 30 3,
 m_ 11 30])
 (.seq (.block 0 (.loop (.seq (.seq (.region 0 [
 m_ 31 10,
 m_ 32 11,
 o_ 33 (.binI .lss .i64 (t_ 31) (t_ 32))])
 (.cond (t_ 33) .skip (.exit 0)))
 (.block 1 (.seq (.region 0 [
 m_ 34 10,
 m_ 35 11,
 o_ 36 (.binI .add .i64 (t_ 34) (t_ 35)),
 o_ 37 (.conv .u64 (t_ 36)),
 o_ 38 (.shf .shr .u64 (t_ 37) (.const (.int .u64 1))),
 o_ 39 (.conv .i64 (t_ 38)),
 m_ 12 39])
 (.seq (.dregion 0 [
 m_ 40 4,
 m_ 41 0,
 m_ 42 12,
 o_ 43 (.iaddr 18 (t_ 41) (t_ 42)),
 o_ 44 (.load true 18 (t_ 43)),
 m_ 45 0,
 m_ 46 1,
 o_ 47 (.iaddr 18 (t_ 45) (t_ 46)),
 o_ 48 (.load true 18 (t_ 47)),
 o_ 49 (.callv (t_ 40) [(t_ 44),(t_ 48)]),
 o_ 50 (.binI .lss .i64 (t_ 49) (.const (.int .i64 0)))] [[],[],[],[1,2],[3],[],[],[5,6],[7],[0,4,8],[9]])
 (.cond (t_ 50) (.region 0 [
 m_ 51 12,
 o_ 52 (.binI .add .i64 (t_ 51) (.const (.int .i64 1))),
 m_ 10 52]) (.region 0 [
 m_ 53 12,
 m_ 11 53]))))))))
 (.seq (.seq (.region 0 [
 m_ 54 1,
 m_ 13 54])
 (.block 2 (.loop (.seq (.seq (.region 0 [
 m_ 55 13,
 m_ 56 10,
 o_ 57 (.binI .sub .i64 (t_ 56) (.const (.int .i64 1))),
 o_ 58 (.binI .lss .i64 (t_ 55) (t_ 57))])
 (.cond (t_ 58) .skip (.exit 2)))
 (.seq (.block 3 (.dregion 0 [
 m_ 61 0,
 m_ 62 13,
 m_ 63 0,
 m_ 64 13,
 o_ 65 (.binI .add .i64 (t_ 64) (.const (.int .i64 1))),
 m_ 66 0,
 m_ 67 13,
 o_ 68 (.binI .add .i64 (t_ 67) (.const (.int .i64 1))),
 o_ 69 (.iaddr 18 (t_ 66) (t_ 68)),
 o_ 70 (.load true 18 (t_ 69)),
 m_ 71 0,
 m_ 72 13,
 o_ 73 (.iaddr 18 (t_ 71) (t_ 72)),
 o_ 74 (.load true 18 (t_ 73)),
 o_ 75 (.iaddr 18 (t_ 61) (t_ 62)),
 s_ (.store 18 (t_ 75) (t_ 70)),
 o_ 76 (.iaddr 18 (t_ 63) (t_ 65)),
 s_ (.store 18 (t_ 76) (t_ 74))] [[],[],[],[],[3],[],[],[6],[5,7],[8],[],[],[10,11],[12],[0,1,0,1,5,6,7,8,9,13],[14,9,0,1,5,6,7,8,9,13],[2,4,0,1,2,3,4,5,6,7,8,9,10,11,12,13,14,15],[16,13,15,0,1,2,3,4,5,6,7,8,9,10,11,12,13,14,15]]))
 (.region 0 [
 m_ 59 13,
 o_ 60 (.binI .add .i64 (t_ 59) (.const (.int .i64 1))),
 m_ 13 60]))))))
 .ret)))) .skip))
def b78_1:AC:=(.seq (.region 0 [
 m_ 77 3,
 m_ 78 2,
 o_ 79 (.binI .sub .i64 (t_ 77) (t_ 78)),
 o_ 80 (.binI .eql .i64 (t_ 79) (.const (.int .i64 1)))])
 (.cond (t_ 80) (.seq (.region 0 [
 m_ 81 1,
 m_ 14 81])
 (.seq (.region 0 [
 m_ 82 2,
 m_ 15 82])
 (.seq (.block 4 (.loop (.seq (.seq (.region 0 [
 m_ 83 14,
 m_ 84 15,
 o_ 85 (.binI .lss .i64 (t_ 83) (t_ 84))])
 (.cond (t_ 85) .skip (.exit 4)))
 (.block 5 (.seq (.region 0 [
 m_ 86 14,
 m_ 87 15,
 o_ 88 (.binI .add .i64 (t_ 86) (t_ 87)),
 o_ 89 (.conv .u64 (t_ 88)),
 o_ 90 (.shf .shr .u64 (t_ 89) (.const (.int .u64 1))),
 o_ 91 (.conv .i64 (t_ 90)),
 m_ 16 91])
 (.seq (.dregion 0 [
 m_ 92 4,
 m_ 93 0,
 m_ 94 2,
 o_ 95 (.iaddr 18 (t_ 93) (t_ 94)),
 o_ 96 (.load true 18 (t_ 95)),
 m_ 97 0,
 m_ 98 16,
 o_ 99 (.iaddr 18 (t_ 97) (t_ 98)),
 o_ 100 (.load true 18 (t_ 99)),
 o_ 101 (.callv (t_ 92) [(t_ 96),(t_ 100)]),
 o_ 102 (.binI .lss .i64 (t_ 101) (.const (.int .i64 0))),
 o_ 103 (.not (t_ 102))] [[],[],[],[1,2],[3],[],[],[5,6],[7],[0,4,8],[9],[10]])
 (.cond (t_ 103) (.region 0 [
 m_ 104 16,
 o_ 105 (.binI .add .i64 (t_ 104) (.const (.int .i64 1))),
 m_ 14 105]) (.region 0 [
 m_ 106 16,
 m_ 15 106]))))))))
 (.seq (.seq (.region 0 [
 m_ 107 2,
 m_ 17 107])
 (.block 6 (.loop (.seq (.seq (.region 0 [
 m_ 108 17,
 m_ 109 14,
 o_ 110 (.binI .gtr .i64 (t_ 108) (t_ 109))])
 (.cond (t_ 110) .skip (.exit 6)))
 (.seq (.block 7 (.dregion 0 [
 m_ 113 0,
 m_ 114 17,
 m_ 115 0,
 m_ 116 17,
 o_ 117 (.binI .sub .i64 (t_ 116) (.const (.int .i64 1))),
 m_ 118 0,
 m_ 119 17,
 o_ 120 (.binI .sub .i64 (t_ 119) (.const (.int .i64 1))),
 o_ 121 (.iaddr 18 (t_ 118) (t_ 120)),
 o_ 122 (.load true 18 (t_ 121)),
 m_ 123 0,
 m_ 124 17,
 o_ 125 (.iaddr 18 (t_ 123) (t_ 124)),
 o_ 126 (.load true 18 (t_ 125)),
 o_ 127 (.iaddr 18 (t_ 113) (t_ 114)),
 s_ (.store 18 (t_ 127) (t_ 122)),
 o_ 128 (.iaddr 18 (t_ 115) (t_ 117)),
 s_ (.store 18 (t_ 128) (t_ 126))] [[],[],[],[],[3],[],[],[6],[5,7],[8],[],[],[10,11],[12],[0,1,0,1,5,6,7,8,9,13],[14,9,0,1,5,6,7,8,9,13],[2,4,0,1,2,3,4,5,6,7,8,9,10,11,12,13,14,15],[16,13,15,0,1,2,3,4,5,6,7,8,9,10,11,12,13,14,15]]))
 (.region 0 [
 m_ 111 17,
 o_ 112 (.binI .sub .i64 (t_ 111) (.const (.int .i64 1))),
 m_ 17 112]))))))
 .ret)))) .skip))
def b78_2:AC:=(.region 0 [
 m_ 129 1,
 m_ 130 3,
 o_ 131 (.binI .add .i64 (t_ 129) (t_ 130)),
 o_ 132 (.conv .u64 (t_ 131)),
 o_ 133 (.shf .shr .u64 (t_ 132) (.const (.int .u64 1))),
 o_ 134 (.conv .i64 (t_ 133)),
 m_ 18 134])
def b78_3:AC:=(.region 0 [
 m_ 135 18,
 m_ 136 2,
 o_ 137 (.binI .add .i64 (t_ 135) (t_ 136)),
 m_ 19 137])
def b78_4:AC:=(.region 0 [
 o_ 20 (.mov (.const (.int .i64 0))),
 o_ 21 (.mov (.const (.int .i64 0)))])
def b78_5:AC:=(.seq (.region 0 [
 m_ 138 2,
 m_ 139 18,
 o_ 140 (.binI .gtr .i64 (t_ 138) (t_ 139))])
 (.cond (t_ 140) (.seq (.region 0 [
 m_ 141 19,
 m_ 142 3,
 o_ 143 (.binI .sub .i64 (t_ 141) (t_ 142)),
 m_ 20 143])
 (.region 0 [
 m_ 144 18,
 m_ 21 144])) (.seq (.region 0 [
 m_ 145 1,
 m_ 20 145])
 (.region 0 [
 m_ 146 2,
 m_ 21 146]))))
def b78_6:AC:=(.region 0 [
 m_ 147 19,
 o_ 148 (.binI .sub .i64 (t_ 147) (.const (.int .i64 1))),
 m_ 22 148])
def b78_7:AC:=(.block 8 (.loop (.seq (.seq (.region 0 [
 m_ 149 20,
 m_ 150 21,
 o_ 151 (.binI .lss .i64 (t_ 149) (t_ 150))])
 (.cond (t_ 151) .skip (.exit 8)))
 (.block 9 (.seq (.region 0 [
 m_ 152 20,
 m_ 153 21,
 o_ 154 (.binI .add .i64 (t_ 152) (t_ 153)),
 o_ 155 (.conv .u64 (t_ 154)),
 o_ 156 (.shf .shr .u64 (t_ 155) (.const (.int .u64 1))),
 o_ 157 (.conv .i64 (t_ 156)),
 m_ 23 157])
 (.seq (.dregion 0 [
 m_ 158 4,
 m_ 159 0,
 m_ 160 22,
 m_ 161 23,
 o_ 162 (.binI .sub .i64 (t_ 160) (t_ 161)),
 o_ 163 (.iaddr 18 (t_ 159) (t_ 162)),
 o_ 164 (.load true 18 (t_ 163)),
 m_ 165 0,
 m_ 166 23,
 o_ 167 (.iaddr 18 (t_ 165) (t_ 166)),
 o_ 168 (.load true 18 (t_ 167)),
 o_ 169 (.callv (t_ 158) [(t_ 164),(t_ 168)]),
 o_ 170 (.binI .lss .i64 (t_ 169) (.const (.int .i64 0))),
 o_ 171 (.not (t_ 170))] [[],[],[],[],[2,3],[1,4],[5],[],[],[7,8],[9],[0,6,10],[11],[12]])
 (.cond (t_ 171) (.region 0 [
 m_ 172 23,
 o_ 173 (.binI .add .i64 (t_ 172) (.const (.int .i64 1))),
 m_ 20 173]) (.region 0 [
 m_ 174 23,
 m_ 21 174]))))))))
def b78_8:AC:=(.region 0 [
 m_ 175 19,
 m_ 176 20,
 o_ 177 (.binI .sub .i64 (t_ 175) (t_ 176)),
 m_ 24 177])
def b78_9:AC:=(.seq (.region 0 [
 m_ 178 20,
 m_ 179 2,
 o_ 180 (.binI .lss .i64 (t_ 178) (t_ 179)),
 m_ 181 180,
 g_ 182 (.mov (t_ 2)) 181 true,
 g_ 183 (.mov (t_ 24)) 181 true,
 g_ 184 (.binI .lss .i64 (t_ 182) (t_ 183)) 181 true,
 o_ 185 (.pick (t_ 181) (t_ 184) (.const (.bool false)))])
 (.cond (t_ 185) (.region 0 [
 m_ 186 0,
 m_ 187 20,
 m_ 188 2,
 m_ 189 24,
 m_ 190 4,
 o_ 191 (.call 97 [(t_ 186),(t_ 187),(t_ 188),(t_ 189),(t_ 190)])]) .skip))
def b78_10:AC:=(.seq (.region 0 [
 m_ 192 1,
 m_ 193 20,
 o_ 194 (.binI .lss .i64 (t_ 192) (t_ 193)),
 m_ 195 194,
 g_ 196 (.mov (t_ 20)) 195 true,
 g_ 197 (.mov (t_ 18)) 195 true,
 g_ 198 (.binI .lss .i64 (t_ 196) (t_ 197)) 195 true,
 o_ 199 (.pick (t_ 195) (t_ 198) (.const (.bool false)))])
 (.cond (t_ 199) (.region 0 [
 m_ 200 0,
 m_ 201 1,
 m_ 202 20,
 m_ 203 18,
 m_ 204 4,
 o_ 205 (.call 86 [(t_ 200),(t_ 201),(t_ 202),(t_ 203),(t_ 204)])]) .skip))
def b78_11:AC:=(.region 0 [
 m_ 206 18,
 m_ 207 24,
 o_ 208 (.binI .lss .i64 (t_ 206) (t_ 207)),
 m_ 209 208,
 g_ 210 (.mov (t_ 24)) 209 true,
 g_ 211 (.mov (t_ 3)) 209 true,
 g_ 212 (.binI .lss .i64 (t_ 210) (t_ 211)) 209 true,
 o_ 213 (.pick (t_ 209) (t_ 212) (.const (.bool false)))])
def b78_12:AC:=(.cond (t_ 213) (.region 0 [
 m_ 214 0,
 m_ 215 18,
 m_ 216 24,
 m_ 217 3,
 m_ 218 4,
 o_ 219 (.call 86 [(t_ 214),(t_ 215),(t_ 216),(t_ 217),(t_ 218)])]) .skip)
def b78:AC:=(.seq b78_0 (.seq b78_1 (.seq b78_2 (.seq b78_3 (.seq b78_4 (.seq b78_5 (.seq b78_6 (.seq b78_7 (.seq b78_8 (.seq b78_9 (.seq b78_10 (.seq b78_11 b78_12))))))))))))
def ir78:AF:=⟨220,[],b78⟩
theorem c78:compF tt Tryz.f86=some ir78:=by kernel_rfl
def b65:AC:=(.seq (.region 0 [
 o_ 2 (.mov (.const (.bool false)))])
 (.seq (.region 0 [
 m_ 3 0,
 m_ 4 0,
 o_ 5 (.binI .neq .i64 (t_ 3) (t_ 4)),
 m_ 2 5])
 .ret))
def ir65:AF:=⟨6,[(.tmp 2)],b65⟩
theorem c65:compF tt Tryz.f87=some ir65:=by kernel_rfl
def b1090:AC:=(.seq (.region 2 [
 o_ 1 (.box 0 (t_ 0)),
 o_ 2 (.zero 1 [(.v (.bool false)),(.v (.string ⟨#[]⟩)),(.v (.string ⟨#[]⟩))])])
 (.seq (.dregion 1 [
 o_ 6 (.load true 3 (t_ 1)),
 o_ 7 (.call 101 [(t_ 6)]),
 o_ 8 (.load true 3 (t_ 1)),
 o_ 9 (.call 102 [(t_ 8)]),
 o_ 10 (.call 100 [(t_ 7),(t_ 9)]),
 m_ 5 10,
 o_ 11 (.ext (t_ 5) 0),
 o_ 12 (.ext (t_ 5) 1),
 o_ 3 (.zero 0 [(.v (.bool false)),(.v (.string ⟨#[]⟩)),(.v (.string ⟨#[]⟩))]),
 s_ (.store 3 (t_ 3) (t_ 11)),
 m_ 4 12] [[],[0],[],[2,1],[1,3,3],[4],[5],[5],[],[8,6,4,0,1,2,3,4,5,6,8],[7,9,0,1,2,3,4,5,6,7,8,9]])
 (.seq (.region 0 [
 o_ 13 (.load true 3 (t_ 3)),
 s_ (.store 3 (t_ 2) (t_ 13))])
 .ret)))
def ir1090:AF:=⟨14,[(.cell 2 true 3)],b1090⟩
theorem c1090:compF tt Tryz.f90=some ir1090:=by kernel_rfl
def b1091:AC:=(.seq (.region 1 [
 o_ 2 (.box 0 (t_ 0)),
 o_ 4 (.mov (.const (.bool false)))])
 (.seq (.region 1 [
 o_ 6 (.load true 3 (t_ 2)),
 o_ 7 (.call 90 [(t_ 6)]),
 o_ 5 (.zero 0 [(.v (.bool false)),(.v (.string ⟨#[]⟩)),(.v (.string ⟨#[]⟩))]),
 s_ (.store 3 (t_ 5) (t_ 7))])
 (.seq (.region 0 [
 o_ 8 (.faddr 1 (t_ 5)),
 o_ 9 (.load false 1 (t_ 8)),
 o_ 10 (.lenS (t_ 9)),
 m_ 11 1,
 o_ 12 (.binI .leq .i64 (t_ 10) (t_ 11)),
 m_ 13 12,
 g_ 14 (.faddr 2 (t_ 5)) 13 true,
 g_ 15 (.load false 1 (t_ 14)) 13 true,
 g_ 16 (.lenS (t_ 15)) 13 true,
 g_ 17 (.mov (t_ 1)) 13 true,
 g_ 18 (.binI .leq .i64 (t_ 16) (t_ 17)) 13 true,
 o_ 19 (.pick (t_ 13) (t_ 18) (.const (.bool false))),
 m_ 4 19])
 .ret)))
def ir1091:AF:=⟨20,[(.tmp 4)],b1091⟩
theorem c1091:compF tt Tryz.f91=some ir1091:=by kernel_rfl
def b1092_0:AC:=(.region 0 [
 o_ 2 (.mov (.const (.slice none 0 0))),
 o_ 3 (.mov (.const (.bool false)))])
def b1092_1:AC:=(.region 1 [
 o_ 8 (.bsl 0 1 [(.v (.string ⟨#[]⟩))] 0 []),
 m_ 4 8])
def b1092_2:AC:=(.region 0 [
 o_ 5 (.mov (.const (.int .i64 0)))])
def b1092_3:AC:=(.seq (.region 0 [
 o_ 6 (.mov (.const (.int .i64 0)))])
 (.block 0 (.loop (.seq (.seq (.region 0 [
 m_ 9 6,
 m_ 10 0,
 o_ 11 (.lenS (t_ 10)),
 o_ 12 (.binI .leq .i64 (t_ 9) (t_ 11))])
 (.cond (t_ 12) .skip (.exit 0)))
 (.seq (.block 1 (.seq (.seq (.region 0 [
 m_ 15 6,
 m_ 16 0,
 o_ 17 (.lenS (t_ 16)),
 o_ 18 (.binI .lss .i64 (t_ 15) (t_ 17)),
 m_ 19 18,
 g_ 20 (.mov (t_ 0)) 19 true,
 g_ 21 (.mov (t_ 6)) 19 true,
 g_ 22 (.index (t_ 20) (t_ 21)) 19 true,
 g_ 23 (.binI .neq .u8 (t_ 22) (.const (.int .u8 44))) 19 true,
 o_ 24 (.pick (t_ 19) (t_ 23) (.const (.bool false)))])
 (.cond (t_ 24) (.exit 1) .skip))
 (.seq (.region 0 [
 m_ 25 0,
 m_ 26 5,
 m_ 27 6,
 o_ 28 (.sliceS (t_ 25) (some (t_ 26)) (some (t_ 27))),
 m_ 7 28])
 (.seq (.seq (.region 0 [
 m_ 29 7,
 o_ 30 (.call 52 [(t_ 29)]),
 o_ 31 (.not (t_ 30)),
 m_ 32 31,
 g_ 33 (.mov (t_ 4)) 32 false,
 g_ 34 (.lenL (t_ 33)) 32 false,
 g_ 35 (.binI .gtr .i64 (t_ 34) (.const (.int .i64 0))) 32 false,
 g_ 36 (.mov (t_ 35)) 32 false,
 g_ 37 (.mov (t_ 4)) 36 true,
 g_ 38 (.mov (t_ 4)) 36 true,
 g_ 39 (.lenL (t_ 38)) 36 true,
 g_ 40 (.binI .sub .i64 (t_ 39) (.const (.int .i64 1))) 36 true,
 g_ 41 (.iaddr 1 (t_ 37) (t_ 40)) 36 true,
 g_ 42 (.load false 1 (t_ 41)) 36 true,
 g_ 43 (.mov (t_ 7)) 36 true,
 g_ 44 (.binS .geq (t_ 42) (t_ 43)) 36 true,
 g_ 45 (.pick (t_ 36) (t_ 44) (.const (.bool false))) 32 false,
 o_ 46 (.pick (t_ 32) (.const (.bool true)) (t_ 45))])
 (.cond (t_ 46) (.seq (.region 1 [
 o_ 47 (.bsl 0 1 [(.v (.string ⟨#[]⟩))] 0 []),
 m_ 2 47,
 o_ 3 (.mov (.const (.bool false)))])
 .ret) .skip))
 (.seq (.region 2 [
 m_ 48 4,
 m_ 49 7,
 o_ 50 (.bsl 0 1 [(.v (.string ⟨#[]⟩))] 1 [(0,(t_ 49))]),
 o_ 51 (.app 1 1 16 (t_ 48) (t_ 50)),
 m_ 4 51])
 (.region 0 [
 m_ 52 6,
 o_ 53 (.binI .add .i64 (t_ 52) (.const (.int .i64 1))),
 m_ 5 53]))))))
 (.region 0 [
 m_ 13 6,
 o_ 14 (.binI .add .i64 (t_ 13) (.const (.int .i64 1))),
 m_ 6 14]))))))
def b1092_4:AC:=(.region 0 [
 m_ 54 4,
 m_ 2 54,
 o_ 3 (.mov (.const (.bool true)))])
def b1092_5:AC:=.ret
def b1092:AC:=(.seq b1092_0 (.seq b1092_1 (.seq b1092_2 (.seq b1092_3 (.seq b1092_4 b1092_5)))))
def ir1092:AF:=⟨55,[(.tmp 2),(.tmp 3)],b1092⟩
theorem c1092:compF tt Tryz.f92=some ir1092:=by kernel_rfl
def b1093:AC:=(.seq (.region 2 [
 o_ 1 (.box 0 (t_ 0)),
 o_ 2 (.zero 1 [(.v (.bool false)),(.v (.string ⟨#[]⟩)),(.v (.string ⟨#[]⟩))])])
 (.seq (.region 0 [
 o_ 3 (.load true 3 (t_ 1)),
 o_ 4 (.call 104 [(t_ 3)]),
 o_ 5 (.ext (t_ 4) 0),
 o_ 6 (.ext (t_ 4) 1),
 o_ 7 (.call 103 [(t_ 5),(t_ 6)]),
 s_ (.store 3 (t_ 2) (t_ 7))])
 .ret))
def ir1093:AF:=⟨8,[(.cell 2 true 3)],b1093⟩
theorem c1093:compF tt Tryz.f93=some ir1093:=by kernel_rfl
def b1094:AC:=(.seq (.region 1 [
 o_ 2 (.box 0 (t_ 0)),
 o_ 4 (.mov (.const (.bool false)))])
 (.seq (.region 1 [
 o_ 6 (.load true 3 (t_ 2)),
 o_ 7 (.call 93 [(t_ 6)]),
 o_ 5 (.zero 0 [(.v (.bool false)),(.v (.string ⟨#[]⟩)),(.v (.string ⟨#[]⟩))]),
 s_ (.store 3 (t_ 5) (t_ 7))])
 (.seq (.region 0 [
 o_ 8 (.faddr 1 (t_ 5)),
 o_ 9 (.load false 1 (t_ 8)),
 o_ 10 (.lenS (t_ 9)),
 m_ 11 1,
 o_ 12 (.binI .leq .i64 (t_ 10) (t_ 11)),
 m_ 13 12,
 g_ 14 (.faddr 2 (t_ 5)) 13 true,
 g_ 15 (.load false 1 (t_ 14)) 13 true,
 g_ 16 (.lenS (t_ 15)) 13 true,
 g_ 17 (.mov (t_ 1)) 13 true,
 g_ 18 (.binI .leq .i64 (t_ 16) (t_ 17)) 13 true,
 o_ 19 (.pick (t_ 13) (t_ 18) (.const (.bool false))),
 m_ 4 19])
 .ret)))
def ir1094:AF:=⟨20,[(.tmp 4)],b1094⟩
theorem c1094:compF tt Tryz.f94=some ir1094:=by kernel_rfl
def b95:AC:=(.seq (.region 0 [
 m_ 12 2,
 m_ 13 1,
 o_ 14 (.binI .sub .i64 (t_ 12) (t_ 13)),
 m_ 10 14])
 (.seq (.region 0 [
 m_ 15 3,
 m_ 16 2,
 o_ 17 (.binI .sub .i64 (t_ 15) (t_ 16)),
 m_ 11 17])
 (.seq (.block 0 (.loop (.seq (.seq (.region 0 [
 m_ 18 10,
 m_ 19 11,
 o_ 20 (.binI .neq .i64 (t_ 18) (t_ 19))])
 (.cond (t_ 20) .skip (.exit 0)))
 (.block 1 (.seq (.region 0 [
 m_ 21 10,
 m_ 22 11,
 o_ 23 (.binI .gtr .i64 (t_ 21) (t_ 22))])
 (.cond (t_ 23) (.seq (.region 0 [
 m_ 24 0,
 m_ 25 2,
 m_ 26 10,
 o_ 27 (.binI .sub .i64 (t_ 25) (t_ 26)),
 m_ 28 2,
 m_ 29 11,
 m_ 30 4,
 o_ 31 (.call 113 [(t_ 24),(t_ 27),(t_ 28),(t_ 29),(t_ 30)])])
 (.region 0 [
 m_ 32 10,
 m_ 33 11,
 o_ 34 (.binI .sub .i64 (t_ 32) (t_ 33)),
 m_ 10 34])) (.seq (.region 0 [
 m_ 35 0,
 m_ 36 2,
 m_ 37 10,
 o_ 38 (.binI .sub .i64 (t_ 36) (t_ 37)),
 m_ 39 2,
 m_ 40 11,
 o_ 41 (.binI .add .i64 (t_ 39) (t_ 40)),
 m_ 42 10,
 o_ 43 (.binI .sub .i64 (t_ 41) (t_ 42)),
 m_ 44 10,
 m_ 45 4,
 o_ 46 (.call 113 [(t_ 35),(t_ 38),(t_ 43),(t_ 44),(t_ 45)])])
 (.region 0 [
 m_ 47 11,
 m_ 48 10,
 o_ 49 (.binI .sub .i64 (t_ 47) (t_ 48)),
 m_ 11 49]))))))))
 (.region 0 [
 m_ 50 0,
 m_ 51 2,
 m_ 52 10,
 o_ 53 (.binI .sub .i64 (t_ 51) (t_ 52)),
 m_ 54 2,
 m_ 55 10,
 m_ 56 4,
 o_ 57 (.call 113 [(t_ 50),(t_ 53),(t_ 54),(t_ 55),(t_ 56)])]))))
def ir95:AF:=⟨58,[],b95⟩
theorem c95:compF tt Tryz.f97=some ir95:=by kernel_rfl
def b1100_0:AC:=(.region 3 [
 o_ 2 (.box 0 (t_ 0)),
 o_ 3 (.box 1 (t_ 1)),
 o_ 4 (.zero 2 [(.v (.bool false)),(.v (.string ⟨#[]⟩)),(.v (.string ⟨#[]⟩))]),
 o_ 5 (.mov (.const (.bool false)))])
def b1100_1:AC:=(.dregion 0 [
 o_ 9 (.load true 2 (t_ 2)),
 o_ 10 (.call 114 [(t_ 9)]),
 o_ 11 (.load true 2 (t_ 3)),
 o_ 12 (.call 114 [(t_ 11)]),
 s_ (.store 2 (t_ 2) (t_ 10)),
 s_ (.store 2 (t_ 3) (t_ 12))] [[],[0],[],[2,1],[1,3,0,1],[3,4,0,1,2,3,4]])
def b1100_2:AC:=(.seq (.region 0 [
 o_ 13 (.faddr 1 (t_ 3)),
 o_ 14 (.load false 1 (t_ 13)),
 o_ 15 (.binS .eql (t_ 14) (.const (.string ⟨#[]⟩)))])
 (.cond (t_ 15) (.seq (.region 0 [
 o_ 16 (.build [(.v (.bool false)),(.v (.string ⟨#[]⟩)),(.v (.string ⟨#[]⟩))] []),
 s_ (.store 3 (t_ 4) (t_ 16)),
 o_ 5 (.mov (.const (.bool false)))])
 .ret) .skip))
def b1100_3:AC:=(.region 0 [
 o_ 17 (.faddr 0 (t_ 2)),
 o_ 18 (.load false 1 (t_ 17)),
 o_ 19 (.faddr 0 (t_ 3)),
 o_ 20 (.load false 1 (t_ 19)),
 o_ 21 (.eqB true (t_ 18) (t_ 20)),
 m_ 6 21])
def b1100_4:AC:=(.region 0 [
 o_ 22 (.faddr 0 (t_ 2)),
 s_ (.store 1 (t_ 22) (.const (.bool false))),
 o_ 23 (.faddr 0 (t_ 3)),
 s_ (.store 1 (t_ 23) (.const (.bool false)))])
def b1100_5:AC:=(.region 2 [
 o_ 24 (.load true 2 (t_ 2)),
 o_ 25 (.load true 2 (t_ 3)),
 o_ 26 (.bsl 0 2 [(.v (.bool false)),(.v (.string ⟨#[]⟩))] 2 [(0,(t_ 24)),(1,(t_ 25))]),
 o_ 27 (.call 115 [(t_ 26)]),
 o_ 7 (.zero 1 [(.v (.bool false)),(.v (.string ⟨#[]⟩))]),
 s_ (.store 2 (t_ 7) (t_ 27))])
def b1100_6:AC:=(.region 0 [
 o_ 29 (.load true 2 (t_ 2)),
 o_ 30 (.load true 2 (t_ 7)),
 o_ 31 (.call 116 [(t_ 29),(t_ 30)]),
 m_ 28 31,
 o_ 32 (.ext (t_ 28) 0),
 o_ 33 (.ext (t_ 28) 1),
 o_ 34 (.ext (t_ 28) 2),
 s_ (.store 2 (t_ 2) (t_ 32))])
def b1100_7:AC:=(.region 0 [
 o_ 36 (.load true 2 (t_ 3)),
 o_ 37 (.load true 2 (t_ 7)),
 o_ 38 (.call 116 [(t_ 36),(t_ 37)]),
 m_ 35 38,
 o_ 39 (.ext (t_ 35) 0),
 o_ 40 (.ext (t_ 35) 1),
 o_ 41 (.ext (t_ 35) 2),
 s_ (.store 2 (t_ 3) (t_ 39))])
def b1100_8:AC:=(.region 1 [
 m_ 42 6,
 o_ 43 (.faddr 1 (t_ 2)),
 o_ 44 (.load false 1 (t_ 43)),
 o_ 45 (.faddr 1 (t_ 3)),
 o_ 46 (.load false 1 (t_ 45)),
 o_ 47 (.build [(.v (.bool false)),(.v (.string ⟨#[]⟩)),(.v (.string ⟨#[]⟩))] [(0,(1,(t_ 42))),(1,(1,(t_ 44))),(2,(1,(t_ 46)))]),
 o_ 8 (.zero 0 [(.v (.bool false)),(.v (.string ⟨#[]⟩)),(.v (.string ⟨#[]⟩))]),
 s_ (.store 3 (t_ 8) (t_ 47))])
def b1100_9:AC:=(.seq (.region 0 [
 o_ 48 (.faddr 1 (t_ 8)),
 o_ 49 (.load false 1 (t_ 48)),
 o_ 50 (.binS .eql (t_ 49) (.const (.string ⟨#[]⟩)))])
 (.cond (t_ 50) (.region 0 [
 o_ 51 (.faddr 0 (t_ 8)),
 s_ (.store 1 (t_ 51) (.const (.bool false)))]) .skip))
def b1100_10:AC:=(.seq (.dregion 0 [
 o_ 52 (.load true 2 (t_ 3)),
 o_ 53 (.call 117 []),
 o_ 54 (.eqA false [.b,.s] (t_ 52) (t_ 53))] [[],[],[0,1]])
 (.cond (t_ 54) (.region 0 [
 o_ 55 (.faddr 2 (t_ 8)),
 s_ (.store 1 (t_ 55) (.const (.string ⟨#[]⟩)))]) .skip))
def b1100_11:AC:=(.region 0 [
 o_ 56 (.load true 3 (t_ 8)),
 s_ (.store 3 (t_ 4) (t_ 56)),
 o_ 5 (.mov (.const (.bool true)))])
def b1100_12:AC:=.ret
def b1100:AC:=(.seq b1100_0 (.seq b1100_1 (.seq b1100_2 (.seq b1100_3 (.seq b1100_4 (.seq b1100_5 (.seq b1100_6 (.seq b1100_7 (.seq b1100_8 (.seq b1100_9 (.seq b1100_10 (.seq b1100_11 b1100_12))))))))))))
def ir1100:AF:=⟨57,[(.cell 4 true 3),(.tmp 5)],b1100⟩
theorem c1100:compF tt Tryz.f100=some ir1100:=by kernel_rfl
def b1101:AC:=(.seq (.region 2 [
 o_ 1 (.box 0 (t_ 0)),
 o_ 2 (.zero 1 [(.v (.bool false)),(.v (.string ⟨#[]⟩))])])
 (.seq (.region 0 [
 o_ 3 (.faddr 0 (t_ 1)),
 o_ 4 (.load false 1 (t_ 3)),
 o_ 5 (.faddr 1 (t_ 1)),
 o_ 6 (.load false 1 (t_ 5)),
 o_ 7 (.build [(.v (.bool false)),(.v (.string ⟨#[]⟩))] [(0,(1,(t_ 4))),(1,(1,(t_ 6)))]),
 o_ 8 (.call 114 [(t_ 7)]),
 s_ (.store 2 (t_ 2) (t_ 8))])
 .ret))
def ir1101:AF:=⟨9,[(.cell 2 true 2)],b1101⟩
theorem c1101:compF tt Tryz.f101=some ir1101:=by kernel_rfl
def b1102:AC:=(.seq (.region 2 [
 o_ 1 (.box 0 (t_ 0)),
 o_ 2 (.zero 1 [(.v (.bool false)),(.v (.string ⟨#[]⟩))])])
 (.seq (.region 1 [
 o_ 4 (.faddr 2 (t_ 1)),
 o_ 5 (.load false 1 (t_ 4)),
 o_ 6 (.build [(.v (.bool false)),(.v (.string ⟨#[]⟩))] [(1,(1,(t_ 5)))]),
 o_ 7 (.call 114 [(t_ 6)]),
 o_ 3 (.zero 0 [(.v (.bool false)),(.v (.string ⟨#[]⟩))]),
 s_ (.store 2 (t_ 3) (t_ 7))])
 (.seq (.seq (.region 0 [
 o_ 8 (.faddr 1 (t_ 3)),
 o_ 9 (.load false 1 (t_ 8)),
 o_ 10 (.binS .eql (t_ 9) (.const (.string ⟨#[]⟩)))])
 (.cond (t_ 10) (.seq (.region 0 [
 o_ 11 (.call 117 []),
 s_ (.store 2 (t_ 2) (t_ 11))])
 .ret) .skip))
 (.seq (.region 0 [
 o_ 12 (.load true 2 (t_ 3)),
 s_ (.store 2 (t_ 2) (t_ 12))])
 .ret))))
def ir1102:AF:=⟨13,[(.cell 2 true 2)],b1102⟩
theorem c1102:compF tt Tryz.f102=some ir1102:=by kernel_rfl
def b1103:AC:=(.seq (.region 3 [
 o_ 2 (.box 0 (t_ 0)),
 o_ 3 (.box 1 (t_ 1)),
 o_ 4 (.zero 2 [(.v (.bool false)),(.v (.string ⟨#[]⟩)),(.v (.string ⟨#[]⟩))])])
 (.seq (.region 1 [
 o_ 8 (.load true 2 (t_ 2)),
 o_ 9 (.load true 2 (t_ 3)),
 o_ 10 (.call 118 [(t_ 8),(t_ 9)]),
 m_ 7 10,
 o_ 11 (.ext (t_ 7) 0),
 o_ 12 (.ext (t_ 7) 1),
 o_ 5 (.zero 0 [(.v (.bool false)),(.v (.string ⟨#[]⟩)),(.v (.string ⟨#[]⟩))]),
 s_ (.store 3 (t_ 5) (t_ 11)),
 m_ 6 12])
 (.seq (.region 0 [
 o_ 13 (.load true 3 (t_ 5)),
 s_ (.store 3 (t_ 4) (t_ 13))])
 .ret)))
def ir1103:AF:=⟨14,[(.cell 4 true 3)],b1103⟩
theorem c1103:compF tt Tryz.f103=some ir1103:=by kernel_rfl
def b1104:AC:=(.seq (.region 3 [
 o_ 1 (.box 0 (t_ 0)),
 o_ 2 (.zero 1 [(.v (.bool false)),(.v (.string ⟨#[]⟩))]),
 o_ 3 (.zero 2 [(.v (.bool false)),(.v (.string ⟨#[]⟩))])])
 (.seq (.region 1 [
 o_ 5 (.faddr 2 (t_ 1)),
 o_ 6 (.load false 1 (t_ 5)),
 o_ 7 (.call 119 [(t_ 6)]),
 o_ 8 (.build [(.v (.bool false)),(.v (.string ⟨#[]⟩))] [(1,(1,(t_ 7)))]),
 o_ 4 (.zero 0 [(.v (.bool false)),(.v (.string ⟨#[]⟩))]),
 s_ (.store 2 (t_ 4) (t_ 8))])
 (.seq (.seq (.region 0 [
 o_ 9 (.faddr 1 (t_ 4)),
 o_ 10 (.load false 1 (t_ 9)),
 o_ 11 (.binS .eql (t_ 10) (.const (.string ⟨#[]⟩)))])
 (.cond (t_ 11) (.region 0 [
 o_ 12 (.call 120 [(.const (.int .i64 1))]),
 s_ (.store 2 (t_ 4) (t_ 12))]) .skip))
 (.seq (.dregion 0 [
 o_ 13 (.faddr 0 (t_ 1)),
 o_ 14 (.load false 1 (t_ 13)),
 o_ 15 (.faddr 1 (t_ 1)),
 o_ 16 (.load false 1 (t_ 15)),
 o_ 17 (.build [(.v (.bool false)),(.v (.string ⟨#[]⟩))] [(0,(1,(t_ 14))),(1,(1,(t_ 16)))]),
 o_ 18 (.call 121 [(t_ 17)]),
 o_ 19 (.load true 2 (t_ 4)),
 s_ (.store 2 (t_ 2) (t_ 18)),
 s_ (.store 2 (t_ 3) (t_ 19))] [[],[0],[],[2],[1,3],[4],[],[5,5,0,1,2,3,4,5],[6,7,0,1,2,3,4,5,6,7]])
 .ret))))
def ir1104:AF:=⟨20,[(.cell 2 true 2),(.cell 3 true 2)],b1104⟩
theorem c1104:compF tt Tryz.f104=some ir1104:=by kernel_rfl
def b103:AC:=(.seq (.region 0 [
 o_ 10 (.mov (.const (.int .i64 0)))])
 (.block 0 (.loop (.seq (.seq (.region 0 [
 m_ 11 10,
 m_ 12 3,
 o_ 13 (.binI .lss .i64 (t_ 11) (t_ 12))])
 (.cond (t_ 13) .skip (.exit 0)))
 (.seq (.block 1 (.dregion 0 [
 m_ 16 0,
 m_ 17 1,
 m_ 18 10,
 o_ 19 (.binI .add .i64 (t_ 17) (t_ 18)),
 m_ 20 0,
 m_ 21 2,
 m_ 22 10,
 o_ 23 (.binI .add .i64 (t_ 21) (t_ 22)),
 m_ 24 0,
 m_ 25 2,
 m_ 26 10,
 o_ 27 (.binI .add .i64 (t_ 25) (t_ 26)),
 o_ 28 (.iaddr 18 (t_ 24) (t_ 27)),
 o_ 29 (.load true 18 (t_ 28)),
 m_ 30 0,
 m_ 31 1,
 m_ 32 10,
 o_ 33 (.binI .add .i64 (t_ 31) (t_ 32)),
 o_ 34 (.iaddr 18 (t_ 30) (t_ 33)),
 o_ 35 (.load true 18 (t_ 34)),
 o_ 36 (.iaddr 18 (t_ 16) (t_ 19)),
 s_ (.store 18 (t_ 36) (t_ 29)),
 o_ 37 (.iaddr 18 (t_ 20) (t_ 23)),
 s_ (.store 18 (t_ 37) (t_ 35))] [[],[],[],[1,2],[],[],[],[5,6],[],[],[],[9,10],[8,11],[12],[],[],[],[15,16],[14,17],[18],[0,3,0,1,2,3,8,9,10,11,12,13,19],[20,13,0,1,2,3,8,9,10,11,12,13,19],[4,7,0,1,2,3,4,5,6,7,8,9,10,11,12,13,14,15,16,17,18,19,20,21],[22,19,21,0,1,2,3,4,5,6,7,8,9,10,11,12,13,14,15,16,17,18,19,20,21]]))
 (.region 0 [
 m_ 14 10,
 o_ 15 (.binI .add .i64 (t_ 14) (.const (.int .i64 1))),
 m_ 10 15]))))))
def ir103:AF:=⟨38,[],b103⟩
theorem c103:compF tt Tryz.f113=some ir103:=by kernel_rfl
def b1114:AC:=(.seq (.region 2 [
 o_ 1 (.box 0 (t_ 0)),
 o_ 2 (.zero 1 [(.v (.bool false)),(.v (.string ⟨#[]⟩))])])
 (.seq (.region 0 [
 o_ 3 (.faddr 0 (t_ 1)),
 o_ 4 (.load false 1 (t_ 3)),
 o_ 5 (.faddr 1 (t_ 1)),
 o_ 6 (.load false 1 (t_ 5)),
 o_ 7 (.call 129 [(t_ 4),(t_ 6)]),
 s_ (.store 2 (t_ 2) (t_ 7))])
 .ret))
def ir1114:AF:=⟨8,[(.cell 2 true 2)],b1114⟩
theorem c1114:compF tt Tryz.f114=some ir1114:=by kernel_rfl
def b1115:AC:=(.seq (.region 1 [
 o_ 2 (.zero 0 [(.v (.bool false)),(.v (.string ⟨#[]⟩))])])
 (.seq (.region 0 [
 o_ 3 (.mov (.const (.string ⟨#[]⟩)))])
 (.seq (.seq (.region 0 [
 o_ 4 (.mov (.const (.int .i64 0)))])
 (.block 0 (.loop (.seq (.seq (.region 0 [
 m_ 5 4,
 m_ 6 0,
 o_ 7 (.lenL (t_ 6)),
 o_ 8 (.binI .lss .i64 (t_ 5) (t_ 7))])
 (.cond (t_ 8) .skip (.exit 0)))
 (.seq (.block 1 (.region 0 [
 m_ 11 3,
 m_ 12 0,
 m_ 13 4,
 o_ 14 (.iaddr 2 (t_ 12) (t_ 13)),
 o_ 15 (.faddr 1 (t_ 14)),
 o_ 16 (.load false 1 (t_ 15)),
 o_ 17 (.call 130 [(t_ 11),(t_ 16)]),
 m_ 3 17]))
 (.region 0 [
 m_ 9 4,
 o_ 10 (.binI .add .i64 (t_ 9) (.const (.int .i64 1))),
 m_ 4 10]))))))
 (.seq (.region 0 [
 m_ 18 3,
 o_ 19 (.call 129 [(.const (.bool false)),(t_ 18)]),
 s_ (.store 2 (t_ 2) (t_ 19))])
 .ret))))
def ir1115:AF:=⟨20,[(.cell 2 true 2)],b1115⟩
theorem c1115:compF tt Tryz.f115=some ir1115:=by kernel_rfl
def b1116_0:AC:=(.region 4 [
 o_ 2 (.box 0 (t_ 0)),
 o_ 3 (.box 1 (t_ 1)),
 o_ 4 (.zero 2 [(.v (.bool false)),(.v (.string ⟨#[]⟩))]),
 o_ 5 (.zero 3 [(.v (.bool false)),(.v (.string ⟨#[]⟩))]),
 o_ 6 (.mov (.const (.bool false)))])
def b1116_1:AC:=(.region 0 [
 o_ 13 (.faddr 1 (t_ 2)),
 o_ 14 (.load false 1 (t_ 13)),
 o_ 15 (.faddr 1 (t_ 3)),
 o_ 16 (.load false 1 (t_ 15)),
 o_ 17 (.call 131 [(t_ 14),(t_ 16)]),
 m_ 12 17,
 o_ 18 (.ext (t_ 12) 0),
 o_ 19 (.ext (t_ 12) 1),
 o_ 20 (.ext (t_ 12) 2),
 m_ 7 18,
 m_ 8 19,
 m_ 9 20])
def b1116_2:AC:=(.seq (.region 0 [
 m_ 21 9,
 o_ 22 (.not (t_ 21))])
 (.cond (t_ 22) (.seq (.region 0 [
 o_ 23 (.build [(.v (.bool false)),(.v (.string ⟨#[]⟩))] []),
 o_ 24 (.build [(.v (.bool false)),(.v (.string ⟨#[]⟩))] []),
 s_ (.store 2 (t_ 4) (t_ 23)),
 s_ (.store 2 (t_ 5) (t_ 24)),
 o_ 6 (.mov (.const (.bool false)))])
 .ret) .skip))
def b1116_3:AC:=(.region 1 [
 o_ 25 (.faddr 0 (t_ 2)),
 o_ 26 (.load false 1 (t_ 25)),
 m_ 27 8,
 o_ 28 (.call 129 [(t_ 26),(t_ 27)]),
 o_ 10 (.zero 0 [(.v (.bool false)),(.v (.string ⟨#[]⟩))]),
 s_ (.store 2 (t_ 10) (t_ 28))])
def b1116_4:AC:=(.region 1 [
 o_ 29 (.faddr 0 (t_ 2)),
 o_ 30 (.load false 1 (t_ 29)),
 o_ 31 (.faddr 0 (t_ 3)),
 o_ 32 (.load false 1 (t_ 31)),
 o_ 33 (.eqB true (t_ 30) (t_ 32)),
 m_ 34 7,
 o_ 35 (.call 129 [(t_ 33),(t_ 34)]),
 o_ 11 (.zero 0 [(.v (.bool false)),(.v (.string ⟨#[]⟩))]),
 s_ (.store 2 (t_ 11) (t_ 35))])
def b1116_5:AC:=(.seq (.region 0 [
 o_ 36 (.load true 2 (t_ 10)),
 o_ 37 (.call 132 [(t_ 36)]),
 o_ 38 (.binI .lss .i64 (t_ 37) (.const (.int .i64 0)))])
 (.cond (t_ 38) (.seq (.dregion 0 [
 o_ 39 (.load true 2 (t_ 10)),
 o_ 40 (.faddr 1 (t_ 3)),
 o_ 41 (.load false 1 (t_ 40)),
 o_ 42 (.call 129 [(.const (.bool false)),(t_ 41)]),
 o_ 43 (.call 133 [(t_ 39),(t_ 42)]),
 s_ (.store 2 (t_ 10) (t_ 43))] [[],[],[1],[2],[0,3,3],[4,4,0,1,2,3,4]])
 (.seq (.region 0 [
 o_ 44 (.load true 2 (t_ 3)),
 o_ 45 (.call 132 [(t_ 44)]),
 o_ 46 (.binI .gtr .i64 (t_ 45) (.const (.int .i64 0)))])
 (.cond (t_ 46) (.dregion 0 [
 o_ 47 (.load true 2 (t_ 11)),
 o_ 48 (.call 135 [(.const (.int .i64 1))]),
 o_ 49 (.call 134 [(t_ 47),(t_ 48)]),
 s_ (.store 2 (t_ 11) (t_ 49))] [[],[],[0,1,1],[2,2,0,1,2]]) (.dregion 0 [
 o_ 50 (.load true 2 (t_ 11)),
 o_ 51 (.call 135 [(.const (.int .i64 1))]),
 o_ 52 (.call 133 [(t_ 50),(t_ 51)]),
 s_ (.store 2 (t_ 11) (t_ 52))] [[],[],[0,1,1],[2,2,0,1,2]])))) .skip))
def b1116_6:AC:=(.dregion 0 [
 o_ 53 (.load true 2 (t_ 11)),
 o_ 54 (.load true 2 (t_ 10)),
 s_ (.store 2 (t_ 4) (t_ 53)),
 s_ (.store 2 (t_ 5) (t_ 54)),
 o_ 6 (.mov (.const (.bool true)))] [[],[],[0,0],[1,2,0,1,2],[3,0,1,2,3]])
def b1116_7:AC:=.ret
def b1116:AC:=(.seq b1116_0 (.seq b1116_1 (.seq b1116_2 (.seq b1116_3 (.seq b1116_4 (.seq b1116_5 (.seq b1116_6 b1116_7)))))))
def ir1116:AF:=⟨55,[(.cell 4 true 2),(.cell 5 true 2),(.tmp 6)],b1116⟩
theorem c1116:compF tt Tryz.f116=some ir1116:=by kernel_rfl
def b1117:AC:=(.seq (.region 1 [
 o_ 0 (.zero 0 [(.v (.bool false)),(.v (.string ⟨#[]⟩))])])
 (.seq (.region 0 [
 o_ 1 (.call 135 [(.const (.int .i64 1))]),
 s_ (.store 2 (t_ 0) (t_ 1))])
 .ret))
def ir1117:AF:=⟨2,[(.cell 0 true 2)],b1117⟩
theorem c1117:compF tt Tryz.f117=some ir1117:=by kernel_rfl
def b1118:AC:=(.seq (.region 3 [
 o_ 2 (.box 0 (t_ 0)),
 o_ 3 (.box 1 (t_ 1)),
 o_ 4 (.zero 2 [(.v (.bool false)),(.v (.string ⟨#[]⟩)),(.v (.string ⟨#[]⟩))]),
 o_ 5 (.mov (.const (.bool false)))])
 (.seq (.seq (.region 0 [
 o_ 9 (.load true 2 (t_ 3)),
 o_ 10 (.call 136 [(t_ 9)]),
 o_ 11 (.binI .eql .i64 (t_ 10) (.const (.int .i64 0)))])
 (.cond (t_ 11) (.seq (.region 0 [
 o_ 12 (.build [(.v (.bool false)),(.v (.string ⟨#[]⟩)),(.v (.string ⟨#[]⟩))] []),
 s_ (.store 3 (t_ 4) (t_ 12)),
 o_ 5 (.mov (.const (.bool false)))])
 .ret) .skip))
 (.seq (.seq (.region 0 [
 o_ 13 (.load true 2 (t_ 2)),
 o_ 14 (.call 136 [(t_ 13)]),
 o_ 15 (.binI .eql .i64 (t_ 14) (.const (.int .i64 0)))])
 (.cond (t_ 15) (.seq (.region 0 [
 o_ 16 (.build [(.v (.bool false)),(.v (.string ⟨#[]⟩)),(.v (.string ⟨#[]⟩))] []),
 s_ (.store 3 (t_ 4) (t_ 16)),
 o_ 5 (.mov (.const (.bool true)))])
 .ret) .skip))
 (.seq (.region 1 [
 o_ 17 (.faddr 1 (t_ 2)),
 o_ 18 (.load false 1 (t_ 17)),
 o_ 19 (.faddr 1 (t_ 3)),
 o_ 20 (.load false 1 (t_ 19)),
 o_ 21 (.call 137 [(t_ 18),(t_ 20)]),
 o_ 6 (.zero 0 [(.v (.string ⟨#[]⟩))]),
 s_ (.store 1 (t_ 6) (t_ 21))])
 (.seq (.region 0 [
 o_ 22 (.mkfn 138 [(t_ 6)]),
 m_ 7 22])
 (.seq (.dregion 1 [
 o_ 23 (.faddr 0 (t_ 2)),
 o_ 24 (.load false 1 (t_ 23)),
 o_ 25 (.faddr 0 (t_ 3)),
 o_ 26 (.load false 1 (t_ 25)),
 o_ 27 (.eqB true (t_ 24) (t_ 26)),
 m_ 28 7,
 o_ 29 (.faddr 1 (t_ 2)),
 o_ 30 (.load false 1 (t_ 29)),
 o_ 31 (.callv (t_ 28) [(t_ 30)]),
 m_ 32 7,
 o_ 33 (.faddr 1 (t_ 3)),
 o_ 34 (.load false 1 (t_ 33)),
 o_ 35 (.callv (t_ 32) [(t_ 34)]),
 o_ 36 (.build [(.v (.bool false)),(.v (.string ⟨#[]⟩)),(.v (.string ⟨#[]⟩))] [(0,(1,(t_ 27))),(1,(1,(t_ 31))),(2,(1,(t_ 35)))]),
 o_ 8 (.zero 0 [(.v (.bool false)),(.v (.string ⟨#[]⟩)),(.v (.string ⟨#[]⟩))]),
 s_ (.store 3 (t_ 8) (t_ 36))] [[],[0],[],[2],[1,3],[],[],[6],[5,7],[],[],[10],[9,11,8],[4,8,12],[],[14,13,12,0,1,2,3,4,5,6,7,8,9,10,11,12,13,14]])
 (.seq (.seq (.region 0 [
 o_ 37 (.faddr 2 (t_ 8)),
 o_ 38 (.load false 1 (t_ 37)),
 o_ 39 (.binS .eql (t_ 38) (.const (.string ⟨#[1]⟩)))])
 (.cond (t_ 39) (.region 0 [
 o_ 40 (.faddr 2 (t_ 8)),
 s_ (.store 1 (t_ 40) (.const (.string ⟨#[]⟩)))]) .skip))
 (.seq (.region 0 [
 o_ 41 (.load true 3 (t_ 8)),
 s_ (.store 3 (t_ 4) (t_ 41)),
 o_ 5 (.mov (.const (.bool true)))])
 .ret))))))))
def ir1118:AF:=⟨42,[(.cell 4 true 3),(.tmp 5)],b1118⟩
theorem c1118:compF tt Tryz.f118=some ir1118:=by kernel_rfl
def b1119:AC:=(.seq (.region 0 [
 o_ 2 (.mov (.const (.string ⟨#[]⟩)))])
 (.seq (.region 0 [
 m_ 3 0,
 o_ 4 (.call 140 [(t_ 3),(.const (.string ⟨#[0]⟩))]),
 m_ 2 4])
 .ret))
def ir1119:AF:=⟨5,[(.tmp 2)],b1119⟩
theorem c1119:compF tt Tryz.f119=some ir1119:=by kernel_rfl
def b1120:AC:=(.seq (.region 1 [
 o_ 2 (.zero 0 [(.v (.bool false)),(.v (.string ⟨#[]⟩))])])
 (.seq (.seq (.region 0 [
 m_ 3 0,
 o_ 4 (.binI .lss .i64 (t_ 3) (.const (.int .i64 0)))])
 (.cond (t_ 4) (.seq (.region 0 [
 m_ 5 0,
 o_ 6 (.binI .add .i64 (t_ 5) (.const (.int .i64 1))),
 o_ 7 (.neg .i64 (t_ 6)),
 o_ 8 (.conv .u64 (t_ 7)),
 o_ 9 (.binI .add .u64 (t_ 8) (.const (.int .u64 1))),
 o_ 10 (.call 142 [(t_ 9)]),
 o_ 11 (.call 141 [(.const (.bool true)),(t_ 10)]),
 s_ (.store 2 (t_ 2) (t_ 11))])
 .ret) .skip))
 (.seq (.region 0 [
 m_ 12 0,
 o_ 13 (.conv .u64 (t_ 12)),
 o_ 14 (.call 142 [(t_ 13)]),
 o_ 15 (.call 141 [(.const (.bool false)),(t_ 14)]),
 s_ (.store 2 (t_ 2) (t_ 15))])
 .ret)))
def ir1120:AF:=⟨16,[(.cell 2 true 2)],b1120⟩
theorem c1120:compF tt Tryz.f120=some ir1120:=by kernel_rfl
def b1121:AC:=(.seq (.region 2 [
 o_ 1 (.box 0 (t_ 0)),
 o_ 2 (.zero 1 [(.v (.bool false)),(.v (.string ⟨#[]⟩))])])
 (.seq (.dregion 0 [
 o_ 3 (.faddr 0 (t_ 1)),
 o_ 4 (.load false 1 (t_ 3)),
 o_ 5 (.faddr 1 (t_ 1)),
 o_ 6 (.load false 1 (t_ 5)),
 o_ 7 (.call 119 [(t_ 6)]),
 o_ 8 (.call 141 [(t_ 4),(t_ 7)]),
 s_ (.store 2 (t_ 2) (t_ 8))] [[],[0],[],[2],[3],[1,4,4],[5,5,0,1,2,3,4,5]])
 .ret))
def ir1121:AF:=⟨9,[(.cell 2 true 2)],b1121⟩
theorem c1121:compF tt Tryz.f121=some ir1121:=by kernel_rfl
def b1129:AC:=(.seq (.region 1 [
 o_ 4 (.zero 0 [(.v (.bool false)),(.v (.string ⟨#[]⟩))])])
 (.seq (.region 0 [
 m_ 6 1,
 o_ 7 (.call 149 [(t_ 6)]),
 m_ 5 7])
 (.seq (.region 0 [
 m_ 8 0,
 m_ 9 8,
 g_ 10 (.mov (t_ 5)) 9 true,
 g_ 11 (.binS .neq (t_ 10) (.const (.string ⟨#[]⟩))) 9 true,
 o_ 12 (.pick (t_ 9) (t_ 11) (.const (.bool false))),
 m_ 13 5,
 o_ 14 (.build [(.v (.bool false)),(.v (.string ⟨#[]⟩))] [(0,(1,(t_ 12))),(1,(1,(t_ 13)))]),
 s_ (.store 2 (t_ 4) (t_ 14))])
 .ret)))
def ir1129:AF:=⟨15,[(.cell 4 true 2)],b1129⟩
theorem c1129:compF tt Tryz.f129=some ir1129:=by kernel_rfl
def b1130:AC:=(.seq (.region 0 [
 o_ 4 (.mov (.const (.string ⟨#[]⟩)))])
 (.seq (.region 0 [
 m_ 10 0,
 o_ 11 (.call 149 [(t_ 10)]),
 m_ 12 1,
 o_ 13 (.call 149 [(t_ 12)]),
 m_ 5 11,
 m_ 6 13])
 (.seq (.block 0 (.loop (.seq (.seq (.region 0 [
 m_ 14 6,
 o_ 15 (.binS .neq (t_ 14) (.const (.string ⟨#[]⟩)))])
 (.cond (t_ 15) .skip (.exit 0)))
 (.block 1 (.seq (.region 0 [
 m_ 17 5,
 m_ 18 6,
 o_ 19 (.call 131 [(t_ 17),(t_ 18)]),
 m_ 16 19,
 o_ 20 (.ext (t_ 16) 0),
 o_ 21 (.ext (t_ 16) 1),
 o_ 22 (.ext (t_ 16) 2),
 m_ 7 20,
 m_ 8 21,
 m_ 9 22])
 (.seq (.region 0 [
 m_ 23 6,
 m_ 5 23])
 (.region 0 [
 m_ 24 8,
 m_ 6 24])))))))
 (.seq (.region 0 [
 m_ 25 5,
 m_ 4 25])
 .ret))))
def ir1130:AF:=⟨26,[(.tmp 4)],b1130⟩
theorem c1130:compF tt Tryz.f130=some ir1130:=by kernel_rfl
def b1131_0:AC:=(.region 0 [
 o_ 4 (.mov (.const (.string ⟨#[]⟩))),
 o_ 5 (.mov (.const (.string ⟨#[]⟩))),
 o_ 6 (.mov (.const (.bool false)))])
def b1131_1:AC:=(.seq (.region 0 [
 m_ 13 1,
 o_ 14 (.call 149 [(t_ 13)]),
 o_ 15 (.binS .eql (t_ 14) (.const (.string ⟨#[]⟩)))])
 (.cond (t_ 15) (.seq (.region 0 [
 o_ 4 (.mov (.const (.string ⟨#[]⟩))),
 o_ 5 (.mov (.const (.string ⟨#[]⟩))),
 o_ 6 (.mov (.const (.bool false)))])
 .ret) .skip))
def b1131_2:AC:=(.region 1 [
 m_ 16 0,
 o_ 17 (.lenS (t_ 16)),
 o_ 18 (.mksl 0 1 1 [(.v (.int .u8 0))] (t_ 17) (t_ 17)),
 m_ 7 18])
def b1131_3:AC:=(.region 0 [
 o_ 8 (.mov (.const (.string ⟨#[]⟩)))])
def b1131_4:AC:=(.seq (.region 0 [
 m_ 19 0,
 o_ 20 (.lenS (t_ 19)),
 o_ 21 (.binI .sub .i64 (t_ 20) (.const (.int .i64 1))),
 m_ 9 21])
 (.block 0 (.loop (.seq (.seq (.region 0 [
 m_ 22 9,
 o_ 23 (.binI .geq .i64 (t_ 22) (.const (.int .i64 0)))])
 (.cond (t_ 23) .skip (.exit 0)))
 (.seq (.block 1 (.seq (.region 0 [
 m_ 26 0,
 m_ 27 9,
 m_ 28 9,
 o_ 29 (.binI .add .i64 (t_ 28) (.const (.int .i64 1))),
 o_ 30 (.sliceS (t_ 26) (some (t_ 27)) (some (t_ 29))),
 m_ 31 8,
 o_ 32 (.binS .add (t_ 30) (t_ 31)),
 o_ 33 (.call 149 [(t_ 32)]),
 m_ 8 33])
 (.seq (.region 0 [
 o_ 10 (.mov (.const (.int .i64 0)))])
 (.seq (.region 0 [
 o_ 11 (.mov (.const (.int .i64 255)))])
 (.seq (.block 2 (.loop (.seq (.seq (.region 0 [
 m_ 34 10,
 m_ 35 11,
 o_ 36 (.binI .lss .i64 (t_ 34) (t_ 35))])
 (.cond (t_ 36) .skip (.exit 2)))
 (.block 3 (.seq (.region 0 [
 m_ 37 10,
 m_ 38 11,
 o_ 39 (.binI .add .i64 (t_ 37) (t_ 38)),
 o_ 40 (.binI .add .i64 (t_ 39) (.const (.int .i64 1))),
 o_ 41 (.binI .quo .i64 (t_ 40) (.const (.int .i64 2))),
 m_ 12 41])
 (.seq (.region 0 [
 m_ 42 1,
 m_ 43 12,
 o_ 44 (.call 151 [(t_ 42),(t_ 43)]),
 m_ 45 8,
 o_ 46 (.call 150 [(t_ 44),(t_ 45)]),
 o_ 47 (.binI .leq .i64 (t_ 46) (.const (.int .i64 0)))])
 (.cond (t_ 47) (.region 0 [
 m_ 48 12,
 m_ 10 48]) (.region 0 [
 m_ 49 12,
 o_ 50 (.binI .sub .i64 (t_ 49) (.const (.int .i64 1))),
 m_ 11 50]))))))))
 (.seq (.region 0 [
 m_ 52 8,
 m_ 53 1,
 m_ 54 10,
 o_ 55 (.call 151 [(t_ 53),(t_ 54)]),
 o_ 56 (.call 152 [(t_ 52),(t_ 55)]),
 m_ 51 56,
 o_ 57 (.ext (t_ 51) 0),
 o_ 58 (.ext (t_ 51) 1),
 m_ 8 57])
 (.region 0 [
 m_ 59 7,
 m_ 60 9,
 m_ 61 10,
 o_ 62 (.conv .u8 (t_ 61)),
 o_ 63 (.iaddr 1 (t_ 59) (t_ 60)),
 s_ (.store 1 (t_ 63) (t_ 62))])))))))
 (.region 0 [
 m_ 24 9,
 o_ 25 (.binI .sub .i64 (t_ 24) (.const (.int .i64 1))),
 m_ 9 25]))))))
def b1131_5:AC:=(.region 0 [
 m_ 64 7,
 o_ 65 (.str (t_ 64)),
 o_ 66 (.call 149 [(t_ 65)]),
 m_ 67 8,
 m_ 4 66,
 m_ 5 67,
 o_ 6 (.mov (.const (.bool true)))])
def b1131_6:AC:=.ret
def b1131:AC:=(.seq b1131_0 (.seq b1131_1 (.seq b1131_2 (.seq b1131_3 (.seq b1131_4 (.seq b1131_5 b1131_6))))))
def ir1131:AF:=⟨68,[(.tmp 4),(.tmp 5),(.tmp 6)],b1131⟩
theorem c1131:compF tt Tryz.f131=some ir1131:=by kernel_rfl
def b1132:AC:=(.seq (.region 1 [
 o_ 1 (.box 0 (t_ 0)),
 o_ 2 (.mov (.const (.int .i64 0)))])
 (.seq (.seq (.region 0 [
 o_ 3 (.faddr 1 (t_ 1)),
 o_ 4 (.load false 1 (t_ 3)),
 o_ 5 (.call 149 [(t_ 4)]),
 o_ 6 (.binS .eql (t_ 5) (.const (.string ⟨#[]⟩)))])
 (.cond (t_ 6) (.seq (.region 0 [
 o_ 2 (.mov (.const (.int .i64 0)))])
 .ret) .skip))
 (.seq (.seq (.region 0 [
 o_ 7 (.faddr 0 (t_ 1)),
 o_ 8 (.load false 1 (t_ 7))])
 (.cond (t_ 8) (.seq (.region 0 [
 o_ 2 (.mov (.const (.int .i64 (-1))))])
 .ret) .skip))
 (.seq (.region 0 [
 o_ 2 (.mov (.const (.int .i64 1)))])
 .ret))))
def ir1132:AF:=⟨9,[(.tmp 2)],b1132⟩
theorem c1132:compF tt Tryz.f132=some ir1132:=by kernel_rfl
def b1135:AC:=(.seq (.region 1 [
 o_ 2 (.zero 0 [(.v (.bool false)),(.v (.string ⟨#[]⟩))])])
 (.seq (.seq (.region 0 [
 m_ 3 0,
 o_ 4 (.binI .lss .i64 (t_ 3) (.const (.int .i64 0)))])
 (.cond (t_ 4) (.seq (.region 0 [
 m_ 5 0,
 o_ 6 (.binI .add .i64 (t_ 5) (.const (.int .i64 1))),
 o_ 7 (.neg .i64 (t_ 6)),
 o_ 8 (.conv .u64 (t_ 7)),
 o_ 9 (.binI .add .u64 (t_ 8) (.const (.int .u64 1))),
 o_ 10 (.call 155 [(t_ 9)]),
 o_ 11 (.call 129 [(.const (.bool true)),(t_ 10)]),
 s_ (.store 2 (t_ 2) (t_ 11))])
 .ret) .skip))
 (.seq (.region 0 [
 m_ 12 0,
 o_ 13 (.conv .u64 (t_ 12)),
 o_ 14 (.call 155 [(t_ 13)]),
 o_ 15 (.call 129 [(.const (.bool false)),(t_ 14)]),
 s_ (.store 2 (t_ 2) (t_ 15))])
 .ret)))
def ir1135:AF:=⟨16,[(.cell 2 true 2)],b1135⟩
theorem c1135:compF tt Tryz.f135=some ir1135:=by kernel_rfl
def b1136:AC:=(.seq (.region 1 [
 o_ 1 (.box 0 (t_ 0)),
 o_ 2 (.mov (.const (.int .i64 0)))])
 (.seq (.seq (.region 0 [
 o_ 3 (.load true 2 (t_ 1)),
 o_ 4 (.call 121 [(t_ 3)]),
 s_ (.store 2 (t_ 1) (t_ 4))])
 (.block 0 (.seq (.region 0 [
 o_ 6 (.faddr 0 (t_ 1)),
 o_ 7 (.load false 1 (t_ 6)),
 m_ 5 7])
 (.cond (t_ 5) (.seq (.region 0 [
 o_ 2 (.mov (.const (.int .i64 (-1))))])
 .ret) (.seq (.region 0 [
 o_ 9 (.faddr 1 (t_ 1)),
 o_ 10 (.load false 1 (t_ 9)),
 o_ 11 (.binS .neq (t_ 10) (.const (.string ⟨#[]⟩))),
 m_ 8 11])
 (.cond (t_ 8) (.seq (.region 0 [
 o_ 2 (.mov (.const (.int .i64 1)))])
 .ret) .skip))))))
 (.seq (.region 0 [
 o_ 2 (.mov (.const (.int .i64 0)))])
 .ret)))
def ir1136:AF:=⟨12,[(.tmp 2)],b1136⟩
theorem c1136:compF tt Tryz.f136=some ir1136:=by kernel_rfl
def b1137:AC:=(.seq (.region 0 [
 o_ 4 (.mov (.const (.string ⟨#[]⟩)))])
 (.seq (.block 0 (.loop (.seq (.seq (.region 0 [
 m_ 12 1,
 o_ 13 (.call 119 [(t_ 12)]),
 o_ 14 (.binS .neq (t_ 13) (.const (.string ⟨#[]⟩)))])
 (.cond (t_ 14) .skip (.exit 0)))
 (.block 1 (.seq (.region 0 [
 m_ 16 0,
 o_ 17 (.call 156 [(t_ 16)]),
 m_ 15 17,
 o_ 18 (.ext (t_ 15) 0),
 o_ 19 (.ext (t_ 15) 1),
 m_ 5 18,
 m_ 6 19])
 (.seq (.region 0 [
 m_ 21 1,
 o_ 22 (.call 156 [(t_ 21)]),
 m_ 20 22,
 o_ 23 (.ext (t_ 20) 0),
 o_ 24 (.ext (t_ 20) 1),
 m_ 7 23,
 m_ 8 24])
 (.seq (.seq (.region 0 [
 m_ 25 6,
 m_ 26 25,
 g_ 27 (.mov (t_ 8)) 26 true,
 o_ 28 (.pick (t_ 26) (t_ 27) (.const (.bool false)))])
 (.cond (t_ 28) (.seq (.block 2 (.loop (.seq (.seq (.region 0 [
 m_ 29 7,
 o_ 30 (.binI .neq .u64 (t_ 29) (.const (.int .u64 0)))])
 (.cond (t_ 30) .skip (.exit 2)))
 (.block 3 (.dregion 0 [
 m_ 31 7,
 m_ 32 5,
 m_ 33 7,
 o_ 34 (.binI .rem .u64 (t_ 32) (t_ 33)),
 m_ 5 31,
 m_ 7 34] [[],[],[],[1,2],[0,0,1],[3,4,0,1,2,3,4]])))))
 (.seq (.region 0 [
 m_ 35 5,
 o_ 36 (.call 142 [(t_ 35)]),
 m_ 4 36])
 .ret)) .skip))
 (.seq (.region 0 [
 m_ 38 0,
 m_ 39 1,
 o_ 40 (.call 139 [(t_ 38),(t_ 39)]),
 m_ 37 40,
 o_ 41 (.ext (t_ 37) 0),
 o_ 42 (.ext (t_ 37) 1),
 o_ 43 (.ext (t_ 37) 2),
 m_ 9 41,
 m_ 10 42,
 m_ 11 43])
 (.region 0 [
 m_ 44 1,
 m_ 45 10,
 m_ 0 44,
 m_ 1 45])))))))))
 (.seq (.region 0 [
 m_ 46 0,
 o_ 47 (.call 119 [(t_ 46)]),
 m_ 4 47])
 .ret)))
def ir1137:AF:=⟨48,[(.tmp 4)],b1137⟩
theorem c1137:compF tt Tryz.f137=some ir1137:=by kernel_rfl
def b1138:AC:=(.seq (.region 0 [
 o_ 3 (.mov (.const (.string ⟨#[]⟩)))])
 (.seq (.region 0 [
 m_ 8 0,
 o_ 9 (.load false 1 (t_ 1)),
 o_ 10 (.call 139 [(t_ 8),(t_ 9)]),
 m_ 7 10,
 o_ 11 (.ext (t_ 7) 0),
 o_ 12 (.ext (t_ 7) 1),
 o_ 13 (.ext (t_ 7) 2),
 m_ 4 11,
 m_ 5 12,
 m_ 6 13])
 (.seq (.region 0 [
 m_ 14 4,
 m_ 3 14])
 .ret)))
def ir1138:AF:=⟨15,[(.tmp 3)],b1138⟩
theorem c1138:compF tt Tryz.f138=some ir1138:=by kernel_rfl
def b1139:AC:=(.seq (.region 0 [
 o_ 4 (.mov (.const (.string ⟨#[]⟩))),
 o_ 5 (.mov (.const (.string ⟨#[]⟩))),
 o_ 6 (.mov (.const (.bool false)))])
 (.seq (.region 0 [
 m_ 12 1,
 o_ 13 (.call 157 [(t_ 12)]),
 m_ 7 13])
 (.seq (.block 0 (.seq (.region 0 [
 m_ 15 7,
 o_ 16 (.lenL (t_ 15)),
 o_ 17 (.binI .eql .i64 (t_ 16) (.const (.int .i64 0))),
 m_ 14 17])
 (.cond (t_ 14) (.seq (.region 0 [
 o_ 4 (.mov (.const (.string ⟨#[]⟩))),
 o_ 5 (.mov (.const (.string ⟨#[]⟩))),
 o_ 6 (.mov (.const (.bool false)))])
 .ret) (.seq (.region 0 [
 m_ 19 0,
 m_ 20 1,
 o_ 21 (.call 158 [(t_ 19),(t_ 20)]),
 o_ 22 (.binI .lss .i64 (t_ 21) (.const (.int .i64 0))),
 m_ 18 22])
 (.cond (t_ 18) (.seq (.region 0 [
 m_ 23 0,
 o_ 24 (.call 119 [(t_ 23)]),
 o_ 4 (.mov (.const (.string ⟨#[]⟩))),
 m_ 5 24,
 o_ 6 (.mov (.const (.bool true)))])
 .ret) (.seq (.region 0 [
 m_ 26 7,
 o_ 27 (.lenL (t_ 26)),
 o_ 28 (.binI .eql .i64 (t_ 27) (.const (.int .i64 1))),
 m_ 25 28])
 (.cond (t_ 25) (.seq (.dregion 0 [
 m_ 30 0,
 o_ 31 (.call 157 [(t_ 30)]),
 m_ 32 7,
 o_ 33 (.iaddr 1 (t_ 32) (.const (.int .i64 0))),
 o_ 34 (.load false 1 (t_ 33)),
 o_ 35 (.call 159 [(t_ 31),(t_ 34)]),
 m_ 29 35,
 o_ 36 (.ext (t_ 29) 0),
 o_ 37 (.ext (t_ 29) 1),
 m_ 8 36,
 m_ 9 37] [[],[0],[],[2],[3],[1,4,1],[5],[6],[6],[7,5,0,1,2,3,4,5,6,7],[8,9,0,1,2,3,4,5,6,7,8,9]])
 (.seq (.region 0 [
 m_ 38 8,
 o_ 39 (.call 160 [(t_ 38)]),
 m_ 40 9,
 o_ 41 (.conv .u64 (t_ 40)),
 o_ 42 (.call 142 [(t_ 41)]),
 m_ 4 39,
 m_ 5 42,
 o_ 6 (.mov (.const (.bool true)))])
 .ret)) .skip)))))))
 (.seq (.region 0 [
 m_ 44 0,
 o_ 45 (.call 157 [(t_ 44)]),
 m_ 46 7,
 o_ 47 (.call 161 [(t_ 45),(t_ 46)]),
 m_ 43 47,
 o_ 48 (.ext (t_ 43) 0),
 o_ 49 (.ext (t_ 43) 1),
 m_ 10 48,
 m_ 11 49])
 (.seq (.region 0 [
 m_ 50 10,
 o_ 51 (.call 160 [(t_ 50)]),
 m_ 52 11,
 o_ 53 (.call 160 [(t_ 52)]),
 m_ 4 51,
 m_ 5 53,
 o_ 6 (.mov (.const (.bool true)))])
 .ret)))))
def ir1139:AF:=⟨54,[(.tmp 4),(.tmp 5),(.tmp 6)],b1139⟩
theorem c1139:compF tt Tryz.f139=some ir1139:=by kernel_rfl
def b1141:AC:=(.seq (.region 1 [
 o_ 4 (.zero 0 [(.v (.bool false)),(.v (.string ⟨#[]⟩))])])
 (.seq (.region 0 [
 m_ 5 0,
 m_ 6 5,
 g_ 7 (.mov (t_ 1)) 6 true,
 g_ 8 (.binS .neq (t_ 7) (.const (.string ⟨#[]⟩))) 6 true,
 o_ 9 (.pick (t_ 6) (t_ 8) (.const (.bool false))),
 m_ 10 1,
 o_ 11 (.build [(.v (.bool false)),(.v (.string ⟨#[]⟩))] [(0,(1,(t_ 9))),(1,(1,(t_ 10)))]),
 s_ (.store 2 (t_ 4) (t_ 11))])
 .ret))
def ir1141:AF:=⟨12,[(.cell 4 true 2)],b1141⟩
theorem c1141:compF tt Tryz.f141=some ir1141:=by kernel_rfl
def b1142:AC:=(.seq (.region 0 [
 o_ 2 (.mov (.const (.string ⟨#[]⟩)))])
 (.seq (.region 1 [
 m_ 3 0,
 o_ 4 (.conv .u32 (t_ 3)),
 m_ 5 0,
 o_ 6 (.shf .shr .u64 (t_ 5) (.const (.int .u64 32))),
 o_ 7 (.conv .u32 (t_ 6)),
 o_ 8 (.bsl 0 1 [(.v (.int .u32 0))] 2 [(0,(t_ 4)),(1,(t_ 7))]),
 o_ 9 (.call 160 [(t_ 8)]),
 m_ 2 9])
 .ret))
def ir1142:AF:=⟨10,[(.tmp 2)],b1142⟩
theorem c1142:compF tt Tryz.f142=some ir1142:=by kernel_rfl
def b1149:AC:=(.seq (.region 0 [
 o_ 2 (.mov (.const (.string ⟨#[]⟩)))])
 (.seq (.region 0 [
 m_ 4 0,
 o_ 5 (.lenS (t_ 4)),
 m_ 3 5])
 (.seq (.block 0 (.loop (.seq (.seq (.region 0 [
 m_ 6 3,
 o_ 7 (.binI .gtr .i64 (t_ 6) (.const (.int .i64 0))),
 m_ 8 7,
 g_ 9 (.mov (t_ 0)) 8 true,
 g_ 10 (.mov (t_ 3)) 8 true,
 g_ 11 (.binI .sub .i64 (t_ 10) (.const (.int .i64 1))) 8 true,
 g_ 12 (.index (t_ 9) (t_ 11)) 8 true,
 g_ 13 (.binI .eql .u8 (t_ 12) (.const (.int .u8 0))) 8 true,
 o_ 14 (.pick (t_ 8) (t_ 13) (.const (.bool false)))])
 (.cond (t_ 14) .skip (.exit 0)))
 (.block 1 (.region 0 [
 m_ 15 3,
 o_ 16 (.binI .sub .i64 (t_ 15) (.const (.int .i64 1))),
 m_ 3 16])))))
 (.seq (.region 0 [
 m_ 17 0,
 m_ 18 3,
 o_ 19 (.sliceS (t_ 17) none (some (t_ 18))),
 m_ 2 19])
 .ret))))
def ir1149:AF:=⟨20,[(.tmp 2)],b1149⟩
theorem c1149:compF tt Tryz.f149=some ir1149:=by kernel_rfl
def b1150:AC:=(.seq (.region 0 [
 o_ 4 (.mov (.const (.int .i64 0)))])
 (.seq (.region 0 [
 m_ 8 0,
 o_ 9 (.call 149 [(t_ 8)]),
 m_ 10 1,
 o_ 11 (.call 149 [(t_ 10)]),
 m_ 5 9,
 m_ 6 11])
 (.seq (.seq (.region 0 [
 m_ 12 5,
 o_ 13 (.lenS (t_ 12)),
 m_ 14 6,
 o_ 15 (.lenS (t_ 14)),
 o_ 16 (.binI .lss .i64 (t_ 13) (t_ 15))])
 (.cond (t_ 16) (.seq (.region 0 [
 o_ 4 (.mov (.const (.int .i64 (-1))))])
 .ret) .skip))
 (.seq (.seq (.region 0 [
 m_ 17 5,
 o_ 18 (.lenS (t_ 17)),
 m_ 19 6,
 o_ 20 (.lenS (t_ 19)),
 o_ 21 (.binI .gtr .i64 (t_ 18) (t_ 20))])
 (.cond (t_ 21) (.seq (.region 0 [
 o_ 4 (.mov (.const (.int .i64 1)))])
 .ret) .skip))
 (.seq (.seq (.region 0 [
 m_ 22 5,
 o_ 23 (.lenS (t_ 22)),
 o_ 24 (.binI .sub .i64 (t_ 23) (.const (.int .i64 1))),
 m_ 7 24])
 (.block 0 (.loop (.seq (.seq (.region 0 [
 m_ 25 7,
 o_ 26 (.binI .geq .i64 (t_ 25) (.const (.int .i64 0)))])
 (.cond (t_ 26) .skip (.exit 0)))
 (.seq (.block 1 (.seq (.seq (.dregion 0 [
 m_ 29 5,
 m_ 30 7,
 o_ 31 (.index (t_ 29) (t_ 30)),
 m_ 32 6,
 m_ 33 7,
 o_ 34 (.index (t_ 32) (t_ 33)),
 o_ 35 (.binI .lss .u8 (t_ 31) (t_ 34))] [[],[],[0,1],[],[],[3,4],[2,5]])
 (.cond (t_ 35) (.seq (.region 0 [
 o_ 4 (.mov (.const (.int .i64 (-1))))])
 .ret) .skip))
 (.seq (.dregion 0 [
 m_ 36 5,
 m_ 37 7,
 o_ 38 (.index (t_ 36) (t_ 37)),
 m_ 39 6,
 m_ 40 7,
 o_ 41 (.index (t_ 39) (t_ 40)),
 o_ 42 (.binI .gtr .u8 (t_ 38) (t_ 41))] [[],[],[0,1],[],[],[3,4],[2,5]])
 (.cond (t_ 42) (.seq (.region 0 [
 o_ 4 (.mov (.const (.int .i64 1)))])
 .ret) .skip))))
 (.region 0 [
 m_ 27 7,
 o_ 28 (.binI .sub .i64 (t_ 27) (.const (.int .i64 1))),
 m_ 7 28]))))))
 (.seq (.region 0 [
 o_ 4 (.mov (.const (.int .i64 0)))])
 .ret))))))
def ir1150:AF:=⟨43,[(.tmp 4)],b1150⟩
theorem c1150:compF tt Tryz.f150=some ir1150:=by kernel_rfl
def b1151:AC:=(.seq (.region 0 [
 o_ 4 (.mov (.const (.string ⟨#[]⟩)))])
 (.seq (.region 1 [
 m_ 5 0,
 m_ 6 1,
 o_ 7 (.conv .u8 (t_ 6)),
 o_ 8 (.bsl 0 1 [(.v (.int .u8 0))] 1 [(0,(t_ 7))]),
 o_ 9 (.str (t_ 8)),
 o_ 10 (.call 168 [(t_ 5),(t_ 9)]),
 m_ 4 10])
 .ret))
def ir1151:AF:=⟨11,[(.tmp 4)],b1151⟩
theorem c1151:compF tt Tryz.f151=some ir1151:=by kernel_rfl
def b1152:AC:=(.seq (.region 0 [
 o_ 4 (.mov (.const (.string ⟨#[]⟩))),
 o_ 5 (.mov (.const (.bool false)))])
 (.seq (.seq (.region 0 [
 m_ 10 0,
 m_ 11 1,
 o_ 12 (.call 150 [(t_ 10),(t_ 11)]),
 o_ 13 (.binI .lss .i64 (t_ 12) (.const (.int .i64 0)))])
 (.cond (t_ 13) (.seq (.region 0 [
 o_ 4 (.mov (.const (.string ⟨#[]⟩))),
 o_ 5 (.mov (.const (.bool false)))])
 .ret) .skip))
 (.seq (.region 1 [
 o_ 14 (.bsl 0 1 [(.v (.int .u8 0))] 0 []),
 m_ 6 14])
 (.seq (.region 0 [
 o_ 7 (.mov (.const (.int .i64 0)))])
 (.seq (.seq (.region 0 [
 o_ 8 (.mov (.const (.int .i64 0)))])
 (.block 0 (.loop (.seq (.seq (.region 0 [
 m_ 15 8,
 m_ 16 0,
 o_ 17 (.lenS (t_ 16)),
 o_ 18 (.binI .lss .i64 (t_ 15) (t_ 17))])
 (.cond (t_ 18) .skip (.exit 0)))
 (.seq (.block 1 (.seq (.region 0 [
 m_ 21 0,
 m_ 22 8,
 o_ 23 (.call 169 [(t_ 21),(t_ 22)]),
 m_ 24 1,
 m_ 25 8,
 o_ 26 (.call 169 [(t_ 24),(t_ 25)]),
 o_ 27 (.binI .sub .i64 (t_ 23) (t_ 26)),
 m_ 28 7,
 o_ 29 (.binI .sub .i64 (t_ 27) (t_ 28)),
 m_ 9 29])
 (.seq (.region 0 [
 o_ 7 (.mov (.const (.int .i64 0)))])
 (.seq (.seq (.region 0 [
 m_ 30 9,
 o_ 31 (.binI .lss .i64 (t_ 30) (.const (.int .i64 0)))])
 (.cond (t_ 31) (.seq (.region 0 [
 m_ 32 9,
 o_ 33 (.binI .add .i64 (t_ 32) (.const (.int .i64 256))),
 m_ 9 33])
 (.region 0 [
 o_ 7 (.mov (.const (.int .i64 1)))])) .skip))
 (.region 2 [
 m_ 34 6,
 m_ 35 9,
 o_ 36 (.conv .u8 (t_ 35)),
 o_ 37 (.bsl 0 1 [(.v (.int .u8 0))] 1 [(0,(t_ 36))]),
 o_ 38 (.app 1 1 1 (t_ 34) (t_ 37)),
 m_ 6 38])))))
 (.region 0 [
 m_ 19 8,
 o_ 20 (.binI .add .i64 (t_ 19) (.const (.int .i64 1))),
 m_ 8 20]))))))
 (.seq (.region 0 [
 m_ 39 6,
 o_ 40 (.str (t_ 39)),
 o_ 41 (.call 149 [(t_ 40)]),
 m_ 4 41,
 o_ 5 (.mov (.const (.bool true)))])
 .ret))))))
def ir1152:AF:=⟨42,[(.tmp 4),(.tmp 5)],b1152⟩
theorem c1152:compF tt Tryz.f152=some ir1152:=by kernel_rfl
def b1155:AC:=(.seq (.region 0 [
 o_ 2 (.mov (.const (.string ⟨#[]⟩)))])
 (.seq (.region 1 [
 o_ 4 (.bsl 0 1 [(.v (.int .u8 0))] 0 []),
 m_ 3 4])
 (.seq (.block 0 (.loop (.seq (.seq (.region 0 [
 m_ 5 0,
 o_ 6 (.binI .gtr .u64 (t_ 5) (.const (.int .u64 0)))])
 (.cond (t_ 6) .skip (.exit 0)))
 (.block 1 (.seq (.region 2 [
 m_ 7 3,
 m_ 8 0,
 o_ 9 (.binI .rem .u64 (t_ 8) (.const (.int .u64 256))),
 o_ 10 (.conv .u8 (t_ 9)),
 o_ 11 (.bsl 0 1 [(.v (.int .u8 0))] 1 [(0,(t_ 10))]),
 o_ 12 (.app 1 1 1 (t_ 7) (t_ 11)),
 m_ 3 12])
 (.region 0 [
 m_ 13 0,
 o_ 14 (.binI .quo .u64 (t_ 13) (.const (.int .u64 256))),
 m_ 0 14]))))))
 (.seq (.region 0 [
 m_ 15 3,
 o_ 16 (.str (t_ 15)),
 m_ 2 16])
 .ret))))
def ir1155:AF:=⟨17,[(.tmp 2)],b1155⟩
theorem c1155:compF tt Tryz.f155=some ir1155:=by kernel_rfl
def b1156:AC:=(.seq (.region 0 [
 o_ 2 (.mov (.const (.int .u64 0))),
 o_ 3 (.mov (.const (.bool false)))])
 (.seq (.region 0 [
 m_ 6 0,
 o_ 7 (.call 119 [(t_ 6)]),
 m_ 0 7])
 (.seq (.seq (.region 0 [
 m_ 8 0,
 o_ 9 (.lenS (t_ 8)),
 o_ 10 (.binI .gtr .i64 (t_ 9) (.const (.int .i64 8)))])
 (.cond (t_ 10) (.seq (.region 0 [
 o_ 2 (.mov (.const (.int .u64 0))),
 o_ 3 (.mov (.const (.bool false)))])
 .ret) .skip))
 (.seq (.region 0 [
 o_ 4 (.mov (.const (.int .u64 0)))])
 (.seq (.seq (.region 0 [
 m_ 11 0,
 o_ 12 (.lenS (t_ 11)),
 o_ 13 (.mov (.const (.int .i64 0)))])
 (.block 0 (.loop (.seq (.region 0 [
 o_ 14 (.binI .lss .i64 (t_ 13) (t_ 12))])
 (.seq (.cond (t_ 14) .skip (.exit 0))
 (.seq (.block 1 (.seq (.region 0 [
 m_ 15 13,
 m_ 5 15])
 (.region 0 [
 m_ 16 4,
 m_ 17 0,
 m_ 18 5,
 o_ 19 (.index (t_ 17) (t_ 18)),
 o_ 20 (.conv .u64 (t_ 19)),
 m_ 21 5,
 o_ 22 (.binI .mul .i64 (.const (.int .i64 8)) (t_ 21)),
 o_ 23 (.shf .shl .u64 (t_ 20) (t_ 22)),
 o_ 24 (.binI .or .u64 (t_ 16) (t_ 23)),
 m_ 4 24])))
 (.region 0 [
 o_ 25 (.binI .add .i64 (t_ 13) (.const (.int .i64 1))),
 m_ 13 25])))))))
 (.seq (.region 0 [
 m_ 26 4,
 m_ 2 26,
 o_ 3 (.mov (.const (.bool true)))])
 .ret))))))
def ir1156:AF:=⟨27,[(.tmp 2),(.tmp 3)],b1156⟩
theorem c1156:compF tt Tryz.f156=some ir1156:=by kernel_rfl
def b1157:AC:=(.seq (.region 0 [
 o_ 2 (.mov (.const (.slice none 0 0)))])
 (.seq (.region 0 [
 m_ 5 0,
 o_ 6 (.call 119 [(t_ 5)]),
 m_ 0 6])
 (.seq (.region 1 [
 m_ 7 0,
 o_ 8 (.lenS (t_ 7)),
 o_ 9 (.binI .add .i64 (t_ 8) (.const (.int .i64 4))),
 o_ 10 (.binI .sub .i64 (t_ 9) (.const (.int .i64 1))),
 o_ 11 (.binI .quo .i64 (t_ 10) (.const (.int .i64 4))),
 o_ 12 (.mksl 0 1 4 [(.v (.int .u32 0))] (t_ 11) (t_ 11)),
 m_ 3 12])
 (.seq (.seq (.region 0 [
 m_ 13 0,
 o_ 14 (.lenS (t_ 13)),
 o_ 15 (.mov (.const (.int .i64 0)))])
 (.block 0 (.loop (.seq (.region 0 [
 o_ 16 (.binI .lss .i64 (t_ 15) (t_ 14))])
 (.seq (.cond (t_ 16) .skip (.exit 0))
 (.seq (.block 1 (.seq (.region 0 [
 m_ 17 15,
 m_ 4 17])
 (.dregion 0 [
 m_ 18 3,
 m_ 19 4,
 o_ 20 (.binI .quo .i64 (t_ 19) (.const (.int .i64 4))),
 o_ 21 (.iaddr 1 (t_ 18) (t_ 20)),
 o_ 22 (.load false 1 (t_ 21)),
 m_ 23 0,
 m_ 24 4,
 o_ 25 (.index (t_ 23) (t_ 24)),
 o_ 26 (.conv .u32 (t_ 25)),
 m_ 27 4,
 o_ 28 (.binI .rem .i64 (t_ 27) (.const (.int .i64 4))),
 o_ 29 (.binI .mul .i64 (.const (.int .i64 8)) (t_ 28)),
 o_ 30 (.shf .shl .u32 (t_ 26) (t_ 29)),
 o_ 31 (.binI .or .u32 (t_ 22) (t_ 30)),
 o_ 32 (.iaddr 1 (t_ 18) (t_ 20)),
 s_ (.store 1 (t_ 32) (t_ 31))] [[],[],[1],[0,2],[3],[],[],[5,6],[7],[],[9],[10],[8,11],[4,12],[0,2,0,1,2,3,4,5,6,7,8,9,10,11,12,13],[14,13,0,1,2,3,4,5,6,7,8,9,10,11,12,13]])))
 (.region 0 [
 o_ 33 (.binI .add .i64 (t_ 15) (.const (.int .i64 1))),
 m_ 15 33])))))))
 (.seq (.region 0 [
 m_ 34 3,
 m_ 2 34])
 .ret)))))
def ir1157:AF:=⟨35,[(.tmp 2)],b1157⟩
theorem c1157:compF tt Tryz.f157=some ir1157:=by kernel_rfl
def b1158:AC:=(.seq (.region 0 [
 o_ 4 (.mov (.const (.int .i64 0)))])
 (.seq (.region 0 [
 m_ 7 0,
 o_ 8 (.call 119 [(t_ 7)]),
 m_ 9 1,
 o_ 10 (.call 119 [(t_ 9)]),
 m_ 0 8,
 m_ 1 10])
 (.seq (.seq (.region 0 [
 m_ 11 0,
 o_ 12 (.lenS (t_ 11)),
 m_ 13 1,
 o_ 14 (.lenS (t_ 13)),
 o_ 15 (.binI .neq .i64 (t_ 12) (t_ 14))])
 (.cond (t_ 15) (.seq (.seq (.region 0 [
 m_ 16 0,
 o_ 17 (.lenS (t_ 16)),
 m_ 18 1,
 o_ 19 (.lenS (t_ 18)),
 o_ 20 (.binI .lss .i64 (t_ 17) (t_ 19))])
 (.cond (t_ 20) (.seq (.region 0 [
 o_ 4 (.mov (.const (.int .i64 (-1))))])
 .ret) .skip))
 (.seq (.region 0 [
 o_ 4 (.mov (.const (.int .i64 1)))])
 .ret)) .skip))
 (.seq (.seq (.region 0 [
 m_ 21 0,
 o_ 22 (.lenS (t_ 21)),
 o_ 23 (.mov (.const (.int .i64 0)))])
 (.block 0 (.loop (.seq (.region 0 [
 o_ 24 (.binI .lss .i64 (t_ 23) (t_ 22))])
 (.seq (.cond (t_ 24) .skip (.exit 0))
 (.seq (.block 1 (.seq (.region 0 [
 m_ 25 23,
 m_ 5 25])
 (.seq (.region 0 [
 m_ 26 0,
 o_ 27 (.lenS (t_ 26)),
 o_ 28 (.binI .sub .i64 (t_ 27) (.const (.int .i64 1))),
 m_ 29 5,
 o_ 30 (.binI .sub .i64 (t_ 28) (t_ 29)),
 m_ 6 30])
 (.seq (.dregion 0 [
 m_ 31 0,
 m_ 32 6,
 o_ 33 (.index (t_ 31) (t_ 32)),
 m_ 34 1,
 m_ 35 6,
 o_ 36 (.index (t_ 34) (t_ 35)),
 o_ 37 (.binI .neq .u8 (t_ 33) (t_ 36))] [[],[],[0,1],[],[],[3,4],[2,5]])
 (.cond (t_ 37) (.seq (.seq (.dregion 0 [
 m_ 38 0,
 m_ 39 6,
 o_ 40 (.index (t_ 38) (t_ 39)),
 m_ 41 1,
 m_ 42 6,
 o_ 43 (.index (t_ 41) (t_ 42)),
 o_ 44 (.binI .lss .u8 (t_ 40) (t_ 43))] [[],[],[0,1],[],[],[3,4],[2,5]])
 (.cond (t_ 44) (.seq (.region 0 [
 o_ 4 (.mov (.const (.int .i64 (-1))))])
 .ret) .skip))
 (.seq (.region 0 [
 o_ 4 (.mov (.const (.int .i64 1)))])
 .ret)) .skip)))))
 (.region 0 [
 o_ 45 (.binI .add .i64 (t_ 23) (.const (.int .i64 1))),
 m_ 23 45])))))))
 (.seq (.region 0 [
 o_ 4 (.mov (.const (.int .i64 0)))])
 .ret)))))
def ir1158:AF:=⟨46,[(.tmp 4)],b1158⟩
theorem c1158:compF tt Tryz.f158=some ir1158:=by kernel_rfl
def b1159:AC:=(.seq (.region 0 [
 o_ 4 (.mov (.const (.slice none 0 0))),
 o_ 5 (.mov (.const (.int .u32 0)))])
 (.seq (.region 1 [
 m_ 10 0,
 o_ 11 (.lenL (t_ 10)),
 o_ 12 (.mksl 0 1 4 [(.v (.int .u32 0))] (t_ 11) (t_ 11)),
 m_ 6 12])
 (.seq (.region 0 [
 o_ 7 (.mov (.const (.int .u32 0)))])
 (.seq (.seq (.region 0 [
 m_ 13 0,
 o_ 14 (.lenL (t_ 13)),
 o_ 15 (.mov (.const (.int .i64 0)))])
 (.block 0 (.loop (.seq (.region 0 [
 o_ 16 (.binI .lss .i64 (t_ 15) (t_ 14))])
 (.seq (.cond (t_ 16) .skip (.exit 0))
 (.seq (.block 1 (.seq (.region 0 [
 m_ 17 15,
 m_ 8 17])
 (.seq (.region 0 [
 m_ 18 0,
 o_ 19 (.lenL (t_ 18)),
 o_ 20 (.binI .sub .i64 (t_ 19) (.const (.int .i64 1))),
 m_ 21 8,
 o_ 22 (.binI .sub .i64 (t_ 20) (t_ 21)),
 m_ 9 22])
 (.region 0 [
 m_ 24 6,
 m_ 25 9,
 m_ 26 7,
 m_ 27 0,
 m_ 28 9,
 o_ 29 (.iaddr 1 (t_ 27) (t_ 28)),
 o_ 30 (.load false 1 (t_ 29)),
 m_ 31 1,
 o_ 32 (.call 170 [(t_ 26),(t_ 30),(t_ 31)]),
 m_ 23 32,
 o_ 33 (.ext (t_ 23) 0),
 o_ 34 (.ext (t_ 23) 1),
 o_ 35 (.iaddr 1 (t_ 24) (t_ 25)),
 s_ (.store 1 (t_ 35) (t_ 33)),
 m_ 7 34]))))
 (.region 0 [
 o_ 36 (.binI .add .i64 (t_ 15) (.const (.int .i64 1))),
 m_ 15 36])))))))
 (.seq (.region 0 [
 m_ 37 6,
 m_ 38 7,
 m_ 4 37,
 m_ 5 38])
 .ret)))))
def ir1159:AF:=⟨39,[(.tmp 4),(.tmp 5)],b1159⟩
theorem c1159:compF tt Tryz.f159=some ir1159:=by kernel_rfl
def b1160:AC:=(.seq (.region 0 [
 o_ 2 (.mov (.const (.string ⟨#[]⟩)))])
 (.seq (.region 1 [
 m_ 7 0,
 o_ 8 (.lenL (t_ 7)),
 o_ 9 (.binI .mul .i64 (.const (.int .i64 4)) (t_ 8)),
 o_ 10 (.mksl 0 1 1 [(.v (.int .u8 0))] (.const (.int .i64 0)) (t_ 9)),
 m_ 3 10])
 (.seq (.seq (.region 0 [
 m_ 11 0,
 o_ 12 (.lenL (t_ 11)),
 o_ 13 (.mov (.const (.int .i64 0)))])
 (.block 0 (.loop (.seq (.region 0 [
 o_ 14 (.binI .lss .i64 (t_ 13) (t_ 12))])
 (.seq (.cond (t_ 14) .skip (.exit 0))
 (.seq (.block 1 (.seq (.region 0 [
 o_ 15 (.iaddr 1 (t_ 11) (t_ 13)),
 o_ 16 (.load false 1 (t_ 15)),
 m_ 5 16])
 (.seq (.region 0 [
 o_ 17 (.mov (.const (.int .i64 0)))])
 (.block 2 (.loop (.seq (.region 0 [
 o_ 18 (.binI .lss .i64 (t_ 17) (.const (.int .i64 4)))])
 (.seq (.cond (t_ 18) .skip (.exit 2))
 (.seq (.block 3 (.seq (.region 0 [
 m_ 19 17,
 m_ 6 19])
 (.region 2 [
 m_ 20 3,
 m_ 21 5,
 m_ 22 6,
 o_ 23 (.binI .mul .i64 (.const (.int .i64 8)) (t_ 22)),
 o_ 24 (.shf .shr .u32 (t_ 21) (t_ 23)),
 o_ 25 (.conv .u8 (t_ 24)),
 o_ 26 (.bsl 0 1 [(.v (.int .u8 0))] 1 [(0,(t_ 25))]),
 o_ 27 (.app 1 1 1 (t_ 20) (t_ 26)),
 m_ 3 27])))
 (.region 0 [
 o_ 28 (.binI .add .i64 (t_ 17) (.const (.int .i64 1))),
 m_ 17 28])))))))))
 (.region 0 [
 o_ 29 (.binI .add .i64 (t_ 13) (.const (.int .i64 1))),
 m_ 13 29])))))))
 (.seq (.region 0 [
 m_ 30 3,
 o_ 31 (.str (t_ 30)),
 o_ 32 (.call 119 [(t_ 31)]),
 m_ 2 32])
 .ret))))
def ir1160:AF:=⟨33,[(.tmp 2)],b1160⟩
theorem c1160:compF tt Tryz.f160=some ir1160:=by kernel_rfl
def b1161_0:AC:=(.region 0 [
 o_ 4 (.mov (.const (.slice none 0 0))),
 o_ 5 (.mov (.const (.slice none 0 0)))])
def b1161_1:AC:=(.region 0 [
 m_ 15 1,
 m_ 16 1,
 o_ 17 (.lenL (t_ 16)),
 o_ 18 (.binI .sub .i64 (t_ 17) (.const (.int .i64 1))),
 o_ 19 (.iaddr 1 (t_ 15) (t_ 18)),
 o_ 20 (.load false 1 (t_ 19)),
 o_ 21 (.call 171 [(t_ 20)]),
 m_ 6 21])
def b1161_2:AC:=(.region 0 [
 m_ 22 1,
 m_ 23 6,
 o_ 24 (.call 172 [(t_ 22),(t_ 23)]),
 m_ 25 1,
 o_ 26 (.lenL (t_ 25)),
 o_ 27 (.slice 1 (t_ 24) none (some (t_ 26))),
 m_ 1 27])
def b1161_3:AC:=(.region 0 [
 m_ 28 0,
 m_ 29 6,
 o_ 30 (.call 172 [(t_ 28),(t_ 29)]),
 m_ 0 30])
def b1161_4:AC:=(.region 0 [
 m_ 31 1,
 o_ 32 (.lenL (t_ 31)),
 m_ 7 32])
def b1161_5:AC:=(.region 0 [
 m_ 33 1,
 m_ 34 7,
 o_ 35 (.binI .sub .i64 (t_ 34) (.const (.int .i64 1))),
 o_ 36 (.iaddr 1 (t_ 33) (t_ 35)),
 o_ 37 (.load false 1 (t_ 36)),
 m_ 8 37])
def b1161_6:AC:=(.region 1 [
 m_ 38 0,
 o_ 39 (.lenL (t_ 38)),
 m_ 40 7,
 o_ 41 (.binI .sub .i64 (t_ 39) (t_ 40)),
 o_ 42 (.maxmin true .i64 (t_ 41) (.const (.int .i64 0))),
 o_ 43 (.mksl 0 1 4 [(.v (.int .u32 0))] (t_ 42) (t_ 42)),
 m_ 9 43])
def b1161_7:AC:=(.seq (.region 0 [
 m_ 44 9,
 o_ 45 (.lenL (t_ 44)),
 o_ 46 (.mov (.const (.int .i64 0)))])
 (.block 0 (.loop (.seq (.region 0 [
 o_ 47 (.binI .lss .i64 (t_ 46) (t_ 45))])
 (.seq (.cond (t_ 47) .skip (.exit 0))
 (.seq (.block 1 (.seq (.region 0 [
 m_ 48 46,
 m_ 10 48])
 (.seq (.region 0 [
 m_ 49 9,
 o_ 50 (.lenL (t_ 49)),
 o_ 51 (.binI .sub .i64 (t_ 50) (.const (.int .i64 1))),
 m_ 52 10,
 o_ 53 (.binI .sub .i64 (t_ 51) (t_ 52)),
 m_ 11 53])
 (.seq (.dregion 0 [
 m_ 54 0,
 m_ 55 11,
 m_ 56 7,
 o_ 57 (.binI .add .i64 (t_ 55) (t_ 56)),
 o_ 58 (.iaddr 1 (t_ 54) (t_ 57)),
 o_ 59 (.load false 1 (t_ 58)),
 o_ 60 (.conv .u64 (t_ 59)),
 o_ 61 (.shf .shl .u64 (t_ 60) (.const (.int .u64 32))),
 m_ 62 0,
 m_ 63 11,
 m_ 64 7,
 o_ 65 (.binI .add .i64 (t_ 63) (t_ 64)),
 o_ 66 (.binI .sub .i64 (t_ 65) (.const (.int .i64 1))),
 o_ 67 (.iaddr 1 (t_ 62) (t_ 66)),
 o_ 68 (.load false 1 (t_ 67)),
 o_ 69 (.conv .u64 (t_ 68)),
 o_ 70 (.binI .or .u64 (t_ 61) (t_ 69)),
 m_ 12 70] [[],[],[],[1,2],[0,3],[4],[5],[6],[],[],[],[9,10],[11],[8,12],[13],[14],[7,15],[16,0,1,2,3,4,5,6,7,8,9,10,11,12,13,14,15,16]])
 (.seq (.dregion 0 [
 m_ 71 12,
 m_ 72 8,
 o_ 73 (.conv .u64 (t_ 72)),
 o_ 74 (.binI .quo .u64 (t_ 71) (t_ 73)),
 m_ 75 12,
 m_ 76 8,
 o_ 77 (.conv .u64 (t_ 76)),
 o_ 78 (.binI .rem .u64 (t_ 75) (t_ 77)),
 m_ 13 74,
 m_ 14 78] [[],[],[1],[0,2],[],[],[5],[4,6],[3,0,1,2,3],[7,8,0,1,2,3,4,5,6,7,8]])
 (.seq (.block 2 (.loop (.seq (.seq (.dregion 0 [
 m_ 79 13,
 o_ 80 (.binI .gtr .u64 (t_ 79) (.const (.int .u64 4294967295))),
 m_ 81 80,
 g_ 82 (.mov (t_ 13)) 81 false,
 g_ 83 (.mov (t_ 1)) 81 false,
 g_ 84 (.mov (t_ 7)) 81 false,
 g_ 85 (.binI .sub .i64 (t_ 84) (.const (.int .i64 2))) 81 false,
 g_ 86 (.iaddr 1 (t_ 83) (t_ 85)) 81 false,
 g_ 87 (.load false 1 (t_ 86)) 81 false,
 g_ 88 (.conv .u64 (t_ 87)) 81 false,
 g_ 89 (.binI .mul .u64 (t_ 82) (t_ 88)) 81 false,
 g_ 90 (.mov (t_ 14)) 81 false,
 g_ 91 (.shf .shl .u64 (t_ 90) (.const (.int .u64 32))) 81 false,
 g_ 92 (.mov (t_ 0)) 81 false,
 g_ 93 (.mov (t_ 11)) 81 false,
 g_ 94 (.mov (t_ 7)) 81 false,
 g_ 95 (.binI .add .i64 (t_ 93) (t_ 94)) 81 false,
 g_ 96 (.binI .sub .i64 (t_ 95) (.const (.int .i64 2))) 81 false,
 g_ 97 (.iaddr 1 (t_ 92) (t_ 96)) 81 false,
 g_ 98 (.load false 1 (t_ 97)) 81 false,
 g_ 99 (.conv .u64 (t_ 98)) 81 false,
 g_ 100 (.binI .or .u64 (t_ 91) (t_ 99)) 81 false,
 g_ 101 (.binI .gtr .u64 (t_ 89) (t_ 100)) 81 false,
 o_ 102 (.pick (t_ 81) (.const (.bool true)) (t_ 101))] [[],[0],[1],[2],[2],[2],[5,2],[4,6,2],[7,2],[8,2],[3,9,2],[2],[11,2],[2],[2],[2],[14,15,2],[16,2],[13,17,2],[18,2],[19,2],[12,20,2],[10,21,2],[2,22]])
 (.cond (t_ 102) .skip (.exit 2)))
 (.block 3 (.seq (.region 0 [
 m_ 103 13,
 o_ 104 (.binI .sub .u64 (t_ 103) (.const (.int .u64 1))),
 m_ 105 14,
 m_ 106 8,
 o_ 107 (.conv .u64 (t_ 106)),
 o_ 108 (.binI .add .u64 (t_ 105) (t_ 107)),
 m_ 13 104,
 m_ 14 108])
 (.seq (.region 0 [
 m_ 109 14,
 o_ 110 (.binI .gtr .u64 (t_ 109) (.const (.int .u64 4294967295)))])
 (.cond (t_ 110) (.exit 2) .skip)))))))
 (.seq (.seq (.region 0 [
 m_ 111 0,
 m_ 112 11,
 m_ 113 11,
 m_ 114 7,
 o_ 115 (.binI .add .i64 (t_ 113) (t_ 114)),
 o_ 116 (.binI .add .i64 (t_ 115) (.const (.int .i64 1))),
 o_ 117 (.slice 1 (t_ 111) (some (t_ 112)) (some (t_ 116))),
 m_ 118 1,
 m_ 119 13,
 o_ 120 (.conv .u32 (t_ 119)),
 o_ 121 (.call 173 [(t_ 117),(t_ 118),(t_ 120)])])
 (.cond (t_ 121) (.region 0 [
 m_ 122 13,
 o_ 123 (.binI .sub .u64 (t_ 122) (.const (.int .u64 1))),
 m_ 13 123]) .skip))
 (.region 0 [
 m_ 124 9,
 m_ 125 11,
 m_ 126 13,
 o_ 127 (.conv .u32 (t_ 126)),
 o_ 128 (.iaddr 1 (t_ 124) (t_ 125)),
 s_ (.store 1 (t_ 128) (t_ 127))]))))))))
 (.region 0 [
 o_ 129 (.binI .add .i64 (t_ 46) (.const (.int .i64 1))),
 m_ 46 129])))))))
def b1161_8:AC:=(.region 0 [
 m_ 130 9,
 m_ 131 0,
 m_ 132 7,
 o_ 133 (.slice 1 (t_ 131) none (some (t_ 132))),
 m_ 134 6,
 o_ 135 (.call 174 [(t_ 133),(t_ 134)]),
 m_ 4 130,
 m_ 5 135])
def b1161_9:AC:=.ret
def b1161:AC:=(.seq b1161_0 (.seq b1161_1 (.seq b1161_2 (.seq b1161_3 (.seq b1161_4 (.seq b1161_5 (.seq b1161_6 (.seq b1161_7 (.seq b1161_8 b1161_9)))))))))
def ir1161:AF:=⟨136,[(.tmp 4),(.tmp 5)],b1161⟩
theorem c1161:compF tt Tryz.f161=some ir1161:=by kernel_rfl
def b1168_0:AC:=(.region 0 [
 o_ 4 (.mov (.const (.string ⟨#[]⟩)))])
def b1168_1:AC:=(.region 1 [
 m_ 13 0,
 o_ 14 (.lenS (t_ 13)),
 m_ 15 1,
 o_ 16 (.lenS (t_ 15)),
 o_ 17 (.binI .add .i64 (t_ 14) (t_ 16)),
 o_ 18 (.binI .add .i64 (t_ 17) (.const (.int .i64 1))),
 o_ 19 (.mksl 0 1 8 [(.v (.int .i64 0))] (t_ 18) (t_ 18)),
 m_ 5 19])
def b1168_2:AC:=(.seq (.region 0 [
 o_ 6 (.mov (.const (.int .i64 0)))])
 (.block 0 (.loop (.seq (.seq (.region 0 [
 m_ 20 6,
 m_ 21 0,
 o_ 22 (.lenS (t_ 21)),
 o_ 23 (.binI .lss .i64 (t_ 20) (t_ 22))])
 (.cond (t_ 23) .skip (.exit 0)))
 (.seq (.block 1 (.seq (.region 0 [
 o_ 7 (.mov (.const (.int .i64 0)))])
 (.seq (.region 0 [
 o_ 8 (.mov (.const (.int .i64 0)))])
 (.block 2 (.loop (.seq (.seq (.region 0 [
 m_ 26 8,
 m_ 27 1,
 o_ 28 (.lenS (t_ 27)),
 o_ 29 (.binI .lss .i64 (t_ 26) (t_ 28)),
 m_ 30 29,
 g_ 31 (.mov (t_ 7)) 30 false,
 g_ 32 (.binI .gtr .i64 (t_ 31) (.const (.int .i64 0))) 30 false,
 o_ 33 (.pick (t_ 30) (.const (.bool true)) (t_ 32))])
 (.cond (t_ 33) .skip (.exit 2)))
 (.seq (.block 3 (.seq (.dregion 0 [
 m_ 36 5,
 m_ 37 6,
 m_ 38 8,
 o_ 39 (.binI .add .i64 (t_ 37) (t_ 38)),
 o_ 40 (.iaddr 1 (t_ 36) (t_ 39)),
 o_ 41 (.load false 1 (t_ 40)),
 m_ 42 0,
 m_ 43 6,
 o_ 44 (.call 169 [(t_ 42),(t_ 43)]),
 m_ 45 1,
 m_ 46 8,
 o_ 47 (.call 169 [(t_ 45),(t_ 46)]),
 o_ 48 (.binI .mul .i64 (t_ 44) (t_ 47)),
 o_ 49 (.binI .add .i64 (t_ 41) (t_ 48)),
 m_ 50 7,
 o_ 51 (.binI .add .i64 (t_ 49) (t_ 50)),
 m_ 9 51] [[],[],[],[1,2],[0,3],[4],[],[],[6,7],[],[],[9,10,8],[8,11],[5,12],[],[13,14],[15,11,0,1,2,3,4,5,6,7,8,9,10,11,12,13,14,15]])
 (.seq (.region 0 [
 m_ 52 5,
 m_ 53 6,
 m_ 54 8,
 o_ 55 (.binI .add .i64 (t_ 53) (t_ 54)),
 m_ 56 9,
 o_ 57 (.binI .rem .i64 (t_ 56) (.const (.int .i64 256))),
 o_ 58 (.iaddr 1 (t_ 52) (t_ 55)),
 s_ (.store 1 (t_ 58) (t_ 57))])
 (.region 0 [
 m_ 59 9,
 o_ 60 (.binI .quo .i64 (t_ 59) (.const (.int .i64 256))),
 m_ 7 60]))))
 (.region 0 [
 m_ 34 8,
 o_ 35 (.binI .add .i64 (t_ 34) (.const (.int .i64 1))),
 m_ 8 35]))))))))
 (.region 0 [
 m_ 24 6,
 o_ 25 (.binI .add .i64 (t_ 24) (.const (.int .i64 1))),
 m_ 6 25]))))))
def b1168_3:AC:=(.region 1 [
 o_ 61 (.bsl 0 1 [(.v (.int .u8 0))] 0 []),
 m_ 10 61])
def b1168_4:AC:=(.seq (.region 0 [
 m_ 62 5,
 o_ 63 (.lenL (t_ 62)),
 o_ 64 (.mov (.const (.int .i64 0)))])
 (.block 4 (.loop (.seq (.region 0 [
 o_ 65 (.binI .lss .i64 (t_ 64) (t_ 63))])
 (.seq (.cond (t_ 65) .skip (.exit 4))
 (.seq (.block 5 (.seq (.region 0 [
 o_ 66 (.iaddr 1 (t_ 62) (t_ 64)),
 o_ 67 (.load false 1 (t_ 66)),
 m_ 12 67])
 (.region 2 [
 m_ 68 10,
 m_ 69 12,
 o_ 70 (.conv .u8 (t_ 69)),
 o_ 71 (.bsl 0 1 [(.v (.int .u8 0))] 1 [(0,(t_ 70))]),
 o_ 72 (.app 1 1 1 (t_ 68) (t_ 71)),
 m_ 10 72])))
 (.region 0 [
 o_ 73 (.binI .add .i64 (t_ 64) (.const (.int .i64 1))),
 m_ 64 73])))))))
def b1168_5:AC:=(.region 0 [
 m_ 74 10,
 o_ 75 (.str (t_ 74)),
 o_ 76 (.call 149 [(t_ 75)]),
 m_ 4 76])
def b1168_6:AC:=.ret
def b1168:AC:=(.seq b1168_0 (.seq b1168_1 (.seq b1168_2 (.seq b1168_3 (.seq b1168_4 (.seq b1168_5 b1168_6))))))
def ir1168:AF:=⟨77,[(.tmp 4)],b1168⟩
theorem c1168:compF tt Tryz.f168=some ir1168:=by kernel_rfl
def b1169:AC:=(.seq (.region 0 [
 o_ 4 (.mov (.const (.int .i64 0)))])
 (.seq (.seq (.region 0 [
 m_ 5 1,
 m_ 6 0,
 o_ 7 (.lenS (t_ 6)),
 o_ 8 (.binI .lss .i64 (t_ 5) (t_ 7))])
 (.cond (t_ 8) (.seq (.region 0 [
 m_ 9 0,
 m_ 10 1,
 o_ 11 (.index (t_ 9) (t_ 10)),
 o_ 12 (.conv .i64 (t_ 11)),
 m_ 4 12])
 .ret) .skip))
 (.seq (.region 0 [
 o_ 4 (.mov (.const (.int .i64 0)))])
 .ret)))
def ir1169:AF:=⟨13,[(.tmp 4)],b1169⟩
theorem c1169:compF tt Tryz.f169=some ir1169:=by kernel_rfl
def b1172:AC:=(.seq (.region 0 [
 o_ 4 (.mov (.const (.slice none 0 0)))])
 (.seq (.region 1 [
 m_ 9 0,
 o_ 10 (.lenL (t_ 9)),
 o_ 11 (.binI .add .i64 (t_ 10) (.const (.int .i64 1))),
 o_ 12 (.mksl 0 1 4 [(.v (.int .u32 0))] (t_ 11) (t_ 11)),
 m_ 5 12])
 (.seq (.seq (.region 0 [
 m_ 13 0,
 o_ 14 (.lenL (t_ 13)),
 o_ 15 (.mov (.const (.int .i64 0)))])
 (.block 0 (.loop (.seq (.region 0 [
 o_ 16 (.binI .lss .i64 (t_ 15) (t_ 14))])
 (.seq (.cond (t_ 16) .skip (.exit 0))
 (.seq (.block 1 (.seq (.region 0 [
 m_ 17 15,
 o_ 18 (.iaddr 1 (t_ 13) (t_ 15)),
 o_ 19 (.load false 1 (t_ 18)),
 m_ 6 17,
 m_ 7 19])
 (.seq (.region 0 [
 m_ 20 7,
 o_ 21 (.conv .u64 (t_ 20)),
 m_ 22 1,
 o_ 23 (.shf .shl .u64 (t_ 21) (t_ 22)),
 m_ 8 23])
 (.seq (.region 0 [
 m_ 24 5,
 m_ 25 6,
 o_ 26 (.iaddr 1 (t_ 24) (t_ 25)),
 o_ 27 (.load false 1 (t_ 26)),
 m_ 28 8,
 o_ 29 (.conv .u32 (t_ 28)),
 o_ 30 (.binI .or .u32 (t_ 27) (t_ 29)),
 o_ 31 (.iaddr 1 (t_ 24) (t_ 25)),
 s_ (.store 1 (t_ 31) (t_ 30))])
 (.region 0 [
 m_ 32 5,
 m_ 33 6,
 o_ 34 (.binI .add .i64 (t_ 33) (.const (.int .i64 1))),
 m_ 35 8,
 o_ 36 (.shf .shr .u64 (t_ 35) (.const (.int .u64 32))),
 o_ 37 (.conv .u32 (t_ 36)),
 o_ 38 (.iaddr 1 (t_ 32) (t_ 34)),
 s_ (.store 1 (t_ 38) (t_ 37))])))))
 (.region 0 [
 o_ 39 (.binI .add .i64 (t_ 15) (.const (.int .i64 1))),
 m_ 15 39])))))))
 (.seq (.region 0 [
 m_ 40 5,
 m_ 4 40])
 .ret))))
def ir1172:AF:=⟨41,[(.tmp 4)],b1172⟩
theorem c1172:compF tt Tryz.f172=some ir1172:=by kernel_rfl
def b1173_0:AC:=(.region 0 [
 o_ 6 (.mov (.const (.bool false)))])
def b1173_1:AC:=(.region 0 [
 o_ 7 (.mov (.const (.int .u64 0))),
 o_ 8 (.mov (.const (.int .u32 0)))])
def b1173_2:AC:=(.seq (.region 0 [
 m_ 15 1,
 o_ 16 (.lenL (t_ 15)),
 o_ 17 (.mov (.const (.int .i64 0)))])
 (.block 0 (.loop (.seq (.region 0 [
 o_ 18 (.binI .lss .i64 (t_ 17) (t_ 16))])
 (.seq (.cond (t_ 18) .skip (.exit 0))
 (.seq (.block 1 (.seq (.region 0 [
 m_ 19 17,
 o_ 20 (.iaddr 1 (t_ 15) (t_ 17)),
 o_ 21 (.load false 1 (t_ 20)),
 m_ 9 19,
 m_ 10 21])
 (.seq (.region 0 [
 m_ 22 10,
 o_ 23 (.conv .u64 (t_ 22)),
 m_ 24 2,
 o_ 25 (.conv .u64 (t_ 24)),
 o_ 26 (.binI .mul .u64 (t_ 23) (t_ 25)),
 m_ 27 7,
 o_ 28 (.binI .add .u64 (t_ 26) (t_ 27)),
 m_ 11 28])
 (.seq (.region 0 [
 m_ 29 11,
 o_ 30 (.shf .shr .u64 (t_ 29) (.const (.int .u64 32))),
 m_ 7 30])
 (.region 0 [
 m_ 32 0,
 m_ 33 9,
 m_ 34 0,
 m_ 35 9,
 o_ 36 (.iaddr 1 (t_ 34) (t_ 35)),
 o_ 37 (.load false 1 (t_ 36)),
 m_ 38 11,
 o_ 39 (.conv .u32 (t_ 38)),
 m_ 40 8,
 o_ 41 (.call 178 [(t_ 37),(t_ 39),(t_ 40)]),
 m_ 31 41,
 o_ 42 (.ext (t_ 31) 0),
 o_ 43 (.ext (t_ 31) 1),
 o_ 44 (.iaddr 1 (t_ 32) (t_ 33)),
 s_ (.store 1 (t_ 44) (t_ 42)),
 m_ 8 43])))))
 (.region 0 [
 o_ 45 (.binI .add .i64 (t_ 17) (.const (.int .i64 1))),
 m_ 17 45])))))))
def b1173_3:AC:=(.region 0 [
 m_ 47 0,
 m_ 48 1,
 o_ 49 (.lenL (t_ 48)),
 m_ 50 0,
 m_ 51 1,
 o_ 52 (.lenL (t_ 51)),
 o_ 53 (.iaddr 1 (t_ 50) (t_ 52)),
 o_ 54 (.load false 1 (t_ 53)),
 m_ 55 7,
 o_ 56 (.conv .u32 (t_ 55)),
 m_ 57 8,
 o_ 58 (.call 178 [(t_ 54),(t_ 56),(t_ 57)]),
 m_ 46 58,
 o_ 59 (.ext (t_ 46) 0),
 o_ 60 (.ext (t_ 46) 1),
 o_ 61 (.iaddr 1 (t_ 47) (t_ 49)),
 s_ (.store 1 (t_ 61) (t_ 59)),
 m_ 8 60])
def b1173_4:AC:=(.seq (.region 0 [
 m_ 62 8,
 o_ 63 (.binI .eql .u32 (t_ 62) (.const (.int .u32 0)))])
 (.cond (t_ 63) (.seq (.region 0 [
 o_ 6 (.mov (.const (.bool false)))])
 .ret) .skip))
def b1173_5:AC:=(.region 0 [
 o_ 12 (.mov (.const (.int .u32 0)))])
def b1173_6:AC:=(.seq (.region 0 [
 m_ 64 1,
 o_ 65 (.lenL (t_ 64)),
 o_ 66 (.mov (.const (.int .i64 0)))])
 (.block 2 (.loop (.seq (.region 0 [
 o_ 67 (.binI .lss .i64 (t_ 66) (t_ 65))])
 (.seq (.cond (t_ 67) .skip (.exit 2))
 (.seq (.block 3 (.seq (.region 0 [
 m_ 68 66,
 o_ 69 (.iaddr 1 (t_ 64) (t_ 66)),
 o_ 70 (.load false 1 (t_ 69)),
 m_ 13 68,
 m_ 14 70])
 (.region 0 [
 m_ 72 0,
 m_ 73 13,
 m_ 74 0,
 m_ 75 13,
 o_ 76 (.iaddr 1 (t_ 74) (t_ 75)),
 o_ 77 (.load false 1 (t_ 76)),
 m_ 78 14,
 m_ 79 12,
 o_ 80 (.call 179 [(t_ 77),(t_ 78),(t_ 79)]),
 m_ 71 80,
 o_ 81 (.ext (t_ 71) 0),
 o_ 82 (.ext (t_ 71) 1),
 o_ 83 (.iaddr 1 (t_ 72) (t_ 73)),
 s_ (.store 1 (t_ 83) (t_ 81)),
 m_ 12 82])))
 (.region 0 [
 o_ 84 (.binI .add .i64 (t_ 66) (.const (.int .i64 1))),
 m_ 66 84])))))))
def b1173_7:AC:=(.region 0 [
 m_ 85 0,
 m_ 86 1,
 o_ 87 (.lenL (t_ 86)),
 o_ 88 (.iaddr 1 (t_ 85) (t_ 87)),
 o_ 89 (.load false 1 (t_ 88)),
 m_ 90 12,
 o_ 91 (.binI .add .u32 (t_ 89) (t_ 90)),
 o_ 92 (.iaddr 1 (t_ 85) (t_ 87)),
 s_ (.store 1 (t_ 92) (t_ 91))])
def b1173_8:AC:=(.region 0 [
 o_ 6 (.mov (.const (.bool true)))])
def b1173_9:AC:=.ret
def b1173:AC:=(.seq b1173_0 (.seq b1173_1 (.seq b1173_2 (.seq b1173_3 (.seq b1173_4 (.seq b1173_5 (.seq b1173_6 (.seq b1173_7 (.seq b1173_8 b1173_9)))))))))
def ir1173:AF:=⟨93,[(.tmp 6)],b1173⟩
theorem c1173:compF tt Tryz.f173=some ir1173:=by kernel_rfl
def b1174:AC:=(.seq (.region 0 [
 o_ 4 (.mov (.const (.slice none 0 0)))])
 (.seq (.region 1 [
 m_ 8 0,
 o_ 9 (.lenL (t_ 8)),
 o_ 10 (.mksl 0 1 4 [(.v (.int .u32 0))] (t_ 9) (t_ 9)),
 m_ 5 10])
 (.seq (.seq (.region 0 [
 m_ 11 0,
 o_ 12 (.lenL (t_ 11)),
 o_ 13 (.mov (.const (.int .i64 0)))])
 (.block 0 (.loop (.seq (.region 0 [
 o_ 14 (.binI .lss .i64 (t_ 13) (t_ 12))])
 (.seq (.cond (t_ 14) .skip (.exit 0))
 (.seq (.block 1 (.seq (.region 0 [
 m_ 15 13,
 m_ 6 15])
 (.seq (.region 0 [
 m_ 16 0,
 m_ 17 6,
 o_ 18 (.iaddr 1 (t_ 16) (t_ 17)),
 o_ 19 (.load false 1 (t_ 18)),
 o_ 20 (.conv .u64 (t_ 19)),
 m_ 7 20])
 (.seq (.seq (.region 0 [
 m_ 21 6,
 o_ 22 (.binI .add .i64 (t_ 21) (.const (.int .i64 1))),
 m_ 23 0,
 o_ 24 (.lenL (t_ 23)),
 o_ 25 (.binI .lss .i64 (t_ 22) (t_ 24))])
 (.cond (t_ 25) (.region 0 [
 m_ 26 7,
 m_ 27 0,
 m_ 28 6,
 o_ 29 (.binI .add .i64 (t_ 28) (.const (.int .i64 1))),
 o_ 30 (.iaddr 1 (t_ 27) (t_ 29)),
 o_ 31 (.load false 1 (t_ 30)),
 o_ 32 (.conv .u64 (t_ 31)),
 o_ 33 (.shf .shl .u64 (t_ 32) (.const (.int .u64 32))),
 o_ 34 (.binI .or .u64 (t_ 26) (t_ 33)),
 m_ 7 34]) .skip))
 (.region 0 [
 m_ 35 5,
 m_ 36 6,
 m_ 37 7,
 m_ 38 1,
 o_ 39 (.shf .shr .u64 (t_ 37) (t_ 38)),
 o_ 40 (.conv .u32 (t_ 39)),
 o_ 41 (.iaddr 1 (t_ 35) (t_ 36)),
 s_ (.store 1 (t_ 41) (t_ 40))])))))
 (.region 0 [
 o_ 42 (.binI .add .i64 (t_ 13) (.const (.int .i64 1))),
 m_ 13 42])))))))
 (.seq (.region 0 [
 m_ 43 5,
 m_ 4 43])
 .ret))))
def ir1174:AF:=⟨44,[(.tmp 4)],b1174⟩
theorem c1174:compF tt Tryz.f174=some ir1174:=by kernel_rfl
def b1178:AC:=(.seq (.region 0 [
 o_ 6 (.mov (.const (.int .u32 0))),
 o_ 7 (.mov (.const (.int .u32 0)))])
 (.seq (.region 0 [
 m_ 8 0,
 m_ 9 1,
 o_ 10 (.binI .sub .u32 (t_ 8) (t_ 9)),
 m_ 11 2,
 o_ 12 (.binI .sub .u32 (t_ 10) (t_ 11)),
 m_ 6 12])
 (.seq (.region 0 [
 m_ 13 0,
 o_ 14 (.cpl .u32 (t_ 13)),
 m_ 15 1,
 o_ 16 (.binI .and .u32 (t_ 14) (t_ 15)),
 m_ 17 0,
 m_ 18 1,
 o_ 19 (.binI .xor .u32 (t_ 17) (t_ 18)),
 o_ 20 (.cpl .u32 (t_ 19)),
 m_ 21 6,
 o_ 22 (.binI .and .u32 (t_ 20) (t_ 21)),
 o_ 23 (.binI .or .u32 (t_ 16) (t_ 22)),
 o_ 24 (.shf .shr .u32 (t_ 23) (.const (.int .u64 31))),
 m_ 7 24])
 .ret)))
def ir1178:AF:=⟨25,[(.tmp 6),(.tmp 7)],b1178⟩
theorem c1178:compF tt Tryz.f178=some ir1178:=by kernel_rfl
def b1179:AC:=(.seq (.region 0 [
 o_ 6 (.mov (.const (.int .u32 0))),
 o_ 7 (.mov (.const (.int .u32 0)))])
 (.seq (.region 0 [
 m_ 9 0,
 o_ 10 (.conv .u64 (t_ 9)),
 m_ 11 1,
 o_ 12 (.conv .u64 (t_ 11)),
 o_ 13 (.binI .add .u64 (t_ 10) (t_ 12)),
 m_ 14 2,
 o_ 15 (.conv .u64 (t_ 14)),
 o_ 16 (.binI .add .u64 (t_ 13) (t_ 15)),
 m_ 8 16])
 (.seq (.region 0 [
 m_ 17 8,
 o_ 18 (.conv .u32 (t_ 17)),
 m_ 6 18])
 (.seq (.region 0 [
 m_ 19 8,
 o_ 20 (.shf .shr .u64 (t_ 19) (.const (.int .u64 32))),
 o_ 21 (.conv .u32 (t_ 20)),
 m_ 7 21])
 .ret))))
def ir1179:AF:=⟨22,[(.tmp 6),(.tmp 7)],b1179⟩
theorem c1179:compF tt Tryz.f179=some ir1179:=by kernel_rfl
end Go.Aw.Try
namespace Go.Aw
open Go
variable {P:Program} {G:Gl}
theorem acalls_of_calls {f:Nat} {xs:List Value} {r:Value} (hc:Callable P f) (hone:r.oneCell'=true) (h:∀ w,Calls P f xs.toArray w fun e w'=>e = .returned r∧w'=w) (H:List O) :
  ACalls P G f (xs.map fun x=>.c (.d (.v x))) H fun t H'=>t = .val r∧H'=H:=by
 refine ⟨hc,fun ρ w vs hH hG hv=>?_⟩
 have:vs=xs.toArray:=by
  apply Array.ext
  ·rw [hv.1]; simp
  ·intro i h1 h2
   have hx:(xs.map fun x=>V.c (.d (.v x)))[i]? = some (.c (.d (.v (xs[i]'(by simpa using h2))))):=by simp [show i<xs.length by simpa using h2]
   have:=hv.2 i _ vs[i] hx (by simp)
   simpa using drel_v this
 subst this
 exact (h w).mono fun e w' ⟨e1,e2⟩=>by
  subst e2
  exact ⟨r,_,ρ,H,e1,⟨rfl,rfl⟩,hH,DRel.v _ hone,.refl _⟩
theorem callable_of {f:Nat} {fn:Func} (hf:P.funcs[f]? = some fn) (h1:fn.body.isNone=false) (h2:(fn.name == "runtime.NumGoroutine")=false):Callable P f:=⟨fn,hf,h1,h2⟩
theorem fin_here {N0:Nat} {R:T→List O→Prop} {t:T} {H:List O} (hN:N0≤H.length) (h:R t H):Fin P N0 R t H :=
 ⟨t,H,⟨hN,fun ρ w v hH ht=>⟨ρ,hH,ht,fun _ _=>rfl,fun _ h=>h⟩⟩,h⟩
end Go.Aw
namespace Go.Proofs
open Go
set_option maxHeartbeats 1000000 in
set_option maxRecDepth 100000 in
theorem Try.calls66 (a b:ByteArray) (w:World) :
  Calls Tryz.prog 88 #[.string a,.string b] w fun e w'=>e = .returned (.int .i64 (Lib.compareBytes a.data.toList b.data.toList))∧w'=w:=by
 have mixed:=Checked.mixed Tryz.checked
 go_enter Tryz.func88,Tryz.ntmps88
 go_wp2
 rw [run_callFunc_extern Tryz.func98 (by kernel_rfl) (by kernel_rfl) (by kernel_rfl) (e:=Extern.BytealgCompare.compare) (by kernel_rfl),Lib.run_compareString]
 simp only [Result.andThen]
 rw [Oper.upon_value]
 go_wp2
 go_ret
 exact ⟨rfl,rfl⟩
end Go.Proofs
namespace Go.Aw
open Go
section
variable {P:Program} {G:Gl} {X:XT} {N0:Nat}
theorem wX_skip {st:St} {Q:Qt}:wcodeX P G X N0 .skip st Q=Q .normal st:=rfl
theorem wX_region {n:Nat} {ops:List AOper} {st:St} {Q:Qt}:wcodeX P G X N0 (.region n ops) st Q=wopsX P G X st.hp.length ops (holes n st) (normQ Q):=rfl
theorem wX_dregion {n:Nat} {ops:List AOper} {after:List (List Nat)} {st:St} {Q:Qt} :
  wcodeX P G X N0 (.dregion n ops after) st Q=(drawOk (clos after) ops after=true∧wlex G X st.hp.length (clos after) 0 ops [] [] (holes n st) (normQ Q)):=rfl
theorem wX_seq {x y:AC} {st:St} {Q:Qt}:wcodeX P G X N0 (.seq x y) st Q=wcodeX P G X N0 x st (thenQ (wcodeX P G X N0 y) Q):=rfl
def condC (P:Program) (G:Gl) (X:XT) (N0:Nat) (v:T) (x y:AC) (st:St) (Q:Qt):Prop:=condP v (wcodeX P G X N0 x st Q) (wcodeX P G X N0 y st Q)
theorem wX_cond {c:Operand} {x y:AC} {st:St} {Q:Qt}:wcodeX P G X N0 (.cond c x y) st Q=condC P G X N0 (ev G st.sl c) x y st Q:=rfl
@[simp] theorem condC_t {x y:AC} {st:St} {Q:Qt}:condC P G X N0 (.v (.c (.d (.v (.bool true))))) x y st Q=wcodeX P G X N0 x st Q:=by simp [condC,condP]
@[simp] theorem condC_f {x y:AC} {st:St} {Q:Qt}:condC P G X N0 (.v (.c (.d (.v (.bool false))))) x y st Q=wcodeX P G X N0 y st Q:=by simp [condC,condP]
theorem condC_b {b:Bool} {x y:AC} {st:St} {Q:Qt}:condC P G X N0 (.v (.c (.d (.v (.bool b))))) x y st Q=((b=true→wcodeX P G X N0 x st Q)∧(b=false→wcodeX P G X N0 y st Q)):=by simp [condC,condP]
theorem wX_block {id:Nat} {x:AC} {st:St} {Q:Qt}:wcodeX P G X N0 (.block id x) st Q=wcodeX P G X N0 x st (blockQ id Q):=rfl
theorem wX_exit {id:Nat} {st:St} {Q:Qt}:wcodeX P G X N0 (.exit id) st Q=Q (.exit id) st:=rfl
theorem wX_ret {st:St} {Q:Qt}:wcodeX P G X N0 .ret st Q=Q .ret st:=rfl
theorem thenQ_n {F:St→Qt→Prop} {Q:Qt} {s:St}:thenQ F Q .normal s=F s Q:=rfl
theorem thenQ_x {F:St→Qt→Prop} {Q:Qt} {s:St} {i:Nat}:thenQ F Q (.exit i) s=Q (.exit i) s:=rfl
theorem thenQ_r {F:St→Qt→Prop} {Q:Qt} {s:St}:thenQ F Q .ret s=Q .ret s:=rfl
theorem blockQ_n {id:Nat} {Q:Qt} {s:St}:blockQ id Q .normal s=Q .normal s:=rfl
theorem blockQ_x {id i:Nat} {Q:Qt} {s:St}:blockQ id Q (.exit i) s=if i=id then Q .normal s else Q (.exit i) s:=rfl
theorem blockQ_r {id:Nat} {Q:Qt} {s:St}:blockQ id Q .ret s=Q .ret s:=rfl
theorem loopN_x {I:Nat→St→Prop} {k i:Nat} {Q:Qt} {s:St}:loopN P G N0 I k Q (.exit i) s=Q (.exit i) s:=rfl
theorem loopN_r {I:Nat→St→Prop} {k:Nat} {Q:Qt} {s:St}:loopN P G N0 I k Q .ret s=Q .ret s:=rfl
theorem loopN_n {I:Nat→St→Prop} {k:Nat} {Q:Qt} {s:St}:loopN P G N0 I k Q .normal s=wk P G N0 s fun s''=>∃ k',k'<k∧I k' s'':=rfl
theorem wk_pre {H L:List O} {sl:Nat→T} {K:St→Prop} (ids keep:List Nat) (hw:Wf H) (hm:selB ids L.length=true)
  (h:K ⟨ofL (keep.map fun t=>(t,(sl t).ren (phiP H.length ids))),H ++ ids.map fun i=>(L.getD i .dead).ren (phiP H.length ids)⟩):wk P G H.length ⟨sl,H ++ L⟩ K :=
 ⟨_,weak_pre ids keep hw hm,h⟩
theorem wk_nil {L:List O} {sl:Nat→T} {K:St→Prop} (ids keep:List Nat) (hm:selB ids L.length=true)
  (h:K ⟨ofL (keep.map fun t=>(t,(sl t).ren (phi ids))),ids.map fun i=>(L.getD i .dead).ren (phi ids)⟩):wk P G 0 ⟨sl,L⟩ K :=
 ⟨_,weak_sel (N0:=0) (st:=⟨sl,L⟩) ids keep hm (keeps_zero _) (Nat.zero_le _),h⟩
theorem wk_weak {s s':St} {K:St→Prop} (hw:Weak P G N0 s s') (h:wk P G N0 s' K):wk P G N0 s K:=by
 obtain ⟨s2,a,b⟩:=h; exact ⟨s2,hw.trans a,b⟩
theorem app_get0 {H L:List O}:(H ++ L)[H.length]? = L[0]? := by rw [List.getElem?_append_right (Nat.le_refl _),Nat.sub_self]
theorem app_get {H L:List O} (k:Nat):(H ++ L)[H.length+k]? = L[k]? := by rw [List.getElem?_append_right (by omega),Nat.add_sub_cancel_left]
theorem app_set0 {H L:List O} {o:O}:(H ++ L).set H.length o=H ++ L.set 0 o:=by rw [List.set_append_right _ _ (Nat.le_refl _),Nat.sub_self]
theorem app_set {H L:List O} {o:O} (k:Nat):(H ++ L).set (H.length+k) o=H ++ L.set k o:=by rw [List.set_append_right _ _ (by omega),Nat.add_sub_cancel_left]
theorem phiP_0 {N:Nat} {ids:List Nat}:phiP N ids N=match phi ids 0 with | some i=>some (N+i) | none=>none:=by simp only [phiP,Nat.lt_irrefl,if_false,Nat.sub_self]; cases phi ids 0 <;> rfl
theorem phiP_k {N:Nat} {ids:List Nat} (k:Nat):phiP N ids (N+k)=match phi ids k with | some i=>some (N+i) | none=>none:=by
 unfold phiP; rw [if_neg (by omega),Nat.add_sub_cancel_left]; cases phi ids k <;> rfl
theorem fin_nil {R:T→List O→Prop} {t:T} {H:List O} (h:R (t.ren (phi [])) []):Fin P 0 R t H :=
 fin_sel (N0:=0) [] rfl (keeps_zero _) (Nat.zero_le _) h
theorem fin_drop {R:T→List O→Prop} {t:T} {H L:List O} (hw:Wf H) (h:R (t.ren (phiP H.length [])) H):Fin P H.length R t (H ++ L) :=
 fin_pre [] hw rfl (by simpa using h)
theorem ofL_c {d:Nat} {t:T} {r:List (Nat×T)} {i:Nat}:ofL ((d,t) :: r) i=if i=d then t else ofL r i:=rfl
theorem ofL_n {i:Nat}:ofL [] i = .v .any:=rfl
theorem nth_map {α β:Type} [Inhabited α] [Inhabited β] (f:α→β) {l:List α} {i:Nat} (h:i<l.length):nth (l.map f) i=f (nth l i):=by
 simp [nth,List.getD_eq_getElem?_getD,h]
theorem nth_eq {α:Type} [Inhabited α] {l:List α} {i:Nat} (h:i<l.length):nth l i=l[i]:=by simp [nth,List.getD_eq_getElem?_getD,h]
theorem wrap64 {n:Int} (h1:-9223372036854775808≤n) (h2:n≤9223372036854775807):IntKind.i64.wrap n=n:=by
 simp [IntKind.wrap,IntKind.bits,IntKind.signed]; omega
end
@[simp] theorem toD_v {H:List O} {x:Value}:toD H (.d (.v x))=match x with | .slice none 0 _=>some (.sl []) | x=>some (.v x):=by
 unfold toD; split <;> first | rfl | simp_all
 ·rename_i e; subst e; split <;> simp_all
@[simp] theorem toD_sl {H:List O} {x:List (List D)}:toD H (.d (.sl x))=some (.sl x):=by simp [toD]
@[simp] theorem toD_ip {H:List O} {x:List D}:toD H (.d (.ip x))=some (.ip x):=by simp [toD]
@[simp] theorem toD_mp {H:List O} {k:KT} {x:List (Value×PVo D)}:toD H (.d (.mp k x))=some (.mp k x):=by simp [toD]
@[simp] theorem toD_fn {H:List O} {f:Nat} {x:List D}:toD H (.d (.fn f x))=some (.fn f x):=by simp [toD]
@[simp] theorem toD_os {H:List O} {r sz off len:Nat}:toD H (.os r sz off len)=match H[r]? with
  | some (.row sz' xs)=>if sz'=sz∧off+len≤xs.length then some (.sl ((xs.drop off).take len)) else none
  | some (.frow sz' xs)=>if sz'=sz∧off+len≤xs.length then some (.sl ((xs.drop off).take len)) else none
  | _=>none:=by
 first | rfl | (simp only [toD]; done) | (simp only [toD]; rfl)
@[simp] theorem toB_d {n:Nat} {H:List O} {x:D}:toB n H (.d x)=toD H (.d x):=by cases n <;> simp only [toB]
@[simp] theorem toB_os {n:Nat} {H:List O} {r sz off len:Nat}:toB n H (.os r sz off len)=toD H (.os r sz off len):=by cases n <;> simp only [toB]
@[simp] theorem toB_ptr {n:Nat} {H:List O} {r off:Nat}:toB (n+1) H (.ptr r off)=match H[r]? with
  | some (.cells cs)=>(match mapO (toB n H) (cs.drop off) with | some ds=>some (.ip ds) | none=>none)
  | _=>none:=by
 first | rfl | (simp only [toB]; done) | (simp only [toB]; rfl)
@[simp] theorem toB_eptr {n:Nat} {H:List O} {r sz i off:Nat}:toB (n+1) H (.eptr r sz i off)=match H[r]? with
   | some (.row sz' xs)=>if sz'=sz∧i<xs.length then some (.ip ((nth xs i).drop off)) else none
   | some (.frow sz' xs)=>if sz'=sz∧i<xs.length then some (.ip ((nth xs i).drop off)) else none
   | _=>none:=by
 first | rfl | (simp only [toB]; done) | (simp only [toB]; rfl)
@[simp] theorem toB_mp {n:Nat} {H:List O} {r:Nat}:toB (n+1) H (.mp r)=match H[r]? with
   | some (.map kt es)=>some (.mp kt es)
   | _=>none:=by
 first | rfl | (simp only [toB]; done) | (simp only [toB]; rfl)
@[simp] theorem toB_fx {n:Nat} {H:List O} {f:Nat} {caps:List Cap}:toB (n+1) H (.fx f caps)=match mapO (capD (toB n H)) caps with
   | some ds=>some (.fn f ds)
   | none=>none:=by
 first | rfl | (simp only [toB]; done) | (simp only [toB]; rfl)
@[simp] theorem borC_fx {n:Nat} {H:List O} {f:Nat} {caps:List Cap}:borC (n+1) H (.fx f caps)=caps.flatMap (capL (borC n H)):=by
 first | rfl | (simp only [borC]; done) | (simp only [borC]; rfl)
@[simp] theorem capD_r {f:C→Option D} {r o:Nat}:capD f (.r r o)=f (.ptr r o):=rfl
@[simp] theorem capD_d {f:C→Option D} {x:D}:capD f (.d x)=some x:=rfl
@[simp] theorem capL_r {f:C→List Nat} {r o:Nat}:capL f (.r r o)=f (.ptr r o):=rfl
@[simp] theorem capL_d {f:C→List Nat} {x:D}:capL f (.d x)=[]:=rfl
@[simp] theorem toB_fn {n:Nat} {H:List O} {f:Nat} {caps:List (Nat×Nat)}:toB (n+1) H (.fn f caps)=match mapO (fun p:Nat×Nat=>toB n H (.ptr p.1 p.2)) caps with
   | some ds=>some (.fn f ds)
   | none=>none:=by
 first | rfl | (simp only [toB]; done) | (simp only [toB]; rfl)
@[simp] theorem borC_d {n:Nat} {H:List O} {x:D}:borC n H (.d x)=[]:=by cases n <;> simp [borC,osR]
@[simp] theorem borC_os {n:Nat} {H:List O} {r sz off len:Nat}:borC n H (.os r sz off len)=[r]:=by cases n <;> simp [borC,osR]
@[simp] theorem borC_eptr {n:Nat} {H:List O} {r sz off len:Nat}:borC (n+1) H (.eptr r sz off len)=[r]:=by simp [borC]
@[simp] theorem borC_mp {n:Nat} {H:List O} {r:Nat}:borC (n+1) H (.mp r)=[r]:=by simp [borC]
@[simp] theorem borC_ptr {n:Nat} {H:List O} {r off:Nat}:borC (n+1) H (.ptr r off)=r :: (match H[r]? with
   | some (.cells cs)=>(cs.drop off).flatMap (borC n H)
   | _=>[]):=by
 first | rfl | (simp only [borC]; done) | (simp only [borC]; rfl)
@[simp] theorem borC_fn {n:Nat} {H:List O} {f:Nat} {caps:List (Nat×Nat)}:borC (n+1) H (.fn f caps)=caps.flatMap fun p=>borC n H (.ptr p.1 p.2):=by
 first | rfl | (simp only [borC]; done) | (simp only [borC]; rfl)
section
variable {P:Program} {G:Gl} {X:XT} {N0 B:Nat}
def onR (r:Option R) (sl:Nat→T) (κ:Kt):Prop:=match r with
 | some r=>r.ob∧κ r.val ⟨sl,r.hp⟩
 | none=>False
@[simp ↓] theorem onR_some {ob:Prop} {v:T} {H:List O} {sl:Nat→T} {κ:Kt}:onR (some ⟨ob,v,H⟩) sl κ=(ob∧κ v ⟨sl,H⟩):=rfl
def fixS (st:St) (t:Nat) (b:Bool):St:=⟨putS st.sl t (.v (.c (.d (.v (.bool b))))),st.hp⟩
theorem fixS_same {st:St} {t:Nat} {b:Bool} (h:st.sl t = .v (.c (.d (.v (.bool b))))):fixS st t b=st:=by
 cases st with
 | mk sl hp =>
  unfold fixS
  congr 1
  funext i
  unfold putS
  split
  ·rename_i e; subst e; exact h.symm
  ·rfl
def condG (v:T) (t:Nat) (want:Bool) (Y N:St→Prop) (st:St):Prop:=match v with
 | .v (.c (.d (.v (.bool b))))=>(b=want→Y (fixS st t want))∧(b = !want→N (fixS st t (!want)))
 | .tup []=>N st
 | _=>False
theorem condG_no {v:T} {t:Nat} {want:Bool} {Y N:St→Prop} {st:St} {A B:Prop} (hv:∀ b,v≠.v (.c (.d (.v (.bool b))))) (hu:v≠.tup []):condG v t want Y N st=False∧condW v want A B=False:=by
 constructor
 ·unfold condG; split
  ·exact absurd rfl (hv _)
  ·exact absurd rfl hu
  ·rfl
 ·unfold condW; split
  ·exact absurd rfl (hv _)
  ·exact absurd rfl hu
  ·rfl
theorem condG_eq {t:Nat} {want:Bool} {Y N:St→Prop} {st:St}:condG (st.sl t) t want Y N st=condW (st.sl t) want (Y st) (N st):=by
 by_cases h:∃ b,st.sl t = .v (.c (.d (.v (.bool b))))
 ·obtain ⟨b,hb⟩:=h
  have e1:condG (st.sl t) t want Y N st=((b=want→Y (fixS st t want))∧(b = !want→N (fixS st t (!want)))):=by rw [hb]; rfl
  have e2:condW (st.sl t) want (Y st) (N st)=((b=want→Y st)∧(b = !want→N st)):=by rw [hb]; rfl
  rw [e1,e2]
  apply propext
  constructor
  ·rintro ⟨h1,h2⟩
   exact ⟨fun e=>by have:=h1 e; rwa [fixS_same (e▸hb)] at this,fun e=>by have:=h2 e; rwa [fixS_same (e▸hb)] at this⟩
  ·rintro ⟨h1,h2⟩
   exact ⟨fun e=>by rw [fixS_same (e▸hb)]; exact h1 e,fun e=>by rw [fixS_same (e▸hb)]; exact h2 e⟩
 ·have hv:∀ b,st.sl t≠.v (.c (.d (.v (.bool b)))):=fun b e=>h ⟨b,e⟩
  by_cases hu:st.sl t = .tup []
  ·rw [hu]; rfl
  ·rw [(condG_no (A:=Y st) (B:=N st) hv hu).1,(condG_no (t:=t) (Y:=Y) (N:=N) (st:=st) hv hu).2]
theorem condG_tt {t:Nat} {Y N:St→Prop} {st:St}:condG (.v (.c (.d (.v (.bool true))))) t true Y N st=Y ⟨putS st.sl t (.v (.c (.d (.v (.bool true))))),st.hp⟩:=by simp [condG,fixS]
theorem condG_ff {t:Nat} {Y N:St→Prop} {st:St}:condG (.v (.c (.d (.v (.bool false))))) t false Y N st=Y ⟨putS st.sl t (.v (.c (.d (.v (.bool false))))),st.hp⟩:=by simp [condG,fixS]
theorem condG_tf {t:Nat} {Y N:St→Prop} {st:St}:condG (.v (.c (.d (.v (.bool true))))) t false Y N st=N ⟨putS st.sl t (.v (.c (.d (.v (.bool true))))),st.hp⟩:=by simp [condG,fixS]
theorem condG_ft {t:Nat} {Y N:St→Prop} {st:St}:condG (.v (.c (.d (.v (.bool false))))) t true Y N st=N ⟨putS st.sl t (.v (.c (.d (.v (.bool false))))),st.hp⟩:=by simp [condG,fixS]
theorem condG_b {t:Nat} {want b:Bool} {Y N:St→Prop} {st:St}:condG (.v (.c (.d (.v (.bool b))))) t want Y N st =
  ((b=want→Y ⟨putS st.sl t (.v (.c (.d (.v (.bool want))))),st.hp⟩)∧(b = !want→N ⟨putS st.sl t (.v (.c (.d (.v (.bool (!want)))))),st.hp⟩)):=by simp [condG,fixS]
@[simp] theorem condP_t {Y N:Prop}:condP (.v (.c (.d (.v (.bool true))))) Y N=Y:=by simp [condP]
@[simp] theorem condP_f {Y N:Prop}:condP (.v (.c (.d (.v (.bool false))))) Y N=N:=by simp [condP]
theorem condP_b {b:Bool} {Y N:Prop}:condP (.v (.c (.d (.v (.bool b))))) Y N=((b=true→Y)∧(b=false→N)):=by simp [condP]
def putO (sl:Nat→T) (d:Option Nat) (t:T):Nat→T:=match d with
 | some d=>putS sl d t
 | none=>sl
theorem put_eq {st:St} {d:Option Nat} {t:T}:st.put d t=⟨putO st.sl d t,st.hp⟩:=by cases d <;> rfl
@[simp] theorem putO_some {sl:Nat→T} {d:Nat} {t:T}:putO sl (some d) t=putS sl d t:=by unfold putO; rfl
@[simp] theorem putO_none {sl:Nat→T} {t:T}:putO sl none t=sl:=by unfold putO; rfl
@[simp ↓] theorem wopsX_nil {st:St} {k:St→Prop}:wopsX P G X B [] st k=k st:=rfl
def contX (P:Program) (G:Gl) (X:XT) (B:Nat) (d:Option Nat) (r:List AOper) (k:St→Prop):Kt:=fun t s=>wopsX P G X B r ⟨putO s.sl d t,s.hp⟩ k
@[simp ↓] theorem contX_app {d:Option Nat} {r:List AOper} {k:St→Prop} {t:T} {sl:Nat→T} {H:List O}:contX P G X B d r k t ⟨sl,H⟩=wopsX P G X B r ⟨putO sl d t,H⟩ k:=rfl
@[simp ↓] theorem wopsX_cons {d:Option Nat} {a:A} {r:List AOper} {st:St} {k:St→Prop}:wopsX P G X B (⟨d,a,none⟩ :: r) st k=wopX P G X B a st (contX P G X B d r k):=by
 show wopX P G X B a st (fun t s=>wopsX P G X B r (s.put d t) k)=_
 simp only [put_eq]; rfl
def gopX (P:Program) (G:Gl) (X:XT) (B:Nat) (v:T) (t:Nat) (want:Bool) (d:Option Nat) (a:A) (r:List AOper) (st:St) (k:St→Prop):Prop :=
 condG v t want (fun st=>wopX P G X B a st (contX P G X B d r k)) (fun st=>wopsX P G X B r ⟨putO st.sl d (.tup []),st.hp⟩ k) st
@[simp ↓] theorem wopsX_g {d:Option Nat} {a:A} {t:Nat} {want:Bool} {r:List AOper} {st:St} {k:St→Prop}:wopsX P G X B (⟨d,a,some (t,want)⟩ :: r) st k =
  gopX P G X B (st.sl t) t want d a r st k:=by
 unfold gopX
 rw [condG_eq]
 show condW _ _ (wopX P G X B a st (fun t s=>wopsX P G X B r (s.put d t) k)) (wopsX P G X B r (st.put d (.tup [])) k)=_
 simp only [put_eq]; rfl
section
variable {d:Option Nat} {a:A} {t:Nat} {r:List AOper} {st:St} {k:St→Prop}
@[simp] theorem gopX_tt:gopX P G X B (.v (.c (.d (.v (.bool true))))) t true d a r st k=wopX P G X B a ⟨putS st.sl t (.v (.c (.d (.v (.bool true))))),st.hp⟩ (contX P G X B d r k):=by simp only [gopX,condG_tt]
@[simp] theorem gopX_ff:gopX P G X B (.v (.c (.d (.v (.bool false))))) t false d a r st k=wopX P G X B a ⟨putS st.sl t (.v (.c (.d (.v (.bool false))))),st.hp⟩ (contX P G X B d r k):=by simp only [gopX,condG_ff]
@[simp] theorem gopX_tf:gopX P G X B (.v (.c (.d (.v (.bool true))))) t false d a r st k=wopsX P G X B r ⟨putO (putS st.sl t (.v (.c (.d (.v (.bool true)))))) d (.tup []),st.hp⟩ k:=by simp only [gopX,condG_tf]
@[simp] theorem gopX_u {want:Bool}:gopX P G X B (.tup []) t want d a r st k=wopsX P G X B r ⟨putO st.sl d (.tup []),st.hp⟩ k:=rfl
@[simp] theorem gopX_ft:gopX P G X B (.v (.c (.d (.v (.bool false))))) t true d a r st k=wopsX P G X B r ⟨putO (putS st.sl t (.v (.c (.d (.v (.bool false)))))) d (.tup []),st.hp⟩ k:=by simp only [gopX,condG_ft]
theorem gopX_b {want b:Bool}:gopX P G X B (.v (.c (.d (.v (.bool b))))) t want d a r st k =
  ((b=want→wopX P G X B a ⟨putS st.sl t (.v (.c (.d (.v (.bool want))))),st.hp⟩ (contX P G X B d r k))∧(b = !want→wopsX P G X B r ⟨putO (putS st.sl t (.v (.c (.d (.v (.bool (!want))))))) d (.tup []),st.hp⟩ k)):=by simp only [gopX,condG_b]
end
theorem wopX_on {a:A} {st:St} {κ:Kt} (h:a.plain=true):wopX P G X B a st κ=onR (fop B st.hp (ev G st.sl) a) st.sl κ:=by
 rw [wopX_same (by cases a <;> first | rfl | cases h),wop_plain h]; rfl
@[simp ↓] theorem wopX_mov {x:Operand} {st:St} {κ:Kt}:wopX P G X B (.mov x) st κ=onR (fop B st.hp (ev G st.sl) (.mov x)) st.sl κ:=wopX_on rfl
@[simp ↓] theorem wopX_box {j:Nat} {x:Operand} {st:St} {κ:Kt}:wopX P G X B (.box j x) st κ=onR (fop B st.hp (ev G st.sl) (.box j x)) st.sl κ:=wopX_on rfl
@[simp ↓] theorem wopX_zero {j:Nat} {z:List D} {st:St} {κ:Kt}:wopX P G X B (.zero j z) st κ=onR (fop B st.hp (ev G st.sl) (.zero j z)) st.sl κ:=wopX_on rfl
@[simp ↓] theorem wopX_build {z:List D} {parts:List (Nat×Nat×Operand)} {st:St} {κ:Kt}:wopX P G X B (.build z parts) st κ=onR (fop B st.hp (ev G st.sl) (.build z parts)) st.sl κ:=wopX_on rfl
@[simp ↓] theorem wopX_bsl {j sz:Nat} {z:List D} {len:Nat} {parts:List (Nat×Operand)} {st:St} {κ:Kt}:wopX P G X B (.bsl j sz z len parts) st κ=onR (fop B st.hp (ev G st.sl) (.bsl j sz z len parts)) st.sl κ:=wopX_on rfl
@[simp ↓] theorem wopX_load {agg:Bool} {n:Nat} {x:Operand} {st:St} {κ:Kt}:wopX P G X B (.load agg n x) st κ=onR (fop B st.hp (ev G st.sl) (.load agg n x)) st.sl κ:=wopX_on rfl
@[simp ↓] theorem wopX_store {n:Nat} {x v:Operand} {st:St} {κ:Kt}:wopX P G X B (.store n x v) st κ=onR (fop B st.hp (ev G st.sl) (.store n x v)) st.sl κ:=wopX_on rfl
@[simp ↓] theorem wopX_chk {x:Operand} {st:St} {κ:Kt}:wopX P G X B (.chk x) st κ=onR (fop B st.hp (ev G st.sl) (.chk x)) st.sl κ:=wopX_on rfl
@[simp ↓] theorem wopX_binI {op:BinOp} {k:IntKind} {x y:Operand} {st:St} {κ:Kt}:wopX P G X B (.binI op k x y) st κ=onR (fop B st.hp (ev G st.sl) (.binI op k x y)) st.sl κ:=wopX_on rfl
@[simp ↓] theorem wopX_shf {op:BinOp} {k:IntKind} {x y:Operand} {st:St} {κ:Kt}:wopX P G X B (.shf op k x y) st κ=onR (fop B st.hp (ev G st.sl) (.shf op k x y)) st.sl κ:=wopX_on rfl
@[simp ↓] theorem wopX_binS {op:BinOp} {x y:Operand} {st:St} {κ:Kt}:wopX P G X B (.binS op x y) st κ=onR (fop B st.hp (ev G st.sl) (.binS op x y)) st.sl κ:=wopX_on rfl
@[simp ↓] theorem wopX_eqB {neg:Bool} {x y:Operand} {st:St} {κ:Kt}:wopX P G X B (.eqB neg x y) st κ=onR (fop B st.hp (ev G st.sl) (.eqB neg x y)) st.sl κ:=wopX_on rfl
@[simp ↓] theorem wopX_eqA {neg:Bool} {ks:List SK} {x y:Operand} {st:St} {κ:Kt}:wopX P G X B (.eqA neg ks x y) st κ=onR (fop B st.hp (ev G st.sl) (.eqA neg ks x y)) st.sl κ:=wopX_on rfl
@[simp ↓] theorem wopX_not {x:Operand} {st:St} {κ:Kt}:wopX P G X B (.not x) st κ=onR (fop B st.hp (ev G st.sl) (.not x)) st.sl κ:=wopX_on rfl
@[simp ↓] theorem wopX_neg {k:IntKind} {x:Operand} {st:St} {κ:Kt}:wopX P G X B (.neg k x) st κ=onR (fop B st.hp (ev G st.sl) (.neg k x)) st.sl κ:=wopX_on rfl
@[simp ↓] theorem wopX_cpl {k:IntKind} {x:Operand} {st:St} {κ:Kt}:wopX P G X B (.cpl k x) st κ=onR (fop B st.hp (ev G st.sl) (.cpl k x)) st.sl κ:=wopX_on rfl
@[simp ↓] theorem wopX_conv {k:IntKind} {x:Operand} {st:St} {κ:Kt}:wopX P G X B (.conv k x) st κ=onR (fop B st.hp (ev G st.sl) (.conv k x)) st.sl κ:=wopX_on rfl
@[simp ↓] theorem wopX_mkfn {f:Nat} {caps:List Operand} {st:St} {κ:Kt}:wopX P G X B (.mkfn f caps) st κ=onR (fop B st.hp (ev G st.sl) (.mkfn f caps)) st.sl κ:=wopX_on rfl
@[simp ↓] theorem wopX_mkmap {j:Nat} {kt:KT} {st:St} {κ:Kt}:wopX P G X B (.mkmap j kt) st κ=onR (fop B st.hp (ev G st.sl) (.mkmap j kt)) st.sl κ:=wopX_on rfl
@[simp ↓] theorem wopX_mksl {j sz bytes:Nat} {z:List D} {l c:Operand} {st:St} {κ:Kt}:wopX P G X B (.mksl j sz bytes z l c) st κ=onR (fop B st.hp (ev G st.sl) (.mksl j sz bytes z l c)) st.sl κ:=wopX_on rfl
@[simp ↓] theorem wopX_sliceS {x:Operand} {lo hi:Option Operand} {st:St} {κ:Kt}:wopX P G X B (.sliceS x lo hi) st κ=onR (fop B st.hp (ev G st.sl) (.sliceS x lo hi)) st.sl κ:=wopX_on rfl
@[simp ↓] theorem wopX_slice {sz:Nat} {x:Operand} {lo hi:Option Operand} {st:St} {κ:Kt}:wopX P G X B (.slice sz x lo hi) st κ=onR (fop B st.hp (ev G st.sl) (.slice sz x lo hi)) st.sl κ:=wopX_on rfl
@[simp ↓] theorem wopX_faddr {off:Nat} {x:Operand} {st:St} {κ:Kt}:wopX P G X B (.faddr off x) st κ=onR (fop B st.hp (ev G st.sl) (.faddr off x)) st.sl κ:=wopX_on rfl
@[simp ↓] theorem wopX_field {agg:Bool} {n off:Nat} {x:Operand} {st:St} {κ:Kt}:wopX P G X B (.field agg n off x) st κ=onR (fop B st.hp (ev G st.sl) (.field agg n off x)) st.sl κ:=wopX_on rfl
@[simp ↓] theorem wopX_iaddr {sz:Nat} {x i:Operand} {st:St} {κ:Kt}:wopX P G X B (.iaddr sz x i) st κ=onR (fop B st.hp (ev G st.sl) (.iaddr sz x i)) st.sl κ:=wopX_on rfl
@[simp ↓] theorem wopX_index {x i:Operand} {st:St} {κ:Kt}:wopX P G X B (.index x i) st κ=onR (fop B st.hp (ev G st.sl) (.index x i)) st.sl κ:=wopX_on rfl
@[simp ↓] theorem wopX_look {kt:KT} {z:PV} {x k:Operand} {ok:Bool} {st:St} {κ:Kt}:wopX P G X B (.look kt z x k ok) st κ=onR (fop B st.hp (ev G st.sl) (.look kt z x k ok)) st.sl κ:=wopX_on rfl
@[simp ↓] theorem wopX_mapup {kt:KT} {m k v:Operand} {st:St} {κ:Kt}:wopX P G X B (.mapup kt m k v) st κ=onR (fop B st.hp (ev G st.sl) (.mapup kt m k v)) st.sl κ:=wopX_on rfl
@[simp ↓] theorem wopX_mapdel {kt:KT} {m k:Operand} {st:St} {κ:Kt}:wopX P G X B (.mapdel kt m k) st κ=onR (fop B st.hp (ev G st.sl) (.mapdel kt m k)) st.sl κ:=wopX_on rfl
@[simp ↓] theorem wopX_ext {x:Operand} {i:Nat} {st:St} {κ:Kt}:wopX P G X B (.ext x i) st κ=onR (fop B st.hp (ev G st.sl) (.ext x i)) st.sl κ:=wopX_on rfl
@[simp ↓] theorem wopX_str {x:Operand} {st:St} {κ:Kt}:wopX P G X B (.str x) st κ=onR (fop B st.hp (ev G st.sl) (.str x)) st.sl κ:=wopX_on rfl
@[simp ↓] theorem wopX_lenS {x:Operand} {st:St} {κ:Kt}:wopX P G X B (.lenS x) st κ=onR (fop B st.hp (ev G st.sl) (.lenS x)) st.sl κ:=wopX_on rfl
@[simp ↓] theorem wopX_lenL {x:Operand} {st:St} {κ:Kt}:wopX P G X B (.lenL x) st κ=onR (fop B st.hp (ev G st.sl) (.lenL x)) st.sl κ:=wopX_on rfl
@[simp ↓] theorem wopX_lenM {x:Operand} {st:St} {κ:Kt}:wopX P G X B (.lenM x) st κ=onR (fop B st.hp (ev G st.sl) (.lenM x)) st.sl κ:=wopX_on rfl
@[simp ↓] theorem wopX_app {j sz bytes:Nat} {s x:Operand} {st:St} {κ:Kt}:wopX P G X B (.app j sz bytes s x) st κ=onR (fop B st.hp (ev G st.sl) (.app j sz bytes s x)) st.sl κ:=wopX_on rfl
@[simp ↓] theorem wopX_maxmin {mx:Bool} {k:IntKind} {x y:Operand} {st:St} {κ:Kt}:wopX P G X B (.maxmin mx k x y) st κ=onR (fop B st.hp (ev G st.sl) (.maxmin mx k x y)) st.sl κ:=wopX_on rfl
@[simp ↓] theorem wopX_clr {sz:Nat} {z:List D} {x:Operand} {st:St} {κ:Kt}:wopX P G X B (.clr sz z x) st κ=onR (fop B st.hp (ev G st.sl) (.clr sz z x)) st.sl κ:=wopX_on rfl
def pickK (c a b:T) (st:St) (κ:Kt):Prop:=condP c (κ a st) (κ b st)
@[simp ↓] theorem wopX_pick {c a b:Operand} {st:St} {κ:Kt}:wopX P G X B (.pick c a b) st κ=pickK (ev G st.sl c) (ev G st.sl a) (ev G st.sl b) st κ:=rfl
@[simp] theorem pickK_t {a b:T} {st:St} {κ:Kt}:pickK (.v (.c (.d (.v (.bool true))))) a b st κ=κ a st:=by simp [pickK,condP]
@[simp] theorem pickK_f {a b:T} {st:St} {κ:Kt}:pickK (.v (.c (.d (.v (.bool false))))) a b st κ=κ b st:=by simp [pickK,condP]
theorem pickK_b {x:Bool} {a b:T} {st:St} {κ:Kt}:pickK (.v (.c (.d (.v (.bool x))))) a b st κ=((x=true→κ a st)∧(x=false→κ b st)):=by simp [pickK,condP]
def onNil (ng:Bool) (k:NK) (v:T) (r:Option R) (st:St) (κ:Kt):Prop:=match k,v with
  | .sl,.v (.c (.d (.sl xs)))=>∀ b,(xs≠[]→b=false)→κ (.bool (if ng then !b else b)) st
  | .sl,.v (.c (.os _ _ _ len))=>∀ b,(len≠0→b=false)→κ (.bool (if ng then !b else b)) st
  | _,_=>onR r st.sl κ
@[simp ↓] theorem wopX_eqN {ng:Bool} {k:NK} {x:Operand} {st:St} {κ:Kt}:wopX P G X B (.eqN ng k x) st κ=onNil ng k (ev G st.sl x) (fop B st.hp (ev G st.sl) (.eqN ng k x)) st κ:=by
 simp only [wopX]; unfold onNil onR
 generalize ev G st.sl x=v
 cases k <;> first | rfl | skip
 cases v with
 | tup vs=>rfl
 | v u =>
  cases u with
  | any=>rfl
  | agg _=>rfl
  | c x=>cases x <;> first | rfl | (rename_i y; cases y <;> rfl)
@[simp ↓] theorem onNil_sl {ng:Bool} {xs:List (List D)} {r:Option R} {st:St} {κ:Kt}:onNil ng .sl (.v (.c (.d (.sl xs)))) r st κ = ∀ b,(xs≠[]→b=false)→κ (.bool (if ng then !b else b)) st:=rfl
@[simp ↓] theorem onNil_os {ng:Bool} {q sz off len:Nat} {r:Option R} {st:St} {κ:Kt}:onNil ng .sl (.v (.c (.os q sz off len))) r st κ = ∀ b,(len≠0→b=false)→κ (.bool (if ng then !b else b)) st:=rfl
@[simp ↓] theorem onNil_v {ng:Bool} {k:NK} {x:Value} {r:Option R} {st:St} {κ:Kt}:onNil ng k (.v (.c (.d (.v x)))) r st κ=onR r st.sl κ:=by cases k <;> rfl
@[simp ↓] theorem onNil_ifc {ng:Bool} {k:NK} {r:Option R} {st:St} {κ:Kt}:onNil ng k (.v (.c .ifc)) r st κ=onR r st.sl κ:=by cases k <;> rfl
@[simp ↓] theorem onNil_mp {ng:Bool} {k:NK} {q:Nat} {r:Option R} {st:St} {κ:Kt}:onNil ng k (.v (.c (.mp q))) r st κ=onR r st.sl κ:=by cases k <;> rfl
@[simp ↓] theorem onNil_ptr {ng:Bool} {k:NK} {q off:Nat} {r:Option R} {st:St} {κ:Kt}:onNil ng k (.v (.c (.ptr q off))) r st κ=onR r st.sl κ:=by cases k <;> rfl
def onCall (P:Program) (G:Gl) (X:XT) (c:Option (Nat×List V)) (st:St) (κ:Kt):Prop:=match c with
 | some (f,vs)=>callX P G X f vs st κ
 | none=>False
@[simp ↓] theorem wopX_call {f:Nat} {args:List Operand} {st:St} {κ:Kt}:wopX P G X B (.call f args) st κ=onCall P G X (calleeOf G st.sl (.call f args)) st κ:=by
 simp only [wopX,calleeOf]; unfold onCall; cases argsOf (args.map (ev G st.sl)) <;> rfl
@[simp ↓] theorem wopX_callv {f:Operand} {args:List Operand} {st:St} {κ:Kt}:wopX P G X B (.callv f args) st κ=onCall P G X (calleeOf G st.sl (.callv f args)) st κ:=by
 simp only [wopX,calleeOf]; unfold onCall
 split
 ·rfl
 ·rfl
 ·rfl
def onSR (P:Program) (G:Gl) (f:Nat) (vs:List V) (r:Option SR) (st:St) (κ:Kt):Prop:=match r with
 | some r=>r.ob∧κ r.val ⟨st.sl,r.hp⟩
 | none=>ACalls P G f vs st.hp (callK st.sl κ)
@[simp ↓] theorem onSR_some {f:Nat} {vs:List V} {rd wr:List Nat} {ob:Prop} {v:T} {H:List O} {st:St} {κ:Kt}:onSR P G f vs (some ⟨rd,wr,ob,v,H⟩) st κ=(ob∧κ v ⟨st.sl,H⟩):=rfl
@[simp ↓] theorem onSR_none {f:Nat} {vs:List V} {st:St} {κ:Kt}:onSR P G f vs none st κ=ACalls P G f vs st.hp (callK st.sl κ):=rfl
@[simp ↓] theorem onCall_some {f:Nat} {vs:List V} {st:St} {κ:Kt}:onCall P G X (some (f,vs)) st κ=onSR P G f vs (callF X st.hp f vs) st κ:=by
 show callX P G X f vs st κ=_
 unfold callX onSR; cases callF X st.hp f vs <;> rfl
@[simp ↓] theorem wlex_nil {cl:List (List Nat)} {i:Nat} {Ws Rs:List (Nat×List Nat)} {st:St} {k:St→Prop}:wlex G X B cl i [] Ws Rs st k=k st:=rfl
def nxL (G:Gl) (X:XT) (B:Nat) (cl:List (List Nat)) (i:Nat) (r:List AOper) (Ws Rs:List (Nat×List Nat)) (st:St) (k:St→Prop):Prop:=wlex G X B cl i r Ws Rs st k
@[simp] theorem nxL_go {cl:List (List Nat)} {i:Nat} {r:List AOper} {Ws Rs:List (Nat×List Nat)} {st:St} {k:St→Prop}:nxL G X B cl i r Ws Rs st k=wlex G X B cl i r Ws Rs st k:=rfl
def onLex (G:Gl) (X:XT) (B:Nat) (cl:List (List Nat)) (i:Nat) (d:Option Nat) (s:Option SR) (r:List AOper) (Ws Rs:List (Nat×List Nat)) (st:St) (k:St→Prop):Prop:=match s with
 | some s=>s.ob∧apW cl i (s.rd ++ s.wr) Ws∧apW cl i s.wr Rs∧wlex G X B cl (i+1) r (addH i s.wr Ws) (addH i s.rd Rs) ((St.mk st.sl s.hp).put d s.val) k
 | none=>False
@[simp ↓] theorem onLex_some {cl:List (List Nat)} {i:Nat} {d:Option Nat} {rd wr:List Nat} {ob:Prop} {v:T} {H:List O} {r:List AOper} {Ws Rs:List (Nat×List Nat)} {st:St} {k:St→Prop} :
  onLex G X B cl i d (some ⟨rd,wr,ob,v,H⟩) r Ws Rs st k=(ob∧apW cl i (rd ++ wr) Ws∧apW cl i wr Rs∧nxL G X B cl (i+1) r (addH i wr Ws) (addH i rd Rs) ⟨putO st.sl d v,H⟩ k):=by
 have:(St.mk st.sl H).put d v=⟨putO st.sl d v,H⟩:=put_eq
 rw [← this]; rfl
@[simp ↓] theorem wlex_cons {cl:List (List Nat)} {i:Nat} {d:Option Nat} {a:A} {r:List AOper} {Ws Rs:List (Nat×List Nat)} {st:St} {k:St→Prop} :
  wlex G X B cl i (⟨d,a,none⟩ :: r) Ws Rs st k=onLex G X B cl i d (stepX G X B st a) r Ws Rs st k:=by
 simp only [wlex]; unfold onLex; cases stepX G X B st a <;> rfl
def glexX (G:Gl) (X:XT) (B:Nat) (cl:List (List Nat)) (i:Nat) (v:T) (t:Nat) (want:Bool) (d:Option Nat) (a:A) (r:List AOper) (Ws Rs:List (Nat×List Nat)) (st:St) (k:St→Prop):Prop :=
 condG v t want (fun st=>onLex G X B cl i d (stepX G X B st a) r Ws Rs st k) (fun st=>wlex G X B cl (i+1) r Ws Rs ⟨putO st.sl d (.tup []),st.hp⟩ k) st
section
variable {cl:List (List Nat)} {i:Nat} {d:Option Nat} {a:A} {t:Nat} {r:List AOper} {Ws Rs:List (Nat×List Nat)} {st:St} {k:St→Prop}
@[simp ↓] theorem wlex_g {want:Bool}:wlex G X B cl i (⟨d,a,some (t,want)⟩ :: r) Ws Rs st k=glexX G X B cl i (st.sl t) t want d a r Ws Rs st k:=by
 unfold glexX
 rw [condG_eq]; simp only [← put_eq]; simp only [wlex]; unfold onLex; cases stepX G X B st a <;> rfl
@[simp] theorem glexX_tt:glexX G X B cl i (.v (.c (.d (.v (.bool true))))) t true d a r Ws Rs st k=onLex G X B cl i d (stepX G X B ⟨putS st.sl t (.v (.c (.d (.v (.bool true))))),st.hp⟩ a) r Ws Rs ⟨putS st.sl t (.v (.c (.d (.v (.bool true))))),st.hp⟩ k:=by simp only [glexX,condG_tt]
@[simp] theorem glexX_ff:glexX G X B cl i (.v (.c (.d (.v (.bool false))))) t false d a r Ws Rs st k=onLex G X B cl i d (stepX G X B ⟨putS st.sl t (.v (.c (.d (.v (.bool false))))),st.hp⟩ a) r Ws Rs ⟨putS st.sl t (.v (.c (.d (.v (.bool false))))),st.hp⟩ k:=by simp only [glexX,condG_ff]
@[simp] theorem glexX_tf:glexX G X B cl i (.v (.c (.d (.v (.bool true))))) t false d a r Ws Rs st k=wlex G X B cl (i+1) r Ws Rs ⟨putO (putS st.sl t (.v (.c (.d (.v (.bool true)))))) d (.tup []),st.hp⟩ k:=by simp only [glexX,condG_tf]
@[simp] theorem glexX_u {want:Bool}:glexX G X B cl i (.tup []) t want d a r Ws Rs st k=wlex G X B cl (i+1) r Ws Rs ⟨putO st.sl d (.tup []),st.hp⟩ k:=rfl
@[simp] theorem glexX_ft:glexX G X B cl i (.v (.c (.d (.v (.bool false))))) t true d a r Ws Rs st k=wlex G X B cl (i+1) r Ws Rs ⟨putO (putS st.sl t (.v (.c (.d (.v (.bool false)))))) d (.tup []),st.hp⟩ k:=by simp only [glexX,condG_ft]
theorem glexX_b {want b:Bool}:glexX G X B cl i (.v (.c (.d (.v (.bool b))))) t want d a r Ws Rs st k =
  ((b=want→onLex G X B cl i d (stepX G X B ⟨putS st.sl t (.v (.c (.d (.v (.bool want))))),st.hp⟩ a) r Ws Rs ⟨putS st.sl t (.v (.c (.d (.v (.bool want))))),st.hp⟩ k)∧(b = !want→wlex G X B cl (i+1) r Ws Rs ⟨putO (putS st.sl t (.v (.c (.d (.v (.bool (!want))))))) d (.tup []),st.hp⟩ k)):=by simp only [glexX,condG_b]
end
end
attribute [simp ↓] wX_skip wX_region wX_dregion wX_seq wX_cond wX_block wX_exit wX_ret thenQ_n thenQ_x thenQ_r blockQ_n blockQ_x blockQ_r loopN_x loopN_r loopN_n normQ
@[simp] theorem ev_tmp {G:Gl} {s:Nat→T} {t:Nat}:ev G s (.tmp t)=s t:=rfl
@[simp] theorem ev_const {G:Gl} {s:Nat→T} {v:Value}:ev G s (.const v)=cv v:=rfl
@[simp] theorem ev_func {G:Gl} {s:Nat→T} {f:Nat}:ev G s (.func f) = .v (.c (.fn f [])):=rfl
@[simp] theorem ev_global {G:Gl} {s:Nat→T} {g:Nat}:ev G s (.global g)=(match G g with | some cs=>.v (.c (.d (.ip cs))) | none=>.v .any):=rfl
attribute [simp] stepX calleeOf fop foot cv argSl holes St.put putS_eq ofL_c ofL_n binIF retQ resL resV resT argsOf nrm nrmC callF xget toBVs mapO toBV V.known V.cells ptrTo valOf fillR toDs frz frz1 apW addH osT osR borVs borV T.ren V.ren C.ren app_get0 app_get app_set0 app_set phiP_0 phiP_k
attribute [simp low] condP_b condC_b gopX_b glexX_b pickK_b
section
variable {E:Type} [Inhabited E]
def mv (es:List E) (i j:Nat):List E:=es.take j ++ (nth es i :: ((es.drop j).take (i-j) ++ es.drop (i+1)))
theorem mv_get (es:List E) {i j:Nat} (hj:j≤i) (hi:i<es.length) (k:Nat) :
  (mv es i j)[k]? = if k<j then es[k]? else if k=j then some (nth es i) else if k≤i then es[k-1]? else es[k]? := by
 unfold mv
 rw [List.getElem?_append]
 have hl:(es.take j).length=j:=by simp; omega
 rw [hl]
 by_cases h1:k<j
 ·rw [if_pos h1,if_pos h1,List.getElem?_take,if_pos h1]
 ·rw [if_neg h1,if_neg h1]
  by_cases h2:k=j
  ·rw [if_pos h2,h2]; simp
  ·rw [if_neg h2,show k-j=(k-j-1)+1 by omega,List.getElem?_cons_succ,List.getElem?_append]
   have hl2:((es.drop j).take (i-j)).length=i-j:=by simp; omega
   rw [hl2]
   by_cases h3:k≤i
   ·rw [if_pos h3,if_pos (by omega),List.getElem?_take,if_pos (by omega),List.getElem?_drop]; congr 1; omega
   ·rw [if_neg h3,if_neg (by omega),List.getElem?_drop]; congr 1; omega
theorem mv_len (es:List E) {i j:Nat} (hj:j≤i) (hi:i<es.length):(mv es i j).length=es.length:=by
 unfold mv; simp; omega
theorem mv_self (es:List E) {i:Nat} (hi:i<es.length):mv es i i=es:=by
 apply List.ext_getElem?
 intro k
 rw [mv_get es (Nat.le_refl _) hi]
 by_cases h1:k<i
 ·rw [if_pos h1]
 ·rw [if_neg h1]
  by_cases h2:k=i
  ·rw [if_pos h2,h2]; simp [nth,List.getD_eq_getElem?_getD,hi]
  ·rw [if_neg h2,if_neg (by omega)]
theorem nth_of_get {l:List E} {k:Nat} {x:E} (h:l[k]? = some x):nth l k=x:=by simp [nth,List.getD_eq_getElem?_getD,h]
theorem get_nth {l:List E} {k:Nat} (h:k<l.length):l[k]? = some (nth l k):=by simp [nth,List.getD_eq_getElem?_getD,h]
theorem mv_at (es:List E) {i j:Nat} (hj:j≤i) (hi:i<es.length):nth (mv es i j) j=nth es i :=
 nth_of_get (by rw [mv_get es hj hi,if_neg (by omega),if_pos rfl])
theorem mv_pred (es:List E) {i j:Nat} (hj:j≤i) (hi:i<es.length) (h0:0<j):nth (mv es i j) (j-1)=nth es (j-1) :=
 nth_of_get (by rw [mv_get es hj hi,if_pos (by omega),get_nth (by omega)])
theorem mv_swap (es:List E) {i j:Nat} (hj:j≤i) (hi:i<es.length) (h0:0<j):((mv es i j).set j (nth es (j-1))).set (j-1) (nth es i)=mv es i (j-1):=by
 apply List.ext_getElem?
 intro k
 have hl:=mv_len es hj hi
 rw [mv_get es (by omega) hi,List.getElem?_set,List.getElem?_set,List.length_set,hl,mv_get es hj hi]
 by_cases h1:j-1=k
 ·rw [if_pos h1,if_pos (by omega),if_neg (by omega),if_pos h1.symm]
 ·rw [if_neg h1]
  by_cases h2:j=k
  ·rw [if_pos h2,if_pos (by omega),if_neg (by omega),if_neg (by omega),if_pos (by omega),← h2,get_nth (by omega)]
  ·rw [if_neg h2]
   by_cases h3:k<j
   ·rw [if_pos h3,if_pos (by omega)]
   ·rw [if_neg h3,if_neg (show ¬ k=j by omega)]
    by_cases h4:k≤i
    ·rw [if_pos h4,if_neg (show ¬ k<j-1 by omega),if_neg (show ¬ k=j-1 by omega)]
    ·rw [if_neg h4,if_neg (show ¬ k<j-1 by omega),if_neg (show ¬ k=j-1 by omega)]
end
section
variable {E:Type}
structure Pre (cmp:E→E→Int):Prop where
 sgn:∀ a b,cmp a b<0↔0<cmp b a
 tr:∀ a b c,cmp a b≤0→cmp b c≤0→cmp a c≤0
variable {cmp:E→E→Int}
theorem Pre.rf (h:Pre cmp) (a:E):cmp a a=0:=by have:=h.sgn a a; omega
theorem Pre.le_of_not (h:Pre cmp) {a b:E} (k:¬ cmp a b<0):cmp b a≤0:=by have:=h.sgn a b; have:=h.sgn b a; omega
theorem Pre.not_lt (h:Pre cmp) {a b:E} (k:cmp b a≤0):¬ cmp a b<0:=by have:=h.sgn a b; omega
theorem Pre.lt_le (h:Pre cmp) {a b c:E} (k:cmp a b<0) (l:cmp b c≤0):cmp a c<0:=by
 have h1:=h.tr a b c (by omega) l
 have:¬ cmp c a≤0:=fun q=>by
  have:=h.tr b c a l q
  have:=h.sgn a b
  omega
 have:=h.sgn a c; omega
theorem Pre.le_lt (h:Pre cmp) {a b c:E} (k:cmp a b≤0) (l:cmp b c<0):cmp a c<0:=by
 have h1:=h.tr a b c k (by omega)
 have:¬ cmp c a≤0:=fun q=>by
  have:=h.tr c a b q k
  have:=h.sgn b c
  omega
 have:=h.sgn a c; omega
theorem Pre.eq_symm (h:Pre cmp) {a b:E} (k:cmp a b=0):cmp b a=0:=by have:=h.sgn a b; have:=h.sgn b a; omega
theorem Pre.eq_tr (h:Pre cmp) {a b c:E} (k:cmp a b=0) (l:cmp b c=0):cmp a c=0:=by
 have:=h.tr a b c (by omega) (by omega)
 have:=h.tr c b a (by have:=h.eq_symm l; omega) (by have:=h.eq_symm k; omega)
 have:=h.sgn a c
 omega
def Srt (cmp:E→E→Int) (l:List E):Prop:=l.Pairwise fun a b=>cmp a b≤0
def cls (cmp:E→E→Int) (x:E) (l:List E):List E:=l.filter fun y=>decide (cmp x y=0)
def Flt (cmp:E→E→Int) (l l':List E):Prop:=∀ x,cls cmp x l=cls cmp x l'
theorem cls_app (x:E) (l l':List E):cls cmp x (l ++ l')=cls cmp x l ++ cls cmp x l':=List.filter_append ..
theorem cls_cons (x y:E) (l:List E):cls cmp x (y :: l)=if cmp x y=0 then y :: cls cmp x l else cls cmp x l:=by
 simp only [cls,List.filter_cons,decide_eq_true_eq]
theorem mem_cls {x y:E} {l:List E}:y∈cls cmp x l↔y∈l∧cmp x y=0:=by simp [cls]
theorem cls_none {x:E} {l:List E} (h:∀ y∈l,cmp x y≠0):cls cmp x l=[]:=by
 simp only [cls,List.filter_eq_nil_iff,decide_eq_true_eq]; exact h
theorem Flt.refl (l:List E):Flt cmp l l:=fun _=>rfl
theorem Flt.symm {l l':List E} (h:Flt cmp l l'):Flt cmp l' l:=fun x=>(h x).symm
theorem Flt.trans {l l' l'':List E} (h:Flt cmp l l') (k:Flt cmp l' l''):Flt cmp l l'':=fun x=>(h x).trans (k x)
theorem Flt.app {a b c d:List E} (h:Flt cmp a b) (k:Flt cmp c d):Flt cmp (a ++ c) (b ++ d):=fun x=>by rw [cls_app,cls_app,h x,k x]
theorem Flt.mem (hp:Pre cmp) {l l':List E} (h:Flt cmp l l') {x:E}:x∈l↔x∈l':=by
 have:=h x
 constructor
 ·intro hx
  have:x∈cls cmp x l':=by rw [← this]; exact mem_cls.2 ⟨hx,hp.rf x⟩
  exact (mem_cls.1 this).1
 ·intro hx
  have:x∈cls cmp x l:=by rw [this]; exact mem_cls.2 ⟨hx,hp.rf x⟩
  exact (mem_cls.1 this).1
theorem Flt.swap (hp:Pre cmp) {u v:List E} (h:∀ y∈v,∀ x∈u,cmp y x<0):Flt cmp (v ++ u) (u ++ v):=fun z=>by
 rw [cls_app,cls_app]
 by_cases hu:cls cmp z u=[]
 ·rw [hu]; simp
 ·have hv:cls cmp z v=[]:=cls_none fun y hy h0=>by
   apply hu
   exact cls_none fun x hx h1=>by
    have h2:=h y hy x hx
    have:=hp.eq_tr (hp.eq_symm h0) h1
    omega
  rw [hv]; simp
theorem srt_flt_unique (hp:Pre cmp):∀ {l l':List E},Srt cmp l→Srt cmp l'→Flt cmp l l'→l=l'
 | [],[],_,_,_=>rfl
 | [],b :: t,_,_,h=>by have:=(h.mem hp (x:=b)).2 List.mem_cons_self; simp at this
 | a :: t,[],_,_,h=>by have:=(h.mem hp (x:=a)).1 List.mem_cons_self; simp at this
 | a :: t,b :: t',h1,h2,h=>by
  have ha:cmp b a≤0:=by
   have:=(h.mem hp (x:=a)).1 List.mem_cons_self
   rcases List.mem_cons.1 this with e | e
   ·subst e; have:=hp.rf a; omega
   ·exact (List.pairwise_cons.1 h2).1 a e
  have hb:cmp a b≤0:=by
   have:=(h.mem hp (x:=b)).2 List.mem_cons_self
   rcases List.mem_cons.1 this with e | e
   ·subst e; have:=hp.rf b; omega
   ·exact (List.pairwise_cons.1 h1).1 b e
  have hab:cmp a b=0:=by have:=hp.sgn a b; have:=hp.sgn b a; omega
  have e:=h a
  rw [cls_cons,cls_cons,if_pos (hp.rf a),if_pos hab] at e
  injection e with e1 e2
  subst e1
  have ht:Flt cmp t t':=fun x=>by
   have:=h x
   rw [cls_cons,cls_cons] at this
   split at this
   ·injection this
   ·exact this
  rw [srt_flt_unique hp (List.pairwise_cons.1 h1).2 (List.pairwise_cons.1 h2).2 ht]
def insF (cmp:E→E→Int) (x:E):List E→List E
 | []=>[x]
 | y :: l=>if cmp x y≤0 then x :: y :: l else y :: insF cmp x l
def ssort (cmp:E→E→Int):List E→List E
 | []=>[]
 | x :: l=>insF cmp x (ssort cmp l)
theorem insF_mem {x y:E}:∀ {l:List E},y∈insF cmp x l↔y=x∨y∈l
 | []=>by simp [insF]
 | z :: l=>by
  simp only [insF]
  split
  ·simp
  ·simp only [List.mem_cons,insF_mem (l:=l)]
   constructor
   ·rintro (h | h | h)
    ·exact .inr (.inl h)
    ·exact .inl h
    ·exact .inr (.inr h)
   ·rintro (h | h | h)
    ·exact .inr (.inl h)
    ·exact .inl h
    ·exact .inr (.inr h)
theorem insF_srt (hp:Pre cmp) {x:E}:∀ {l:List E},Srt cmp l→Srt cmp (insF cmp x l)
 | [],_=>by simp [insF,Srt]
 | y :: l,h=>by
  have ⟨h1,h2⟩:=List.pairwise_cons.1 h
  simp only [insF]
  split
  ·rename_i hxy
   exact List.pairwise_cons.2 ⟨fun z hz=>by
    rcases List.mem_cons.1 hz with e | e
    ·subst e; exact hxy
    ·exact hp.tr _ _ _ hxy (h1 z e),h⟩
  ·rename_i hxy
   refine List.pairwise_cons.2 ⟨fun z hz=>?_,insF_srt hp h2⟩
   rcases insF_mem.1 hz with e | e
   ·subst e; have:=hp.sgn y z; omega
   ·exact h1 z e
theorem insF_flt (hp:Pre cmp) {x:E}:∀ {l:List E},Flt cmp (insF cmp x l) (x :: l)
 | []=>Flt.refl _
 | y :: l=>by
  simp only [insF]
  split
  ·exact Flt.refl _
  ·rename_i hxy
   intro z
   have:=insF_flt hp (x:=x) (l:=l) z
   rw [cls_cons] at this ⊢
   rw [this,cls_cons,cls_cons]
   by_cases h1:cmp z y=0
   ·by_cases h2:cmp z x=0
    ·have:=hp.eq_tr (hp.eq_symm h2) h1; omega
    ·simp [h1,h2]
   ·simp [h1]
theorem ssort_srt (hp:Pre cmp):∀ l:List E,Srt cmp (ssort cmp l)
 | []=>List.Pairwise.nil
 | x :: l=>insF_srt hp (ssort_srt hp l)
theorem ssort_flt (hp:Pre cmp):∀ l:List E,Flt cmp (ssort cmp l) l
 | []=>Flt.refl _
 | x :: l=>fun z=>by
  have h1:=insF_flt hp (x:=x) (l:=ssort cmp l) z
  have h2:=ssort_flt hp l z
  simp only [ssort]
  rw [h1,cls_cons,cls_cons,h2]
theorem insF_len {x:E}:∀ {l:List E},(insF cmp x l).length=l.length+1
 | []=>rfl
 | y :: l=>by simp only [insF]; split <;> simp [insF_len (l:=l)]
theorem ssort_len:∀ l:List E,(ssort cmp l).length=l.length
 | []=>rfl
 | x :: l=>by simp [ssort,insF_len,ssort_len l]
theorem ssort_of (hp:Pre cmp) {l w:List E} (h1:Srt cmp w) (h2:Flt cmp w l):w=ssort cmp l :=
 srt_flt_unique hp h1 (ssort_srt hp l) (h2.trans (ssort_flt hp l).symm)
theorem Srt.app {a b:List E} (ha:Srt cmp a) (hb:Srt cmp b) (h:∀ x∈a,∀ y∈b,cmp x y≤0):Srt cmp (a ++ b):=List.pairwise_append.2 ⟨ha,hb,h⟩
theorem Srt.left {a b:List E} (h:Srt cmp (a ++ b)):Srt cmp a:=(List.pairwise_append.1 h).1
theorem Srt.right {a b:List E} (h:Srt cmp (a ++ b)):Srt cmp b:=(List.pairwise_append.1 h).2.1
theorem Srt.cross {a b:List E} (h:Srt cmp (a ++ b)) {x y:E} (hx:x∈a) (hy:y∈b):cmp x y≤0:=(List.pairwise_append.1 h).2.2 x hx y hy
theorem Srt.nth_le (hp:Pre cmp) [Inhabited E] {l:List E} (h:Srt cmp l) {i j:Nat} (hij:i≤j) (hj:j<l.length):cmp (nth l i) (nth l j)≤0:=by
 have e:∀ k (hk:k<l.length),nth l k=l[k]:=fun k hk=>by simp [nth,List.getD_eq_getElem?_getD,hk]
 rw [e i (by omega),e j hj]
 by_cases hh:i=j
 ·subst hh; have:=hp.rf l[i]; omega
 ·exact List.pairwise_iff_getElem.1 h i j (by omega) hj (by omega)
theorem mem_nth [Inhabited E] {l:List E} {x:E} (h:x∈l):∃ k,k<l.length∧nth l k=x:=by
 obtain ⟨k,hk,e⟩:=List.getElem_of_mem h
 exact ⟨k,hk,by simp [nth,List.getD_eq_getElem?_getD,hk,e]⟩
end
section
variable {E:Type} [Inhabited E]
theorem nth_app_l {a b:List E} {i:Nat} (h:i<a.length):nth (a ++ b) i=nth a i:=by simp [nth,List.getD_eq_getElem?_getD,List.getElem?_append,h]
theorem nth_app_r {a b:List E} {i:Nat} (h:a.length≤i):nth (a ++ b) i=nth b (i-a.length):=by simp [nth,List.getD_eq_getElem?_getD,List.getElem?_append,Nat.not_lt.2 h]
theorem nth_take {l:List E} {n i:Nat} (h:i<n):nth (l.take n) i=nth l i:=by simp [nth,List.getD_eq_getElem?_getD,List.getElem?_take,h]
theorem nth_drop {l:List E} {n i:Nat}:nth (l.drop n) i=nth l (n+i):=by simp [nth,List.getD_eq_getElem?_getD]
end
theorem cb_sgn:∀ a b:List UInt8,Lib.compareBytes a b = - Lib.compareBytes b a
 | [],[]=>rfl
 | [],_ :: _=>by simp [Lib.compareBytes]
 | _ :: _,[]=>by simp [Lib.compareBytes]
 | x :: a,y :: b=>by
  simp only [Lib.compareBytes]
  have h1:∀ p q:UInt8,p<q↔p.toNat<q.toNat:=fun p q=>UInt8.lt_iff_toNat_lt
  by_cases c1:x<y
  ·have:¬ y<x:=by rw [h1] at *; omega
   simp [c1,this]
  ·by_cases c2:y<x
   ·simp [c1,c2]
   ·simp [c1,c2,cb_sgn a b]
theorem cb_le (a b:List UInt8):Lib.compareBytes a b = -1∨Lib.compareBytes a b=0∨Lib.compareBytes a b=1:=by
 induction a generalizing b with
 | nil=>cases b <;> simp [Lib.compareBytes]
 | cons x a ih =>
  cases b with
  | nil=>simp [Lib.compareBytes]
  | cons y b =>
   simp only [Lib.compareBytes]
   split
   ·exact .inl rfl
   ·split
    ·exact .inr (.inr rfl)
    ·exact ih b
theorem cb_eq:∀ a b:List UInt8,Lib.compareBytes a b=0↔a=b
 | [],[]=>by simp [Lib.compareBytes]
 | [],_ :: _=>by simp [Lib.compareBytes]
 | _ :: _,[]=>by simp [Lib.compareBytes]
 | x :: a,y :: b=>by
  simp only [Lib.compareBytes]
  have h1:∀ p q:UInt8,p<q↔p.toNat<q.toNat:=fun p q=>UInt8.lt_iff_toNat_lt
  by_cases c1:x<y
  ·rw [if_pos c1]
   constructor
   ·intro h; omega
   ·intro h; injection h with e _; subst e; rw [h1] at c1; omega
  ·rw [if_neg c1]
   by_cases c2:y<x
   ·rw [if_pos c2]
    constructor
    ·intro h; omega
    ·intro h; injection h with e _; subst e; rw [h1] at c2; omega
   ·rw [if_neg c2,cb_eq a b]
    have:x=y:=by
     apply UInt8.toNat.inj
     rw [h1] at c1 c2; omega
    subst this
    simp
theorem cb_tr:∀ a b c:List UInt8,Lib.compareBytes a b≤0→Lib.compareBytes b c≤0→Lib.compareBytes a c≤0
 | [],b,c,_,_=>by cases c <;> simp [Lib.compareBytes]
 | x :: a,[],c,h,_=>by simp [Lib.compareBytes] at h
 | x :: a,y :: b,[],_,h=>by simp [Lib.compareBytes] at h
 | x :: a,y :: b,z :: c,h,k=>by
  have h1:∀ p q:UInt8,p<q↔p.toNat<q.toNat:=fun p q=>UInt8.lt_iff_toNat_lt
  simp only [Lib.compareBytes,h1] at h k ⊢
  split at h
  ·split at k
   ·rw [if_pos (by omega)]; omega
   ·split at k
    ·omega
    ·rw [if_pos (by omega)]; omega
  ·split at h
   ·omega
   ·split at k
    ·rw [if_pos (by omega)]; omega
    ·split at k
     ·omega
     ·rw [if_neg (by omega),if_neg (by omega)]; exact cb_tr a b c h k
def cmpS (a b:ByteArray):Int:=Lib.compareBytes a.data.toList b.data.toList
theorem cmpS_eq (a b:ByteArray):cmpS a b=0↔a=b:=by
 unfold cmpS
 rw [cb_eq]
 constructor
 ·intro h; cases a; cases b; congr 1; exact Array.toList_inj.1 h
 ·intro h; rw [h]
theorem cmpS_sgn (a b:ByteArray):cmpS a b = - cmpS b a:=cb_sgn _ _
theorem cmpS_pre:Pre cmpS:=⟨fun a b=>by have:=cmpS_sgn a b; omega,fun a b c=>cb_tr _ _ _⟩
theorem cmpS_one (a b:ByteArray):cmpS a b = -1∨cmpS a b=0∨cmpS a b=1:=cb_le _ _
theorem bl_cb:∀ a b:List UInt8,Op.bytesLess a b=decide (Lib.compareBytes a b<0)
 | [],[]=>rfl
 | [],_ :: _=>rfl
 | _ :: _,[]=>rfl
 | x :: a,y :: b=>by
  simp only [Op.bytesLess,Lib.compareBytes]
  have h1:∀ p q:UInt8,p<q↔p.toNat<q.toNat:=fun p q=>UInt8.lt_iff_toNat_lt
  by_cases c1:x<y
  ·simp [c1]
  ·by_cases c2:y<x
   ·have:¬ x=y:=fun e=>by subst e; rw [h1] at c2; omega
    simp [c1,c2,this]
   ·have:x=y:=by apply UInt8.toNat.inj; rw [h1] at c1 c2; omega
    subst this
    simp [c1,bl_cb a b]
theorem strLt_eq (a b:ByteArray):strLt a b=decide (cmpS a b<0):=by
 unfold strLt cmpS
 have e:∀ x:ByteArray,x.toList=x.data.toList:=fun x=>ByteArray.toList_eq x
 rw [e,e]; exact bl_cb _ _
end Go.Aw
namespace Go.Aw.Try
open Go Go.Proofs Go.Aw
set_option maxRecDepth 100000
set_option maxHeartbeats 4000000
def G0:Gl:=fun _=>none
theorem hmix:Tryz.prog.follows .mixedOrders=true:=Checked.mixed Tryz.checked
abbrev I (n:Int):V:=.c (.d (.v (.int .i64 n)))
abbrev Sx (n:ByteArray):V:=.c (.d (.v (.string n)))
structure Id where
 a:ByteArray
 n:Int
def Id.row (x:Id):List D:=[.v (.string x.a),.v (.int .i64 x.n)]
structure Edit where
 id:Id
 clock:Int
 floor:Int
 deps:List Id
 kind:Int
 node:Id
 parent:Id
 neg:Bool
 num:ByteArray
 den:ByteArray
 field:ByteArray
 value:ByteArray
 target:Id
 who:ByteArray
def Edit.row (e:Edit):List D:=[.v (.string e.id.a),.v (.int .i64 e.id.n),.v (.int .i64 e.clock),.v (.int .i64 e.floor),.sl (e.deps.map Id.row),.v (.int .i64 e.kind),.v (.string e.node.a),.v (.int .i64 e.node.n),.v (.string e.parent.a),.v (.int .i64 e.parent.n),.v (.bool e.neg),.v (.string e.num),.v (.string e.den),.v (.string e.field),.v (.string e.value),.v (.string e.target.a),.v (.int .i64 e.target.n),.v (.string e.who)]
theorem Edit.row_eq (e:Edit):e.row=[.v (.string e.id.a),.v (.int .i64 e.id.n),.v (.int .i64 e.clock),.v (.int .i64 e.floor),.sl (e.deps.map Id.row),.v (.int .i64 e.kind),.v (.string e.node.a),.v (.int .i64 e.node.n),.v (.string e.parent.a),.v (.int .i64 e.parent.n),.v (.bool e.neg),.v (.string e.num),.v (.string e.den),.v (.string e.field),.v (.string e.value),.v (.string e.target.a),.v (.int .i64 e.target.n),.v (.string e.who)]:=rfl
def cmpI (a b:Int):Int:=if a<b then -1 else if b<a then 1 else 0
def x48:XE:=⟨true,fun ps=>match ps with | [.c (.v (.int .i64 a)),.c (.v (.int .i64 b))]=>some (True,.int .i64 (cmpI a b)) | _=>none⟩
def x49:XE:=⟨true,fun ps=>match ps with | [.c (.v (.string a)),.c (.v (.string b))]=>some (True,.int .i64 (cmpS a b)) | _=>none⟩
def intsOf:List (List D)→Option (List Int)
 | []=>some []
 | [.v (.int .i64 a)] :: r=>match intsOf r with | some l=>some (a :: l) | none=>none
 | _=>none
def orI:List Int→Int
 | []=>0
 | a :: r=>if a≠0 then a else orI r
theorem intsOf_get:∀ {xs:List (List D)} {l:List Int},intsOf xs=some l→xs=l.map fun n=>[.v (.int .i64 n)]
 | [],l,h=>by simp only [intsOf,Option.some.injEq] at h; subst h; rfl
 | [.v (.int .i64 a)] :: r,l,h=>by
  simp only [intsOf] at h
  split at h
  ·rename_i l' h'; injection h with h; subst h; rw [intsOf_get h']; rfl
  ·cases h
theorem k47 (l:List Int) (hl:l.length<4611686018427387904):ACalls Tryz.prog G0 66 [.c (.d (.sl (l.map fun n=>[.v (.int .i64 n)])))] [] fun t H=>t = .int .i64 (orI l)∧H=[]:=by
 refine acallsX (X:=[]) trivial tab hmix Tryz.func66 c47 (by rfl) fun hw=>?_
 simp [ir47,b47]
 refine loopX (fun k s=>∃ i,i≤l.length∧k=l.length-i∧orI l=orI (l.drop i)∧s=⟨ofL [(3,.int .i64 0),(6,.v (.c (.d (.sl (l.map fun n=>[.v (.int .i64 n)]))))),(7,.int .i64 l.length),(8,.int .i64 i)],[]⟩) ?_ ?_
 ·refine wk_nil [] [3,6,7,8] rfl ⟨_,0,Nat.zero_le _,rfl,rfl,?_⟩
  simp
 ·rintro k s ⟨i,hi,rfl,ho,rfl⟩
  by_cases hlt:i<l.length
  ·have hd:l.drop i=l[i] :: l.drop (i+1):=List.drop_eq_getElem_cons hlt
   simp (disch:=omega) [hlt,nth_map,nth_eq,wrap64]
   refine ⟨fun h0=>fin_nil ⟨by rw [ho,hd]; simp [orI,h0],rfl⟩,fun h0=>wk_nil [] [3,6,7,8] rfl ⟨l.length-(i+1),by omega,i+1,hlt,rfl,?_,?_⟩⟩
   ·rw [ho,hd]; simp [orI,h0]
   ·simp
  ·have hd:l.drop i=[]:=List.drop_eq_nil_of_le (by omega)
   simp [hlt,ho,hd,orI]
   exact fin_nil ⟨rfl,rfl⟩
end Go.Aw.Try
namespace Go.Aw
open Go
structure RowOk (sz:Nat) (y:List D):Prop where
 len:y.length=sz
 nn:∀ d∈y,∀ c,d≠.v (.slice none 0 c)
theorem osR_map (y:List D):osR (y.map .d)=[]:=by
 induction y with
 | nil=>rfl
 | cons d y ih=>simpa [osR] using ih
theorem frz_map (H:List O) (y:List D):frz H (y.map .d)=H:=by
 induction y with
 | nil=>rfl
 | cons d y ih=>simpa [frz,frz1] using ih
theorem toDs_of (y:List D) (h:∀ d∈y,∀ c,d≠.v (.slice none 0 c)) (H:List O):toDs H (y.map .d)=some y:=by
 induction y with
 | nil=>rfl
 | cons d y ih =>
  have hd:toD H (.d d)=some d:=by
   unfold toD
   split
   ·rename_i c e; exact absurd (by injection e) (h d List.mem_cons_self c)
   ·rename_i e; injection e with e; subst e; rfl
   ·rename_i e; cases e
   ·rename_i q _; exact absurd rfl (q d)
  simp only [List.map_cons,toDs,hd,ih fun d hd=>h d (List.mem_cons_of_mem _ hd)]
theorem RowOk.cl {sz:Nat} {y:List D} (h:RowOk sz y) (H:List O):toDs H (y.map .d)=some y:=toDs_of y h.nn H
theorem RowOk.tk {sz:Nat} {y:List D} (h:RowOk sz y) {β:Type} (g:D→β):(y.map g).take sz=y.map g:=List.take_of_length_le (by rw [List.length_map,h.len]; exact Nat.le_refl _)
theorem RowOk.nrm {sz:Nat} {y:List D} (h:RowOk sz y):y.map (nrmC ∘ C.d)=y.map C.d:=by
 refine List.map_congr_left fun d hd=>?_
 simp only [Function.comp]
 unfold nrmC
 split
 ·rename_i c e; exact absurd (by injection e) (h.nn d hd c)
 ·rfl
theorem RowOk.mapO {sz:Nat} {y:List D} (h:RowOk sz y) (n:Nat) (H:List O):Go.Aw.mapO (Go.Aw.toB n H) (y.map .d)=some y:=by
 have h0:=h.cl H
 have key:∀ (l:List D) m,toDs H (l.map .d)=some m→Go.Aw.mapO (Go.Aw.toB n H) (l.map .d)=some m:=by
  intro l
  induction l with
  | nil=>intro m hm; simpa [toDs,Go.Aw.mapO] using hm
  | cons d l ih =>
   intro m hm
   simp only [List.map_cons,toDs] at hm
   split at hm
   ·rename_i d' ds h1 h2
    injection hm with hm; subst hm
    have hb:Go.Aw.toB n H (.d d)=some d':=by
     cases n with
     | zero=>exact h1
     | succ n=>simpa only [toB] using h1
    simp only [List.map_cons,Go.Aw.mapO,hb,ih _ h2]
   ·cases hm
 exact key y y h0
theorem wk_keep {P:Program} {G:Gl} {N0:Nat} {sl:Nat→T} {hp:List O} {K:St→Prop} (keep:List Nat) (h:K ⟨ofL (keep.map fun t=>(t,sl t)),hp⟩):wk P G N0 ⟨sl,hp⟩ K:=by
 refine ⟨⟨ofL (keep.map fun t=>(t,sl t)),hp⟩,fun n b ρ a w hb1 hb2 hs=>⟨ρ,hs.heap,hs.size,hs.defers,fun t=>?_,hs.glob,hs.le⟩,h⟩
 show TRel P _ (ofL _ t) _
 rcases ofL_map sl keep t with h | h
 ·rw [h]; exact hs.slots t
 ·rw [h]; trivial
theorem borV_map (H:List O) (y:List D):borV H (.agg (y.map .d))=[]:=by
 simp only [borV,V.cells]
 induction y with
 | nil=>rfl
 | cons d y ih=>simp [borC,osR]
theorem borRow (n:Nat) (H:List O) (y:List D):(y.map C.d).flatMap (borC n H)=[]:=by
 induction y with
 | nil=>rfl
 | cons d y ih=>simp only [List.map_cons,List.flatMap_cons,borC_d,ih,List.nil_append]
theorem nth_set_ne {α:Type} [Inhabited α] {l:List α} {i k:Nat} {x:α} (h:i≠k):nth (l.set i x) k=nth l k:=by
 simp [nth,List.getD_eq_getElem?_getD,h]
theorem RowOk.spl {sz:Nat} {y z:List D} (h:RowOk sz y) (k:RowOk sz z):splice y 0 z=z:=by
 simp [splice,h.len,k.len]
theorem take_of_len {α:Type} {n:Nat} {l:List α} (h:l.length=n):l.take n=l:=by subst h; simp
def cutQ (J:St→Prop) (Q:Qt):Qt
 | .normal,s=>J s
 | e,s=>Q e s
@[simp ↓] theorem cutQ_n {J:St→Prop} {Q:Qt} {s:St}:cutQ J Q .normal s=J s:=rfl
@[simp ↓] theorem cutQ_x {J:St→Prop} {Q:Qt} {s:St} {i:Nat}:cutQ J Q (.exit i) s=Q (.exit i) s:=rfl
@[simp ↓] theorem cutQ_r {J:St→Prop} {Q:Qt} {s:St}:cutQ J Q .ret s=Q .ret s:=rfl
theorem seqX {P:Program} {G:Gl} {X:XT} {N0:Nat} {x y:AC} {st:St} {Q:Qt} (J:St→Prop) (h1:wcodeX P G X N0 x st (cutQ J Q)) (h2:∀ s,J s→wcodeX P G X N0 y s Q) :
  wcodeX P G X N0 (.seq x y) st Q:=by
 show wcodeX P G X N0 x st (thenQ (wcodeX P G X N0 y) Q)
 refine wcodeX_mono (fun e s q=>?_) h1
 cases e with
 | normal=>exact h2 s q
 | exit i=>exact q
 | ret=>exact q
theorem loopG {P:Program} {G:Gl} {X:XT} {N0:Nat} {x:AC} {st:St} {Q:Qt} (I:Nat→St→Prop) (h0:wk P G N0 st fun s=>∃ k,I k s)
  (h:∀ J:Nat→St→Prop,J=I→∀ k s,I k s→wcodeX P G X N0 x s (loopN P G N0 J k Q)):wcodeX P G X N0 (.loop x) st Q:=loopX I h0 (h I rfl)
def exitQ (id:Nat) (J:St→Prop) (Q:Qt):Qt
 | .exit i,s=>if i=id then J s else Q (.exit i) s
 | .normal,s=>Q .normal s
 | .ret,s=>Q .ret s
@[simp ↓] theorem exitQ_x {id i:Nat} {J:St→Prop} {Q:Qt} {s:St}:exitQ id J Q (.exit i) s=if i=id then J s else Q (.exit i) s:=rfl
@[simp ↓] theorem exitQ_n {id:Nat} {J:St→Prop} {Q:Qt} {s:St}:exitQ id J Q .normal s=Q .normal s:=rfl
@[simp ↓] theorem exitQ_r {id:Nat} {J:St→Prop} {Q:Qt} {s:St}:exitQ id J Q .ret s=Q .ret s:=rfl
theorem loopE {P:Program} {G:Gl} {X:XT} {N0 id:Nat} {x:AC} {st:St} {Q:Qt} (I:Nat→St→Prop) (E:St→Prop) (h0:wk P G N0 st fun s=>∃ k,I k s)
  (h:∀ (J:Nat→St→Prop) (L:St→Prop),J=I→L=E→∀ k s,I k s→wcodeX P G X N0 x s (loopN P G N0 J k (exitQ id L (blockQ id Q)))) (hE:∀ s,E s→Q .normal s) :
  wcodeX P G X N0 (.loop x) st (blockQ id Q):=by
 refine loopX I h0 fun k s hs=>?_
 refine wcodeX_mono (fun e s' q=>?_) (h I E rfl rfl k s hs)
 cases e with
 | normal=>exact q
 | ret=>exact q
 | exit i =>
  show if i=id then Q .normal s' else Q (.exit i) s'
  have q:if i=id then E s' else blockQ id Q (.exit i) s':=q
  by_cases hi:i=id
  ·rw [if_pos hi] at q ⊢; exact hE _ q
  ·rw [if_neg hi] at q ⊢
   have q:if i=id then Q .normal s' else Q (.exit i) s':=q
   rw [if_neg hi] at q; exact q
def ofLr:List (Nat×T)→(Nat→T)→Nat→T
 | [],f=>f
 | (d,t) :: r,f=>fun i=>if i=d then t else ofLr r f i
@[simp] theorem ofLr_c {d:Nat} {t:T} {r:List (Nat×T)} {f:Nat→T} {i:Nat}:ofLr ((d,t) :: r) f i=if i=d then t else ofLr r f i:=rfl
theorem ofLr_fix {f:Nat→T}:∀ {l:List (Nat×T)},(∀ p∈l,f p.1=p.2)→f=ofLr l f
 | [],_=>rfl
 | (d,t) :: r,h=>by
  funext i
  simp only [ofLr]
  split
  ·rename_i e; subst e; exact h _ List.mem_cons_self
  ·exact congrFun (ofLr_fix fun p hp=>h p (List.mem_cons_of_mem _ hp)) i
def AtS (l:List (Nat×T)) (H:List O) (s:St):Prop:=∃ f,s=⟨ofLr l f,H⟩
theorem at_mk {l:List (Nat×T)} {sl:Nat→T} {H H':List O} (h:∀ p∈l,sl p.1=p.2) (hH:H'=H):AtS l H ⟨sl,H'⟩:=⟨sl,by rw [← ofLr_fix h,hH]⟩
attribute [simp] elems optI maxLen47 fop.capsOf fop.capsX keyOf keyOf.scals
def AC.hd:AC→AC
 | .seq x _=>x
 | c=>c
def AC.tl:AC→AC
 | .seq _ y=>y
 | c=>c
end Go.Aw
