/- An abstract machine over the model, and contracts of functions of this program on it (part 3): words and lemmas for the proof in the last text. -/
import Derived.Test.YtbehhclclhfhkaaGreatDoorProg
import Derived.Test.YtbehhclclhfhkaaGreatDoorChecked
import Derived.Lib.Bytealg
import Derived.Lib.Walk
import Derived.Lib.Strings
import Derived.Sort.Grow
import Derived.Sort.EncStr
import Derived.Lib.SlicesCompact
import Derived.Shelf.Lays
import Derived.Shelf.Strings.Split
import Derived.Shelf.Strings.Trim
import Derived.Shelf.Strings.SlTrimAscii
import Derived.Shelf.Small.Bits
import Derived.Test.YtbehhclclhfhkaaGreatDoorCB
set_option linter.unusedVariables false
set_option linter.unusedSimpArgs false
set_option linter.unusedSectionVars false
noncomputable section
open Go.Proofs.Tryz

namespace Go.Aw.Try
open Go Go.Proofs Go.Aw
set_option maxRecDepth 100000
set_option maxHeartbeats 4000000
@[reducible] def F_ (n:Nat):Nat×TI:=(n,⟨.func,1,8,[.nilFunc],false,false,false⟩)
@[reducible] def T_ (k:TK) (s b:Nat) (z:List Value) (e:Bool):TI:=⟨k,s,b,z,true,e,false⟩
@[reducible] def U_ (k:TK) (s b:Nat) (z:List Value):TI:=⟨k,s,b,z,false,false,false⟩
def tt:TT:=[
 F_ 1,
 (2,U_ (.int .i64) 1 8 [.int .i64 0]),
 (3,U_ (.int .i64) 1 8 [.int .i64 0]),
 (4,U_ .bool 1 1 [.bool false]),
 (5,U_ (.int .u8) 1 1 [.int .u8 0]),
 (6,U_ (.int .u8) 1 1 [.int .u8 0]),
 (7,T_ (.st [(0,2),(1,3),(2,4),(3,6)]) 4 24 [.int .i64 0,.int .i64 0,.bool false,.int .u8 0] true),
 (8,T_ (.st [(0,2),(1,3),(2,4),(3,6)]) 4 24 [.int .i64 0,.int .i64 0,.bool false,.int .u8 0] true),
 (9,U_ .str 1 16 [.string ⟨#[]⟩]),
 (10,U_ .str 1 16 [.string ⟨#[]⟩]),
 (11,U_ .str 1 16 [.string ⟨#[]⟩]),
 (12,U_ (.int .u64) 1 8 [.int .u64 0]),
 (15,U_ .ptr 1 8 [.pointer none]),
 (16,U_ .ptr 1 8 [.pointer none]),
 (17,U_ .ptr 1 8 [.pointer none]),
 (18,T_ (.st [(0,17)]) 1 8 [.pointer none] false),
 (19,T_ (.st [(0,17)]) 1 8 [.pointer none] false),
 (20,U_ .iface 1 16 [.nilIface]),
 (21,U_ (.int .i32) 1 4 [.int .i32 0]),
 (22,U_ (.sl 40) 1 24 [.slice none 0 0]),
 (23,U_ (.sl 42) 1 24 [.slice none 0 0]),
 (24,T_ (.st [(0,9),(1,3)]) 2 24 [.string ⟨#[]⟩,.int .i64 0] true),
 (25,T_ (.st [(0,9),(1,3)]) 2 24 [.string ⟨#[]⟩,.int .i64 0] true),
 F_ 26,
 F_ 27,
 F_ 28,
 F_ 29,
 F_ 30,
 (31,U_ (.sl 25) 1 24 [.slice none 0 0]),
 F_ 32,
 F_ 33,
 F_ 34,
 F_ 35,
 F_ 36,
 (37,T_ (.st [(0,4),(1,9),(2,9)]) 3 40 [.bool false,.string ⟨#[]⟩,.string ⟨#[]⟩] true),
 (38,T_ (.st [(0,4),(1,9),(2,9)]) 3 40 [.bool false,.string ⟨#[]⟩,.string ⟨#[]⟩] true),
 (39,T_ (.st [(0,25),(2,25),(4,38),(7,9)]) 8 104 [.string ⟨#[]⟩,.int .i64 0,.string ⟨#[]⟩,.int .i64 0,.bool false,.string ⟨#[]⟩,.string ⟨#[]⟩,.string ⟨#[]⟩] true),
 (40,T_ (.st [(0,25),(2,25),(4,38),(7,9)]) 8 104 [.string ⟨#[]⟩,.int .i64 0,.string ⟨#[]⟩,.int .i64 0,.bool false,.string ⟨#[]⟩,.string ⟨#[]⟩,.string ⟨#[]⟩] true),
 (41,T_ (.st [(0,25),(2,3),(3,3),(4,31),(5,3),(6,25),(8,25),(10,38),(13,9),(14,9),(15,25),(17,9)]) 18 232 [.string ⟨#[]⟩,.int .i64 0,.int .i64 0,.int .i64 0,.slice none 0 0,.int .i64 0,.string ⟨#[]⟩,.int .i64 0,.string ⟨#[]⟩,.int .i64 0,.bool false,.string ⟨#[]⟩,.string ⟨#[]⟩,.string ⟨#[]⟩,.string ⟨#[]⟩,.string ⟨#[]⟩,.int .i64 0,.string ⟨#[]⟩] false),
 (42,T_ (.st [(0,25),(2,3),(3,3),(4,31),(5,3),(6,25),(8,25),(10,38),(13,9),(14,9),(15,25),(17,9)]) 18 232 [.string ⟨#[]⟩,.int .i64 0,.int .i64 0,.int .i64 0,.slice none 0 0,.int .i64 0,.string ⟨#[]⟩,.int .i64 0,.string ⟨#[]⟩,.int .i64 0,.bool false,.string ⟨#[]⟩,.string ⟨#[]⟩,.string ⟨#[]⟩,.string ⟨#[]⟩,.string ⟨#[]⟩,.int .i64 0,.string ⟨#[]⟩] false),
 F_ 43,
 F_ 44,
 F_ 45,
 F_ 46,
 F_ 47,
 F_ 48,
 F_ 49,
 (50,U_ (.int .i8) 1 1 [.int .i8 0]),
 F_ 52,
 F_ 53,
 F_ 54,
 F_ 55,
 (56,T_ (.st [(0,4),(1,9)]) 2 24 [.bool false,.string ⟨#[]⟩] true),
 (57,T_ (.st [(0,4),(1,9)]) 2 24 [.bool false,.string ⟨#[]⟩] true),
 F_ 58,
 F_ 59,
 F_ 60,
 F_ 61,
 F_ 62,
 F_ 63,
 F_ 64,
 (65,U_ (.int .i64) 1 8 [.int .i64 0]),
 F_ 66,
 (67,U_ (.map 25 40) 1 8 [.map none]),
 F_ 69,
 F_ 70,
 F_ 71,
 F_ 72,
 F_ 73,
 (74,U_ (.map 25 4) 1 8 [.map none]),
 F_ 75,
 F_ 76,
 F_ 77,
 F_ 78,
 F_ 79,
 F_ 80,
 F_ 81,
 F_ 83,
 F_ 84,
 F_ 85,
 F_ 86,
 F_ 87,
 F_ 88,
 F_ 89,
 F_ 91,
 F_ 93,
 F_ 94,
 (95,U_ (.int .u64) 1 8 [.int .u64 0]),
 F_ 97,
 F_ 98,
 F_ 99,
 F_ 100,
 F_ 101,
 F_ 102,
 F_ 103,
 F_ 104,
 (105,U_ (.int .u64) 1 8 [.int .u64 0]),
 F_ 106,
 F_ 107,
 F_ 108,
 F_ 109,
 F_ 110,
 F_ 111,
 (112,U_ (.sl 114) 1 24 [.slice none 0 0]),
 F_ 113,
 (114,U_ (.int .u32) 1 4 [.int .u32 0]),
 F_ 116,
 F_ 117,
 F_ 119,
 F_ 121,
 F_ 123,
 F_ 124,
 F_ 125,
 F_ 126,
 (127,U_ (.int .i64) 1 8 [.int .i64 0]),
 F_ 129,
 F_ 130,
 F_ 131,
 F_ 133,
 F_ 134,
 F_ 135,
 (136,U_ (.sl 3) 1 24 [.slice none 0 0]),
 F_ 137,
 F_ 138,
 F_ 139,
 (140,U_ (.sl 57) 1 24 [.slice none 0 0]),
 (141,U_ (.sl 5) 1 24 [.slice none 0 0]),
 F_ 142,
 F_ 143,
 (144,U_ (.sl 9) 1 24 [.slice none 0 0]),
 F_ 146,
 (147,U_ (.int .u64) 1 8 [.int .u64 0]),
 F_ 148,
 F_ 149,
 F_ 150,
 (151,U_ .ptr 1 8 [.pointer none]),
 F_ 152,
 F_ 153,
 F_ 154,
 F_ 158,
 F_ 159,
 (160,U_ .ptr 1 8 [.pointer none]),
 (161,U_ .iface 1 16 [.nilIface]),
 (162,U_ .iface 1 16 [.nilIface]),
 (163,U_ .ptr 1 8 [.pointer none]),
 F_ 165,
 F_ 166,
 F_ 167,
 F_ 169,
 F_ 170,
 F_ 171,
 F_ 172,
 F_ 173,
 F_ 174,
 (176,T_ (.st [(0,5),(1,5)]) 2 2 [.int .u8 0,.int .u8 0] true),
 (177,T_ (.st [(0,5),(1,5)]) 2 2 [.int .u8 0,.int .u8 0] true),
 (179,U_ .ptr 1 8 [.pointer none]),
 F_ 180,
 (183,T_ (.arr 0 16) 0 0 [] false),
 F_ 186,
 (187,U_ (.int .u8) 1 1 [.int .u8 0]),
 (188,U_ (.int .u8) 1 1 [.int .u8 0]),
 F_ 189,
 (190,U_ .ptr 1 8 [.pointer none]),
 (191,U_ (.int .i32) 1 4 [.int .i32 0]),
 (192,U_ (.int .i32) 1 4 [.int .i32 0]),
 (195,T_ (.st [(0,9)]) 1 16 [.string ⟨#[]⟩] true),
 (196,T_ (.st [(0,9)]) 1 16 [.string ⟨#[]⟩] true)]
theorem tab:tabB prog tt=true:=by kernel_rfl
@[reducible] def m_ (d s:Nat):AOper:=⟨some d,.mov (.tmp s),none⟩
@[reducible] def o_ (d:Nat) (a:A):AOper:=⟨some d,a,none⟩
@[reducible] def g_ (d:Nat) (a:A) (k:Nat) (b:Bool):AOper:=⟨some d,a,some (k,b)⟩
@[reducible] def s_ (a:A):AOper:=⟨none,a,none⟩
@[reducible] def t_ (n:Nat):Operand:=.tmp n
@[reducible] def S_ (a b:AC):AC:=.seq a b
@[reducible] def R_ (n:Nat) (l:List AOper):AC:=.region n l
@[reducible] def Z_ (l:List AOper):AC:=.region 0 l
@[reducible] def K_ (c:Nat) (a b:AC):AC:=.cond (.tmp c) a b
@[reducible] def B_ (n:Nat) (a:AC):AC:=.block n a
@[reducible] def W_ (a:AC):AC:=.loop a
@[reducible] def Ld (n x:Nat):A:=.load true n (.tmp x)
@[reducible] def Lf (n x:Nat):A:=.load false n (.tmp x)
@[reducible] def Fa (n x:Nat):A:=.faddr n (.tmp x)
@[reducible] def Ia (n x y:Nat):A:=.iaddr n (.tmp x) (.tmp y)
@[reducible] def Mv (x:Nat):A:=.mov (.tmp x)
@[reducible] def Mi (n:Int):A:=.mov (.const (.int .i64 n))
@[reducible] def Mb (b:Bool):A:=.mov (.const (.bool b))
@[reducible] def Me:A:=.mov (.const (.string ⟨#[]⟩))
@[reducible] def Mn:A:=.mov (.const (.slice none 0 0))
@[reducible] def Bi (o:BinOp) (x:Nat) (n:Int):A:=.binI o .i64 (.tmp x) (.const (.int .i64 n))
@[reducible] def Bt (o:BinOp) (x y:Nat):A:=.binI o .i64 (.tmp x) (.tmp y)
@[reducible] def Pf (x y:Nat):A:=.pick (.tmp x) (.tmp y) (.const (.bool false))
@[reducible] def Pt (x y:Nat):A:=.pick (.tmp x) (.const (.bool true)) (.tmp y)
@[reducible] def Sr (n x y:Nat):A:=.store n (.tmp x) (.tmp y)
@[reducible] def Xt (x i:Nat):A:=.ext (.tmp x) i
@[reducible] def Bx (j x:Nat):A:=.box j (.tmp x)
@[reducible] def Ll (x:Nat):A:=.lenL (.tmp x)
@[reducible] def Ls (x:Nat):A:=.lenS (.tmp x)
@[reducible] def Cq (k:IntKind) (x:Nat):A:=.conv k (.tmp x)
@[reducible] def Cz (f:Nat):A:=.call f []
@[reducible] def Ca (f x:Nat):A:=.call f [.tmp x]
@[reducible] def Cb (f x y:Nat):A:=.call f [.tmp x,.tmp y]
@[reducible] def Cc (f x y z:Nat):A:=.call f [.tmp x,.tmp y,.tmp z]
@[reducible] def Ap (j s b x y:Nat):A:=.app false j s b (.tmp x) (.tmp y)
@[reducible] def Nt (x:Nat):A:=.not (.tmp x)
@[reducible] def Ix (x y:Nat):A:=.index (.tmp x) (.tmp y)
@[reducible] def C_ (f:Func) (a:AF):Prop:=compF tt f=some a
def b2006_0:AC:=(R_ 1 [
 o_ 4 (Bx 0 1),
 o_ 6 (Mb false)])
def b2006_1:AC:=(S_ (Z_ [
 m_ 13 0,
 o_ 14 (Ll 13),
 o_ 15 (Bi .gtr 14 12),
 m_ 16 15,
 g_ 17 (Mv 0) 16 false,
 g_ 18 (Ca 21 17) 16 false,
 g_ 19 (Nt 18) 16 false,
 o_ 20 (Pt 16 19),
 m_ 21 20,
 g_ 22 (Fa 0 4) 21 false,
 g_ 23 (Lf 1 22) 21 false,
 g_ 24 (Ls 23) 21 false,
 g_ 25 (Bi .gtr 24 100) 21 false,
 o_ 26 (Pt 21 25)])
 (K_ 26 (S_ (Z_ [
 o_ 27 (Cz 10),
 m_ 6 27])
 .ret) .skip))
def b2006_2:AC:=(R_ 1 [
 m_ 28 0,
 o_ 29 (Ld 2 4),
 m_ 30 2,
 o_ 31 (Cc 22 28 29 30),
 o_ 7 (.zero 0 [(.v (.bool false)),(.v (.string ⟨#[]⟩)),(.v (.string ⟨#[]⟩))]),
 s_ (Sr 3 7 31)])
def b2006_3:AC:=(S_ (.dregion 0 [
 o_ 32 (Ld 3 7),
 m_ 33 0,
 o_ 34 (Ld 2 4),
 m_ 35 2,
 o_ 36 (Cc 23 33 34 35),
 o_ 37 (.eqA true [.b,.s,.s] (t_ 32) (t_ 36))] [[],[],[],[],[1,2,3],[0,4]])
 (K_ 37 (S_ (Z_ [
 o_ 6 (Mb false)])
 .ret) .skip))
def b2006_4:AC:=(Z_ [
 m_ 38 0,
 o_ 39 (Ld 2 4),
 o_ 40 (Cb 18 38 39),
 m_ 8 40])
def b2006_5:AC:=(S_ (Z_ [
 o_ 9 (Mi 1)])
 (B_ 0 (W_ (S_ (S_ (Z_ [
 m_ 41 9,
 m_ 42 8,
 o_ 43 (Ll 42),
 o_ 44 (Bt .lss 41 43)])
 (K_ 44 .skip (.exit 0)))
 (S_ (B_ 1 (S_ (.dregion 0 [
 m_ 47 0,
 m_ 48 0,
 m_ 49 8,
 m_ 50 9,
 o_ 51 (Bi .sub 50 1),
 o_ 52 (Ia 2 49 51),
 o_ 53 (Ld 2 52),
 o_ 54 (Cb 20 48 53),
 o_ 55 (Ia 8 47 54),
 o_ 56 (Fa 4 55),
 o_ 57 (Ld 3 56),
 m_ 58 0,
 m_ 59 0,
 m_ 60 8,
 m_ 61 9,
 o_ 62 (Ia 2 60 61),
 o_ 63 (Ld 2 62),
 o_ 64 (Cb 20 59 63),
 o_ 65 (Ia 8 58 64),
 o_ 66 (Fa 4 65),
 o_ 67 (Ld 3 66),
 o_ 68 (Cb 24 57 67),
 o_ 69 (Bi .eql 68 0)] [[],[],[],[],[3],[2,4],[5],[1,6],[0,7],[8],[9],[],[],[],[],[13,14],[15],[12,16,7],[11,17],[18],[19],[10,20,17],[21]])
 (K_ 69 (S_ (Z_ [
 o_ 70 (Cz 10),
 m_ 6 70])
 .ret) .skip)))
 (Z_ [
 m_ 45 9,
 o_ 46 (Bi .add 45 1),
 m_ 9 46]))))))
def b2006_6:AC:=(S_ (Z_ [
 o_ 71 (Ld 2 4),
 o_ 72 (.build [(.v (.string ⟨#[]⟩)),(.v (.int .i64 0))] []),
 o_ 73 (.eqA true [.s,(.i .i64)] (t_ 71) (t_ 72)),
 m_ 74 73,
 g_ 75 (Mv 0) 74 true,
 g_ 76 (Ld 2 4) 74 true,
 g_ 77 (Cb 20 75 76) 74 true,
 g_ 78 (Bi .lss 77 0) 74 true,
 o_ 79 (Pf 74 78)])
 (K_ 79 (S_ (Z_ [
 o_ 80 (Cz 10),
 m_ 6 80])
 .ret) .skip))
def b2006_7:AC:=(R_ 1 [
 o_ 81 (.build [(.v (.string ⟨#[]⟩)),(.v (.int .i64 0))] [(0,(1,(.const (.string ⟨#[110,101,119]⟩)))),(1,(1,(.const (.int .i64 1))))]),
 o_ 10 (.zero 0 [(.v (.string ⟨#[]⟩)),(.v (.int .i64 0))]),
 s_ (Sr 2 10 81)])
def b2006_8:AC:=(S_ (Z_ [
 m_ 82 0,
 o_ 83 (Ld 2 10),
 o_ 84 (Cb 20 82 83),
 o_ 85 (Bi .geq 84 0),
 m_ 86 85,
 g_ 87 (Ld 3 7) 86 false,
 g_ 88 (.call 25 [(t_ 87),(.const (.int .i64 16))]) 86 false,
 g_ 89 (Nt 88) 86 false,
 o_ 90 (Pt 86 89)])
 (K_ 90 (S_ (Z_ [
 o_ 91 (Cz 10),
 m_ 6 91])
 .ret) .skip))
def b2006_9:AC:=(.dregion 1 [
 m_ 92 0,
 o_ 93 (Ld 2 10),
 o_ 94 (Ld 2 4),
 o_ 95 (Ld 3 7),
 o_ 96 (.build [(.v (.string ⟨#[]⟩)),(.v (.int .i64 0)),(.v (.int .i64 0)),(.v (.int .i64 0)),(.v (.slice none 0 0)),(.v (.int .i64 0)),(.v (.string ⟨#[]⟩)),(.v (.int .i64 0)),(.v (.string ⟨#[]⟩)),(.v (.int .i64 0)),(.v (.bool false)),(.v (.string ⟨#[]⟩)),(.v (.string ⟨#[]⟩)),(.v (.string ⟨#[]⟩)),(.v (.string ⟨#[]⟩)),(.v (.string ⟨#[]⟩)),(.v (.int .i64 0)),(.v (.string ⟨#[]⟩))] [(0,(2,(t_ 93))),(2,(1,(.const (.int .i64 1)))),(5,(1,(.const (.int .i64 1)))),(8,(2,(t_ 94))),(10,(3,(t_ 95))),(14,(1,(.const (.string ⟨#[103,114,111,117,112]⟩))))]),
 o_ 97 (.bsl 0 18 [(.v (.string ⟨#[]⟩)),(.v (.int .i64 0)),(.v (.int .i64 0)),(.v (.int .i64 0)),(.v (.slice none 0 0)),(.v (.int .i64 0)),(.v (.string ⟨#[]⟩)),(.v (.int .i64 0)),(.v (.string ⟨#[]⟩)),(.v (.int .i64 0)),(.v (.bool false)),(.v (.string ⟨#[]⟩)),(.v (.string ⟨#[]⟩)),(.v (.string ⟨#[]⟩)),(.v (.string ⟨#[]⟩)),(.v (.string ⟨#[]⟩)),(.v (.int .i64 0)),(.v (.string ⟨#[]⟩))] 1 [(0,(t_ 96))]),
 o_ 98 (Cb 11 92 97),
 o_ 99 (Ld 2 4),
 o_ 100 (Cb 17 98 99),
 m_ 11 100] [[],[],[],[],[1,2,3],[4],[0,5],[],[6,7,6],[8,8,0,1,2,3,4,5,6,7,8]])
def b2006_10:AC:=(Z_ [
 m_ 101 2,
 m_ 102 8,
 o_ 103 (Ll 102),
 o_ 104 (.maxmin false .i64 (t_ 101) (t_ 103)),
 o_ 105 (.maxmin true .i64 (.const (.int .i64 0)) (t_ 104)),
 m_ 12 105])
def b2006_11:AC:=(.dregion 0 [
 m_ 106 11,
 o_ 107 (Ll 106),
 m_ 108 8,
 o_ 109 (Ll 108),
 o_ 110 (Bi .add 109 1),
 o_ 111 (Bt .eql 107 110),
 m_ 112 111,
 g_ 113 (Mv 11) 112 true,
 g_ 114 (Mv 12) 112 true,
 g_ 115 (Ia 2 113 114) 112 true,
 g_ 116 (Ld 2 115) 112 true,
 g_ 117 (Ld 2 10) 112 true,
 g_ 118 (.eqA false [.s,(.i .i64)] (t_ 116) (t_ 117)) 112 true,
 o_ 119 (Pf 112 118),
 m_ 120 119,
 g_ 121 (Cz 10) 120 true,
 o_ 122 (Pf 120 121),
 m_ 6 122] [[],[0],[],[2],[3],[1,4],[5],[6],[6],[7,8,6],[9,6],[6],[10,11,6],[6,12],[13,6],[14,14],[14,15],[16,15,0,1,2,3,4,5,6,7,8,9,10,11,12,13,14,15,16]])
def b2006_12:AC:=.ret
def b2006:AC:=(S_ b2006_0 (S_ b2006_1 (S_ b2006_2 (S_ b2006_3 (S_ b2006_4 (S_ b2006_5 (S_ b2006_6 (S_ b2006_7 (S_ b2006_8 (S_ b2006_9 (S_ b2006_10 (S_ b2006_11 b2006_12))))))))))))
def ir2006:AF:=⟨123,[(.tmp 6)],b2006⟩
theorem c2006:C_ f6 ir2006:=(by kernel_rfl:_=_)
def b2010_0:AC:=(Z_ [
 o_ 0 (Mb false)])
def b2010_1:AC:=(R_ 4 [
 o_ 5 (.call 26 [(.const (.int .i64 1))]),
 o_ 6 (.build [(.v (.string ⟨#[]⟩)),(.v (.int .i64 0)),(.v (.int .i64 0)),(.v (.int .i64 0)),(.v (.slice none 0 0)),(.v (.int .i64 0)),(.v (.string ⟨#[]⟩)),(.v (.int .i64 0)),(.v (.string ⟨#[]⟩)),(.v (.int .i64 0)),(.v (.bool false)),(.v (.string ⟨#[]⟩)),(.v (.string ⟨#[]⟩)),(.v (.string ⟨#[]⟩)),(.v (.string ⟨#[]⟩)),(.v (.string ⟨#[]⟩)),(.v (.int .i64 0)),(.v (.string ⟨#[]⟩))] [(0,(2,(t_ 5))),(2,(1,(.const (.int .i64 1)))),(5,(1,(.const (.int .i64 1)))),(14,(1,(.const (.string ⟨#[103,114,111,117,112]⟩))))]),
 o_ 7 (.call 26 [(.const (.int .i64 2))]),
 o_ 8 (.call 26 [(.const (.int .i64 1))]),
 o_ 9 (.bsl 0 2 [(.v (.string ⟨#[]⟩)),(.v (.int .i64 0))] 1 [(0,(t_ 8))]),
 o_ 10 (.call 26 [(.const (.int .i64 1))]),
 o_ 11 (.call 28 [(.const (.int .i64 1))]),
 o_ 12 (.build [(.v (.string ⟨#[]⟩)),(.v (.int .i64 0)),(.v (.int .i64 0)),(.v (.int .i64 0)),(.v (.slice none 0 0)),(.v (.int .i64 0)),(.v (.string ⟨#[]⟩)),(.v (.int .i64 0)),(.v (.string ⟨#[]⟩)),(.v (.int .i64 0)),(.v (.bool false)),(.v (.string ⟨#[]⟩)),(.v (.string ⟨#[]⟩)),(.v (.string ⟨#[]⟩)),(.v (.string ⟨#[]⟩)),(.v (.string ⟨#[]⟩)),(.v (.int .i64 0)),(.v (.string ⟨#[]⟩))] [(0,(2,(t_ 7))),(2,(1,(.const (.int .i64 2)))),(4,(1,(t_ 9))),(5,(1,(.const (.int .i64 1)))),(8,(2,(t_ 10))),(10,(3,(t_ 11))),(14,(1,(.const (.string ⟨#[112,97,114,97,109]⟩))))]),
 o_ 13 (.call 26 [(.const (.int .i64 3))]),
 o_ 14 (.call 26 [(.const (.int .i64 2))]),
 o_ 15 (.bsl 1 2 [(.v (.string ⟨#[]⟩)),(.v (.int .i64 0))] 1 [(0,(t_ 14))]),
 o_ 16 (.call 26 [(.const (.int .i64 1))]),
 o_ 17 (.call 26 [(.const (.int .i64 2))]),
 o_ 18 (.build [(.v (.string ⟨#[]⟩)),(.v (.int .i64 0)),(.v (.int .i64 0)),(.v (.int .i64 0)),(.v (.slice none 0 0)),(.v (.int .i64 0)),(.v (.string ⟨#[]⟩)),(.v (.int .i64 0)),(.v (.string ⟨#[]⟩)),(.v (.int .i64 0)),(.v (.bool false)),(.v (.string ⟨#[]⟩)),(.v (.string ⟨#[]⟩)),(.v (.string ⟨#[]⟩)),(.v (.string ⟨#[]⟩)),(.v (.string ⟨#[]⟩)),(.v (.int .i64 0)),(.v (.string ⟨#[]⟩))] [(0,(2,(t_ 13))),(2,(1,(.const (.int .i64 3)))),(4,(1,(t_ 15))),(5,(1,(.const (.int .i64 2)))),(6,(2,(t_ 16))),(8,(2,(t_ 17)))]),
 o_ 19 (.call 26 [(.const (.int .i64 4))]),
 o_ 20 (.call 26 [(.const (.int .i64 3))]),
 o_ 21 (.bsl 2 2 [(.v (.string ⟨#[]⟩)),(.v (.int .i64 0))] 1 [(0,(t_ 20))]),
 o_ 22 (.call 26 [(.const (.int .i64 1))]),
 o_ 23 (.build [(.v (.string ⟨#[]⟩)),(.v (.int .i64 0)),(.v (.int .i64 0)),(.v (.int .i64 0)),(.v (.slice none 0 0)),(.v (.int .i64 0)),(.v (.string ⟨#[]⟩)),(.v (.int .i64 0)),(.v (.string ⟨#[]⟩)),(.v (.int .i64 0)),(.v (.bool false)),(.v (.string ⟨#[]⟩)),(.v (.string ⟨#[]⟩)),(.v (.string ⟨#[]⟩)),(.v (.string ⟨#[]⟩)),(.v (.string ⟨#[]⟩)),(.v (.int .i64 0)),(.v (.string ⟨#[]⟩))] [(0,(2,(t_ 19))),(2,(1,(.const (.int .i64 4)))),(4,(1,(t_ 21))),(5,(1,(.const (.int .i64 1)))),(8,(2,(t_ 22))),(14,(1,(.const (.string ⟨#[112,97,114,97,109]⟩))))]),
 o_ 24 (.bsl 3 18 [(.v (.string ⟨#[]⟩)),(.v (.int .i64 0)),(.v (.int .i64 0)),(.v (.int .i64 0)),(.v (.slice none 0 0)),(.v (.int .i64 0)),(.v (.string ⟨#[]⟩)),(.v (.int .i64 0)),(.v (.string ⟨#[]⟩)),(.v (.int .i64 0)),(.v (.bool false)),(.v (.string ⟨#[]⟩)),(.v (.string ⟨#[]⟩)),(.v (.string ⟨#[]⟩)),(.v (.string ⟨#[]⟩)),(.v (.string ⟨#[]⟩)),(.v (.int .i64 0)),(.v (.string ⟨#[]⟩))] 4 [(0,(t_ 6)),(1,(t_ 12)),(2,(t_ 18)),(3,(t_ 23))]),
 o_ 25 (.call 11 [(.const (.slice none 0 0)),(t_ 24)]),
 m_ 1 25])
def b2010_2:AC:=(Z_ [
 m_ 26 1,
 o_ 27 (Ca 15 26),
 m_ 2 27])
def b2010_3:AC:=(R_ 1 [
 o_ 29 (.call 28 [(.const (.int .i64 1))]),
 o_ 30 (.call 28 [(.const (.int .i64 2))]),
 o_ 31 (Cb 27 29 30),
 m_ 28 31,
 o_ 32 (Xt 28 0),
 o_ 33 (Xt 28 1),
 o_ 3 (.zero 0 [(.v (.bool false)),(.v (.string ⟨#[]⟩)),(.v (.string ⟨#[]⟩))]),
 s_ (Sr 3 3 32),
 m_ 4 33])
def b2010_4:AC:=(.dregion 1 [
 m_ 34 1,
 o_ 35 (Ll 34),
 o_ 36 (Bi .eql 35 3),
 m_ 37 36,
 g_ 38 (Mv 2) 37 true,
 g_ 39 (.call 26 [(.const (.int .i64 1))]) 37 true,
 g_ 40 (.call 26 [(.const (.int .i64 4))]) 37 true,
 g_ 41 (.call 26 [(.const (.int .i64 2))]) 37 true,
 g_ 42 (.bsl 0 2 [(.v (.string ⟨#[]⟩)),(.v (.int .i64 0))] 3 [(0,(t_ 39)),(1,(t_ 40)),(2,(t_ 41))]) 37 true,
 g_ 43 (Cb 14 38 42) 37 true,
 o_ 44 (Pf 37 43),
 m_ 45 44,
 g_ 46 (Mv 1) 45 true,
 g_ 47 (.call 26 [(.const (.int .i64 1))]) 45 true,
 g_ 48 (.call 22 [(t_ 46),(t_ 47),(.const (.int .i64 1))]) 45 true,
 g_ 49 (Ld 3 3) 45 true,
 g_ 50 (.eqA false [.b,.s,.s] (t_ 48) (t_ 49)) 45 true,
 o_ 51 (Pf 45 50),
 m_ 0 51] [[],[0],[1],[2],[3],[3,3],[5,3],[6,3],[5,6,7,3],[4,8,7,3],[3,9],[10,9],[11],[11,11],[12,13,13,11],[11],[14,15,11],[11,16],[17,14,0,1,2,3,4,5,6,7,8,9,10,11,12,13,14,15,16,17]])
def b2010_5:AC:=.ret
def b2010:AC:=(S_ b2010_0 (S_ b2010_1 (S_ b2010_2 (S_ b2010_3 (S_ b2010_4 b2010_5)))))
def ir2010:AF:=⟨52,[(.tmp 0)],b2010⟩
theorem c2010:C_ f10 ir2010:=(by kernel_rfl:_=_)
def b2011_0:AC:=(Z_ [
 o_ 4 (Mn)])
def b2011_1:AC:=(R_ 1 [
 o_ 19 (.mkmap 0 ⟨true,[.s,(.i .i64)]⟩),
 m_ 5 19])
def b2011_2:AC:=(S_ (Z_ [
 m_ 20 0,
 o_ 21 (Ll 20),
 o_ 22 (Mi 0)])
 (B_ 0 (W_ (S_ (Z_ [
 o_ 23 (Bt .lss 22 21)])
 (S_ (K_ 23 .skip (.exit 0))
 (S_ (B_ 1 (S_ (R_ 1 [
 o_ 24 (Ia 8 20 22),
 o_ 25 (Ld 8 24),
 o_ 7 (.zero 0 [(.v (.string ⟨#[]⟩)),(.v (.int .i64 0)),(.v (.string ⟨#[]⟩)),(.v (.int .i64 0)),(.v (.bool false)),(.v (.string ⟨#[]⟩)),(.v (.string ⟨#[]⟩)),(.v (.string ⟨#[]⟩))]),
 s_ (Sr 8 7 25)])
 (Z_ [
 m_ 26 5,
 o_ 27 (Fa 0 7),
 o_ 28 (Ld 2 27),
 o_ 29 (Ld 8 7),
 s_ (.mapup ⟨true,[.s,(.i .i64)]⟩ (t_ 26) (t_ 28) (t_ 29))])))
 (Z_ [
 o_ 30 (Bi .add 22 1),
 m_ 22 30])))))))
def b2011_3:AC:=(S_ (Z_ [
 m_ 31 1,
 o_ 32 (Ll 31),
 o_ 33 (Mi 0)])
 (B_ 2 (W_ (S_ (Z_ [
 o_ 34 (Bt .lss 33 32)])
 (S_ (K_ 34 .skip (.exit 2))
 (S_ (B_ 3 (S_ (R_ 1 [
 o_ 35 (Ia 18 31 33),
 o_ 36 (Ld 18 35),
 o_ 9 (.zero 0 [(.v (.string ⟨#[]⟩)),(.v (.int .i64 0)),(.v (.int .i64 0)),(.v (.int .i64 0)),(.v (.slice none 0 0)),(.v (.int .i64 0)),(.v (.string ⟨#[]⟩)),(.v (.int .i64 0)),(.v (.string ⟨#[]⟩)),(.v (.int .i64 0)),(.v (.bool false)),(.v (.string ⟨#[]⟩)),(.v (.string ⟨#[]⟩)),(.v (.string ⟨#[]⟩)),(.v (.string ⟨#[]⟩)),(.v (.string ⟨#[]⟩)),(.v (.int .i64 0)),(.v (.string ⟨#[]⟩))]),
 s_ (Sr 18 9 36)])
 (S_ (R_ 1 [
 m_ 38 5,
 o_ 39 (Fa 8 9),
 o_ 40 (Ld 2 39),
 o_ 41 (.look ⟨true,[.s,(.i .i64)]⟩ (.agg [(.v (.string ⟨#[]⟩)),(.v (.int .i64 0)),(.v (.string ⟨#[]⟩)),(.v (.int .i64 0)),(.v (.bool false)),(.v (.string ⟨#[]⟩)),(.v (.string ⟨#[]⟩)),(.v (.string ⟨#[]⟩))]) (t_ 38) (t_ 40) true),
 m_ 37 41,
 o_ 42 (Xt 37 0),
 o_ 43 (Xt 37 1),
 o_ 10 (.zero 0 [(.v (.string ⟨#[]⟩)),(.v (.int .i64 0)),(.v (.string ⟨#[]⟩)),(.v (.int .i64 0)),(.v (.bool false)),(.v (.string ⟨#[]⟩)),(.v (.string ⟨#[]⟩)),(.v (.string ⟨#[]⟩))]),
 s_ (Sr 8 10 42),
 m_ 11 43])
 (S_ (Z_ [
 m_ 44 11,
 m_ 45 44,
 g_ 46 (Fa 8 9) 45 false,
 g_ 47 (Ld 2 46) 45 false,
 g_ 48 (.build [(.v (.string ⟨#[]⟩)),(.v (.int .i64 0))] []) 45 false,
 g_ 49 (.eqA false [.s,(.i .i64)] (t_ 47) (t_ 48)) 45 false,
 o_ 50 (Pt 45 49),
 m_ 11 50])
 (S_ (Z_ [
 o_ 51 (Fa 5 9),
 o_ 52 (Lf 1 51)])
 (B_ 4 (S_ (Z_ [
 o_ 54 (Bi .eql 52 1),
 m_ 53 54])
 (K_ 53 (S_ (R_ 1 [
 m_ 56 5,
 o_ 57 (Fa 0 9),
 o_ 58 (Ld 2 57),
 o_ 59 (.look ⟨true,[.s,(.i .i64)]⟩ (.agg [(.v (.string ⟨#[]⟩)),(.v (.int .i64 0)),(.v (.string ⟨#[]⟩)),(.v (.int .i64 0)),(.v (.bool false)),(.v (.string ⟨#[]⟩)),(.v (.string ⟨#[]⟩)),(.v (.string ⟨#[]⟩))]) (t_ 56) (t_ 58) true),
 m_ 55 59,
 o_ 60 (Xt 55 0),
 o_ 61 (Xt 55 1),
 o_ 12 (.zero 0 [(.v (.string ⟨#[]⟩)),(.v (.int .i64 0)),(.v (.string ⟨#[]⟩)),(.v (.int .i64 0)),(.v (.bool false)),(.v (.string ⟨#[]⟩)),(.v (.string ⟨#[]⟩)),(.v (.string ⟨#[]⟩))]),
 s_ (Sr 8 12 60),
 m_ 13 61])
 (S_ (Z_ [
 m_ 62 13,
 o_ 63 (Nt 62),
 m_ 64 63,
 g_ 65 (Mv 11) 64 true,
 o_ 66 (Pf 64 65)])
 (K_ 66 (Z_ [
 m_ 67 5,
 o_ 68 (Fa 0 9),
 o_ 69 (Ld 2 68),
 o_ 70 (Fa 0 9),
 o_ 71 (Ld 2 70),
 o_ 72 (Fa 8 9),
 o_ 73 (Ld 2 72),
 o_ 74 (Fa 10 9),
 o_ 75 (Ld 3 74),
 o_ 76 (Fa 14 9),
 o_ 77 (Lf 1 76),
 o_ 78 (.build [(.v (.string ⟨#[]⟩)),(.v (.int .i64 0)),(.v (.string ⟨#[]⟩)),(.v (.int .i64 0)),(.v (.bool false)),(.v (.string ⟨#[]⟩)),(.v (.string ⟨#[]⟩)),(.v (.string ⟨#[]⟩))] [(0,(2,(t_ 71))),(2,(2,(t_ 73))),(4,(3,(t_ 75))),(7,(1,(t_ 77)))]),
 s_ (.mapup ⟨true,[.s,(.i .i64)]⟩ (t_ 67) (t_ 69) (t_ 78))]) .skip))) (S_ (Z_ [
 o_ 80 (Bi .eql 52 2),
 m_ 79 80])
 (K_ 79 (S_ (R_ 1 [
 m_ 82 5,
 o_ 83 (Fa 6 9),
 o_ 84 (Ld 2 83),
 o_ 85 (.look ⟨true,[.s,(.i .i64)]⟩ (.agg [(.v (.string ⟨#[]⟩)),(.v (.int .i64 0)),(.v (.string ⟨#[]⟩)),(.v (.int .i64 0)),(.v (.bool false)),(.v (.string ⟨#[]⟩)),(.v (.string ⟨#[]⟩)),(.v (.string ⟨#[]⟩))]) (t_ 82) (t_ 84) true),
 m_ 81 85,
 o_ 86 (Xt 81 0),
 o_ 87 (Xt 81 1),
 o_ 14 (.zero 0 [(.v (.string ⟨#[]⟩)),(.v (.int .i64 0)),(.v (.string ⟨#[]⟩)),(.v (.int .i64 0)),(.v (.bool false)),(.v (.string ⟨#[]⟩)),(.v (.string ⟨#[]⟩)),(.v (.string ⟨#[]⟩))]),
 s_ (Sr 8 14 86),
 m_ 15 87])
 (S_ (Z_ [
 m_ 88 15,
 m_ 89 88,
 g_ 90 (Mv 11) 89 true,
 g_ 91 (Mv 90) 89 true,
 g_ 92 (Fa 8 9) 91 false,
 g_ 93 (Ld 2 92) 91 false,
 g_ 94 (.load true 2 (.global 0)) 91 false,
 g_ 95 (.eqA false [.s,(.i .i64)] (t_ 93) (t_ 94)) 91 false,
 g_ 96 (Pt 91 95) 89 true,
 o_ 97 (Pf 89 96),
 m_ 98 97,
 g_ 99 (Mv 5) 98 true,
 g_ 100 (Fa 8 9) 98 true,
 g_ 101 (Ld 2 100) 98 true,
 g_ 102 (Fa 6 9) 98 true,
 g_ 103 (Ld 2 102) 98 true,
 g_ 104 (Cc 38 99 101 103) 98 true,
 g_ 105 (Nt 104) 98 true,
 o_ 106 (Pf 98 105)])
 (K_ 106 (S_ (.dregion 0 [
 o_ 107 (Fa 8 9),
 o_ 108 (Ld 2 107),
 o_ 109 (Fa 10 9),
 o_ 110 (Ld 3 109),
 o_ 111 (Fa 2 14),
 s_ (Sr 2 111 108),
 o_ 112 (Fa 4 14),
 s_ (Sr 3 112 110)] [[],[0],[],[2],[0,1],[4,1,0,1],[0,1,2,3,4,5],[6,3,5,0,1,2,3,4,5]])
 (Z_ [
 m_ 113 5,
 o_ 114 (Fa 6 9),
 o_ 115 (Ld 2 114),
 o_ 116 (Ld 8 14),
 s_ (.mapup ⟨true,[.s,(.i .i64)]⟩ (t_ 113) (t_ 115) (t_ 116))])) .skip))) .skip))))))))))
 (Z_ [
 o_ 117 (Bi .add 33 1),
 m_ 33 117])))))))
def b2011_4:AC:=(R_ 1 [
 m_ 118 5,
 o_ 119 (.lenM (t_ 118)),
 o_ 120 (.mksl 0 8 104 [(.v (.string ⟨#[]⟩)),(.v (.int .i64 0)),(.v (.string ⟨#[]⟩)),(.v (.int .i64 0)),(.v (.bool false)),(.v (.string ⟨#[]⟩)),(.v (.string ⟨#[]⟩)),(.v (.string ⟨#[]⟩))] (.const (.int .i64 0)) (t_ 119)),
 m_ 16 120])
def b2011_5:AC:=(S_ (R_ 1 [
 m_ 121 5,
 o_ 122 (.rng 0 ⟨true,[.s,(.i .i64)]⟩ (t_ 121))])
 (B_ 5 (W_ (S_ (Z_ [
 o_ 123 (.nxt (t_ 122)),
 o_ 124 (Xt 123 0)])
 (S_ (K_ 124 .skip (.exit 5))
 (B_ 6 (S_ (R_ 1 [
 o_ 125 (.ent (t_ 122)),
 o_ 126 (Xt 125 1),
 o_ 18 (.zero 0 [(.v (.string ⟨#[]⟩)),(.v (.int .i64 0)),(.v (.string ⟨#[]⟩)),(.v (.int .i64 0)),(.v (.bool false)),(.v (.string ⟨#[]⟩)),(.v (.string ⟨#[]⟩)),(.v (.string ⟨#[]⟩))]),
 s_ (Sr 8 18 126)])
 (R_ 2 [
 m_ 127 16,
 o_ 128 (Ld 8 18),
 o_ 129 (.bsl 0 8 [(.v (.string ⟨#[]⟩)),(.v (.int .i64 0)),(.v (.string ⟨#[]⟩)),(.v (.int .i64 0)),(.v (.bool false)),(.v (.string ⟨#[]⟩)),(.v (.string ⟨#[]⟩)),(.v (.string ⟨#[]⟩))] 1 [(0,(t_ 128))]),
 o_ 130 (Ap 1 8 104 127 129),
 m_ 16 130]))))))))
def b2011_6:AC:=(Z_ [
 m_ 131 16,
 o_ 132 (.call 39 [(t_ 131),(.func 40)])])
def b2011_7:AC:=(Z_ [
 m_ 133 16,
 m_ 4 133])
def b2011_8:AC:=.ret
def b2011:AC:=(S_ b2011_0 (S_ b2011_1 (S_ b2011_2 (S_ b2011_3 (S_ b2011_4 (S_ b2011_5 (S_ b2011_6 (S_ b2011_7 b2011_8))))))))
def ir2011:AF:=⟨134,[(.tmp 4)],b2011⟩
theorem c2011:C_ f11 ir2011:=(by kernel_rfl:_=_)
def b2014:AC:=(S_ (Z_ [
 o_ 4 (Mb false)])
 (S_ (S_ (Z_ [
 m_ 6 0,
 o_ 7 (Ll 6),
 m_ 8 1,
 o_ 9 (Ll 8),
 o_ 10 (Bt .neq 7 9)])
 (K_ 10 (S_ (Z_ [
 o_ 4 (Mb false)])
 .ret) .skip))
 (S_ (S_ (Z_ [
 m_ 11 0,
 o_ 12 (Ll 11),
 o_ 13 (Mi 0)])
 (B_ 0 (W_ (S_ (Z_ [
 o_ 14 (Bt .lss 13 12)])
 (S_ (K_ 14 .skip (.exit 0))
 (S_ (B_ 1 (S_ (Z_ [
 m_ 15 13,
 m_ 5 15])
 (S_ (.dregion 0 [
 m_ 16 0,
 m_ 17 5,
 o_ 18 (Ia 2 16 17),
 o_ 19 (Ld 2 18),
 m_ 20 1,
 m_ 21 5,
 o_ 22 (Ia 2 20 21),
 o_ 23 (Ld 2 22),
 o_ 24 (.eqA true [.s,(.i .i64)] (t_ 19) (t_ 23))] [[],[],[0,1],[2],[],[],[4,5],[6],[3,7]])
 (K_ 24 (S_ (Z_ [
 o_ 4 (Mb false)])
 .ret) .skip))))
 (Z_ [
 o_ 25 (Bi .add 13 1),
 m_ 13 25])))))))
 (S_ (Z_ [
 o_ 4 (Mb true)])
 .ret))))
def ir2014:AF:=⟨26,[(.tmp 4)],b2014⟩
theorem c2014:C_ f14 ir2014:=(by kernel_rfl:_=_)
def b2015:AC:=(S_ (R_ 1 [
 o_ 1 (Bx 0 0),
 o_ 2 (Mn)])
 (S_ (R_ 1 [
 o_ 3 (.zero 0 [(.v (.slice none 0 0))])])
 (S_ (R_ 2 [
 o_ 6 (.mkmap 0 ⟨true,[.s,(.i .i64)]⟩),
 o_ 7 (.build [(.v (.string ⟨#[]⟩)),(.v (.int .i64 0))] []),
 s_ (.mapup ⟨true,[.s,(.i .i64)]⟩ (t_ 6) (t_ 7) (.const (.bool true))),
 m_ 8 6,
 o_ 4 (.zero 1 [(.v (.map none))]),
 s_ (Sr 1 4 8)])
 (S_ (R_ 1 [
 o_ 5 (.zero 0 [(.v .nilFunc)])])
 (S_ (Z_ [
 o_ 9 (.mkfn 43 [(t_ 1),(t_ 4),(t_ 3),(t_ 5)]),
 s_ (Sr 1 5 9)])
 (S_ (Z_ [
 o_ 10 (Lf 1 5),
 o_ 11 (.build [(.v (.string ⟨#[]⟩)),(.v (.int .i64 0))] []),
 o_ 12 (.callv (t_ 10) [(t_ 11)])])
 (S_ (Z_ [
 o_ 13 (Lf 1 3),
 m_ 2 13])
 .ret)))))))
def ir2015:AF:=⟨14,[(.tmp 2)],b2015⟩
theorem c2015:C_ f15 ir2015:=(by kernel_rfl:_=_)
def b2017:AC:=(S_ (R_ 1 [
 o_ 3 (Bx 0 1),
 o_ 4 (Mn)])
 (S_ (Z_ [
 o_ 5 (Mn)])
 (S_ (S_ (Z_ [
 m_ 8 0,
 o_ 9 (Ld 2 3),
 o_ 10 (Cb 44 8 9),
 o_ 11 (Ll 10),
 o_ 12 (Mi 0)])
 (B_ 0 (W_ (S_ (Z_ [
 o_ 13 (Bt .lss 12 11)])
 (S_ (K_ 13 .skip (.exit 0))
 (S_ (B_ 1 (S_ (R_ 1 [
 o_ 14 (Ia 8 10 12),
 o_ 15 (Ld 8 14),
 o_ 7 (.zero 0 [(.v (.string ⟨#[]⟩)),(.v (.int .i64 0)),(.v (.string ⟨#[]⟩)),(.v (.int .i64 0)),(.v (.bool false)),(.v (.string ⟨#[]⟩)),(.v (.string ⟨#[]⟩)),(.v (.string ⟨#[]⟩))]),
 s_ (Sr 8 7 15)])
 (R_ 2 [
 m_ 16 5,
 o_ 17 (Fa 0 7),
 o_ 18 (Ld 2 17),
 o_ 19 (.bsl 0 2 [(.v (.string ⟨#[]⟩)),(.v (.int .i64 0))] 1 [(0,(t_ 18))]),
 o_ 20 (Ap 1 2 24 16 19),
 m_ 5 20])))
 (Z_ [
 o_ 21 (Bi .add 12 1),
 m_ 12 21])))))))
 (S_ (Z_ [
 m_ 22 5,
 m_ 4 22])
 .ret))))
def ir2017:AF:=⟨23,[(.tmp 4)],b2017⟩
theorem c2017:C_ f17 ir2017:=(by kernel_rfl:_=_)
def b2018:AC:=(S_ (R_ 1 [
 o_ 3 (Bx 0 1),
 o_ 4 (Mn)])
 (S_ (Z_ [
 m_ 8 0,
 o_ 9 (Ld 2 3),
 o_ 10 (Cb 45 8 9),
 m_ 5 10])
 (S_ (R_ 1 [
 o_ 11 (.bsl 0 2 [(.v (.string ⟨#[]⟩)),(.v (.int .i64 0))] 0 []),
 m_ 6 11])
 (S_ (S_ (Z_ [
 m_ 12 5,
 o_ 13 (Ll 12),
 o_ 14 (Mi 0)])
 (B_ 0 (W_ (S_ (Z_ [
 o_ 15 (Bt .lss 14 13)])
 (S_ (K_ 15 .skip (.exit 0))
 (S_ (B_ 1 (S_ (Z_ [
 m_ 16 14,
 m_ 7 16])
 (R_ 2 [
 m_ 17 6,
 m_ 18 5,
 m_ 19 7,
 o_ 20 (Ia 8 18 19),
 o_ 21 (Fa 0 20),
 o_ 22 (Ld 2 21),
 o_ 23 (.bsl 0 2 [(.v (.string ⟨#[]⟩)),(.v (.int .i64 0))] 1 [(0,(t_ 22))]),
 o_ 24 (Ap 1 2 24 17 23),
 m_ 6 24])))
 (Z_ [
 o_ 25 (Bi .add 14 1),
 m_ 14 25])))))))
 (S_ (Z_ [
 m_ 26 6,
 m_ 4 26])
 .ret)))))
def ir2018:AF:=⟨27,[(.tmp 4)],b2018⟩
theorem c2018:C_ f18 ir2018:=(by kernel_rfl:_=_)
def b2019_0:AC:=(Z_ [
 o_ 2 (Mb false)])
def b2019_1:AC:=(S_ (Z_ [
 m_ 5 0,
 o_ 6 (Ll 5),
 o_ 7 (Mi 0)])
 (B_ 0 (W_ (S_ (Z_ [
 o_ 8 (Bt .lss 7 6)])
 (S_ (K_ 8 .skip (.exit 0))
 (S_ (B_ 1 (S_ (Z_ [
 m_ 9 7,
 m_ 3 9])
 (S_ (R_ 1 [
 m_ 10 0,
 m_ 11 3,
 o_ 12 (Ia 8 10 11),
 o_ 13 (Fa 0 12),
 o_ 14 (Ld 2 13),
 o_ 4 (.zero 0 [(.v (.string ⟨#[]⟩)),(.v (.int .i64 0))]),
 s_ (Sr 2 4 14)])
 (S_ (S_ (.dregion 0 [
 o_ 15 (Fa 0 4),
 o_ 16 (Lf 1 15),
 o_ 17 (Ca 46 16),
 o_ 18 (Nt 17),
 m_ 19 18,
 g_ 20 (Fa 1 4) 19 false,
 g_ 21 (Lf 1 20) 19 false,
 g_ 22 (Bi .lss 21 1) 19 false,
 o_ 23 (Pt 19 22),
 m_ 24 23,
 g_ 25 (Fa 1 4) 24 false,
 g_ 26 (Lf 1 25) 24 false,
 g_ 27 (Bi .gtr 26 1000000000) 24 false,
 o_ 28 (Pt 24 27),
 m_ 29 28,
 g_ 30 (Mv 3) 29 false,
 g_ 31 (Bi .gtr 30 0) 29 false,
 g_ 32 (Mv 31) 29 false,
 g_ 33 (Mv 0) 32 true,
 g_ 34 (Mv 3) 32 true,
 g_ 35 (Bi .sub 34 1) 32 true,
 g_ 36 (Ia 8 33 35) 32 true,
 g_ 37 (Fa 0 36) 32 true,
 g_ 38 (Ld 2 37) 32 true,
 g_ 39 (Ld 2 4) 32 true,
 g_ 40 (Cb 47 38 39) 32 true,
 g_ 41 (Nt 40) 32 true,
 g_ 42 (Pf 32 41) 29 false,
 o_ 43 (Pt 29 42)] [[],[0],[1],[2],[3,2],[4],[5,4],[6,4],[4,7],[8,4],[9],[10,9],[11,9],[9,12],[13,9],[14],[15,14],[16,14,14],[17],[17],[19,17],[18,20,17],[21,17],[22,17],[17],[23,24,17,17],[25,17],[17,26,14],[14,27]])
 (K_ 43 (S_ (Z_ [
 o_ 2 (Mb false)])
 .ret) .skip))
 (S_ (.dregion 0 [
 m_ 44 0,
 o_ 45 (Ld 2 4),
 o_ 46 (.build [(.v (.string ⟨#[]⟩)),(.v (.int .i64 0))] []),
 o_ 47 (Cc 48 44 45 46),
 o_ 48 (Nt 47),
 m_ 49 48,
 g_ 50 (Mv 0) 49 true,
 g_ 51 (Ld 2 4) 49 true,
 g_ 52 (Cz 49) 49 true,
 g_ 53 (Cc 48 50 51 52) 49 true,
 g_ 54 (Nt 53) 49 true,
 o_ 55 (Pf 49 54)] [[],[],[],[0,1,2],[3],[4,3],[5],[5],[5,5],[6,7,8,8,5],[9,5],[5,10]])
 (K_ 55 (S_ (Z_ [
 o_ 2 (Mb false)])
 .ret) .skip))))))
 (Z_ [
 o_ 56 (Bi .add 7 1),
 m_ 7 56])))))))
def b2019_2:AC:=(Z_ [
 o_ 2 (Mb true)])
def b2019_3:AC:=.ret
def b2019:AC:=(S_ b2019_0 (S_ b2019_1 (S_ b2019_2 b2019_3)))
def ir2019:AF:=⟨57,[(.tmp 2)],b2019⟩
theorem c2019:C_ f19 ir2019:=(by kernel_rfl:_=_)
def b2020:AC:=(S_ (R_ 1 [
 o_ 3 (Bx 0 1),
 o_ 4 (Mi 0)])
 (S_ (S_ (Z_ [
 m_ 6 0,
 o_ 7 (Ll 6),
 o_ 8 (Mi 0)])
 (B_ 0 (W_ (S_ (Z_ [
 o_ 9 (Bt .lss 8 7)])
 (S_ (K_ 9 .skip (.exit 0))
 (S_ (B_ 1 (S_ (Z_ [
 m_ 10 8,
 m_ 5 10])
 (S_ (.dregion 0 [
 m_ 11 0,
 m_ 12 5,
 o_ 13 (Ia 8 11 12),
 o_ 14 (Fa 0 13),
 o_ 15 (Ld 2 14),
 o_ 16 (Ld 2 3),
 o_ 17 (.eqA false [.s,(.i .i64)] (t_ 15) (t_ 16))] [[],[],[0,1],[2],[3],[],[4,5]])
 (K_ 17 (S_ (Z_ [
 m_ 18 5,
 m_ 4 18])
 .ret) .skip))))
 (Z_ [
 o_ 19 (Bi .add 8 1),
 m_ 8 19])))))))
 (S_ (Z_ [
 o_ 4 (Mi (-1))])
 .ret)))
def ir2020:AF:=⟨20,[(.tmp 4)],b2020⟩
theorem c2020:C_ f20 ir2020:=(by kernel_rfl:_=_)
def b2021_0:AC:=(Z_ [
 o_ 2 (Mb false)])
def b2021_1:AC:=(S_ (Z_ [
 m_ 4 0,
 o_ 5 (Ll 4),
 o_ 6 (Bi .gtr 5 40)])
 (K_ 6 (S_ (Z_ [
 o_ 2 (Mb false)])
 .ret) .skip))
def b2021_2:AC:=(S_ (Z_ [
 m_ 7 0,
 o_ 8 (Ll 7),
 o_ 9 (Mi 0)])
 (B_ 0 (W_ (S_ (Z_ [
 o_ 10 (Bt .lss 9 8)])
 (S_ (K_ 10 .skip (.exit 0))
 (S_ (B_ 1 (S_ (Z_ [
 m_ 11 9,
 m_ 3 11])
 (S_ (.dregion 0 [
 m_ 12 0,
 m_ 13 3,
 o_ 14 (Ia 8 12 13),
 o_ 15 (Fa 4 14),
 o_ 16 (Ld 3 15),
 o_ 17 (Ca 50 16),
 m_ 18 0,
 m_ 19 3,
 o_ 20 (Ia 8 18 19),
 o_ 21 (Fa 4 20),
 o_ 22 (Ld 3 21),
 o_ 23 (.eqA true [.b,.s,.s] (t_ 17) (t_ 22)),
 m_ 24 23,
 g_ 25 (Mv 0) 24 false,
 g_ 26 (Mv 3) 24 false,
 g_ 27 (Ia 8 25 26) 24 false,
 g_ 28 (Fa 4 27) 24 false,
 g_ 29 (Ld 3 28) 24 false,
 g_ 30 (.call 25 [(t_ 29),(.const (.int .i64 16))]) 24 false,
 g_ 31 (Nt 30) 24 false,
 o_ 32 (Pt 24 31),
 m_ 33 32,
 g_ 34 (Mv 0) 33 false,
 g_ 35 (Mv 3) 33 false,
 g_ 36 (Ia 8 34 35) 33 false,
 g_ 37 (Fa 7 36) 33 false,
 g_ 38 (Lf 1 37) 33 false,
 g_ 39 (Ls 38) 33 false,
 g_ 40 (Bi .gtr 39 100) 33 false,
 o_ 41 (Pt 33 40),
 m_ 42 41,
 g_ 43 (Mv 0) 42 false,
 g_ 44 (Mv 3) 42 false,
 g_ 45 (Ia 8 43 44) 42 false,
 g_ 46 (Fa 0 45) 42 false,
 g_ 47 (Fa 0 46) 42 false,
 g_ 48 (Lf 1 47) 42 false,
 g_ 49 (Ls 48) 42 false,
 g_ 50 (Mv 0) 42 false,
 g_ 51 (Mv 3) 42 false,
 g_ 52 (Ia 8 50 51) 42 false,
 g_ 53 (Fa 2 52) 42 false,
 g_ 54 (Fa 0 53) 42 false,
 g_ 55 (Lf 1 54) 42 false,
 g_ 56 (Ls 55) 42 false,
 g_ 57 (Bt .add 49 56) 42 false,
 g_ 58 (Bi .gtr 57 100) 42 false,
 o_ 59 (Pt 42 58)] [[],[],[0,1],[2],[3],[4],[],[],[6,7],[8],[9],[5,10],[11,5],[12],[12],[13,14,12],[15,12],[16,12],[17,12,12],[18,12],[12,19],[20,18],[21],[21],[22,23,21],[24,21],[25,21],[26,21],[27,21],[21,28],[29,21],[30],[30],[31,32,30],[33,30],[34,30],[35,30],[36,30],[30],[30],[38,39,30],[40,30],[41,30],[42,30],[43,30],[37,44,30],[45,30],[30,46]])
 (K_ 59 (S_ (Z_ [
 o_ 2 (Mb false)])
 .ret) .skip))))
 (Z_ [
 o_ 60 (Bi .add 9 1),
 m_ 9 60])))))))
def b2021_3:AC:=(Z_ [
 m_ 61 0,
 o_ 62 (Ca 19 61),
 m_ 2 62])
def b2021_4:AC:=.ret
def b2021:AC:=(S_ b2021_0 (S_ b2021_1 (S_ b2021_2 (S_ b2021_3 b2021_4))))
def ir2021:AF:=⟨63,[(.tmp 2)],b2021⟩
theorem c2021:C_ f21 ir2021:=(by kernel_rfl:_=_)
def b2022_0:AC:=(R_ 2 [
 o_ 4 (Bx 0 1),
 o_ 6 (.zero 1 [(.v (.bool false)),(.v (.string ⟨#[]⟩)),(.v (.string ⟨#[]⟩))])])
def b2022_1:AC:=(Z_ [
 m_ 10 0,
 o_ 11 (Ld 2 4),
 o_ 12 (Cb 44 10 11),
 m_ 7 12])
def b2022_2:AC:=(B_ 0 (S_ (Z_ [
 m_ 14 7,
 o_ 15 (Ll 14),
 o_ 16 (Bi .eql 15 0),
 m_ 13 16])
 (K_ 13 (S_ (Z_ [
 o_ 17 (.build [(.v (.bool false)),(.v (.string ⟨#[]⟩)),(.v (.string ⟨#[]⟩))] []),
 s_ (Sr 3 6 17)])
 .ret) (S_ (Z_ [
 m_ 19 2,
 o_ 20 (Bi .leq 19 0),
 m_ 18 20])
 (K_ 18 (S_ (.dregion 0 [
 m_ 21 7,
 o_ 22 (.iaddr 8 (t_ 21) (.const (.int .i64 0))),
 o_ 23 (Fa 4 22),
 o_ 24 (Ld 3 23),
 o_ 25 (Cz 52),
 o_ 26 (Cb 51 24 25),
 s_ (Sr 3 6 26)] [[],[0],[1],[2],[],[3,4,4],[5,5,0,1,2,3,4,5]])
 .ret) (S_ (Z_ [
 m_ 28 2,
 m_ 29 7,
 o_ 30 (Ll 29),
 o_ 31 (Bt .geq 28 30),
 m_ 27 31])
 (K_ 27 (S_ (.dregion 0 [
 m_ 32 7,
 m_ 33 7,
 o_ 34 (Ll 33),
 o_ 35 (Bi .sub 34 1),
 o_ 36 (Ia 8 32 35),
 o_ 37 (Fa 4 36),
 o_ 38 (Ld 3 37),
 o_ 39 (Cz 52),
 o_ 40 (Cb 53 38 39),
 s_ (Sr 3 6 40)] [[],[],[1],[2],[0,3],[4],[5],[],[6,7,7],[8,8,0,1,2,3,4,5,6,7,8]])
 .ret) .skip)))))))
def b2022_3:AC:=(.dregion 2 [
 m_ 41 7,
 m_ 42 2,
 o_ 43 (Bi .sub 42 1),
 o_ 44 (Ia 8 41 43),
 o_ 45 (Fa 4 44),
 o_ 46 (Ld 3 45),
 m_ 47 7,
 m_ 48 2,
 o_ 49 (Ia 8 47 48),
 o_ 50 (Fa 4 49),
 o_ 51 (Ld 3 50),
 o_ 8 (.zero 0 [(.v (.bool false)),(.v (.string ⟨#[]⟩)),(.v (.string ⟨#[]⟩))]),
 o_ 9 (.zero 1 [(.v (.bool false)),(.v (.string ⟨#[]⟩)),(.v (.string ⟨#[]⟩))]),
 s_ (Sr 3 8 46),
 s_ (Sr 3 9 51)] [[],[],[1],[0,2],[3],[4],[],[],[6,7],[8],[9],[],[],[11,5,0,1,2,3,4,5,11,12],[12,10,13,0,1,2,3,4,5,6,7,8,9,10,11,12,13]])
def b2022_4:AC:=(S_ (Z_ [
 o_ 52 (Ld 3 8),
 o_ 53 (Ld 3 9),
 o_ 54 (Cb 24 52 53),
 o_ 55 (Bi .eql 54 0)])
 (K_ 55 (S_ (Z_ [
 o_ 56 (Ld 3 8),
 o_ 57 (Ca 54 56),
 s_ (Sr 3 6 57)])
 .ret) .skip))
def b2022_5:AC:=(Z_ [
 o_ 58 (Ld 3 8),
 o_ 59 (Ld 3 9),
 o_ 60 (Cb 55 58 59),
 s_ (Sr 3 6 60)])
def b2022_6:AC:=.ret
def b2022:AC:=(S_ b2022_0 (S_ b2022_1 (S_ b2022_2 (S_ b2022_3 (S_ b2022_4 (S_ b2022_5 b2022_6))))))
def ir2022:AF:=⟨61,[(.cell 6 true 3)],b2022⟩
theorem c2022:C_ f22 ir2022:=(by kernel_rfl:_=_)
def b2023_0:AC:=(R_ 2 [
 o_ 4 (Bx 0 1),
 o_ 6 (.zero 1 [(.v (.bool false)),(.v (.string ⟨#[]⟩)),(.v (.string ⟨#[]⟩))])])
def b2023_1:AC:=(Z_ [
 m_ 10 0,
 o_ 11 (Ld 2 4),
 o_ 12 (Cb 45 10 11),
 m_ 7 12])
def b2023_2:AC:=(S_ (Z_ [
 m_ 13 7,
 o_ 14 (Ll 13),
 o_ 15 (Bi .eql 14 0)])
 (K_ 15 (S_ (Z_ [
 o_ 16 (.call 56 [(.const (.int .i64 0))]),
 s_ (Sr 3 6 16)])
 .ret) .skip))
def b2023_3:AC:=(S_ (Z_ [
 m_ 17 2,
 o_ 18 (Bi .leq 17 0)])
 (K_ 18 (S_ (.dregion 0 [
 m_ 19 7,
 o_ 20 (.iaddr 8 (t_ 19) (.const (.int .i64 0))),
 o_ 21 (Fa 4 20),
 o_ 22 (Ld 3 21),
 o_ 23 (.call 56 [(.const (.int .i64 1))]),
 o_ 24 (Cb 57 22 23),
 s_ (Sr 3 6 24)] [[],[0],[1],[2],[],[3,4,4],[5,5,0,1,2,3,4,5]])
 .ret) .skip))
def b2023_4:AC:=(S_ (Z_ [
 m_ 25 2,
 m_ 26 7,
 o_ 27 (Ll 26),
 o_ 28 (Bt .geq 25 27)])
 (K_ 28 (S_ (.dregion 0 [
 m_ 29 7,
 m_ 30 7,
 o_ 31 (Ll 30),
 o_ 32 (Bi .sub 31 1),
 o_ 33 (Ia 8 29 32),
 o_ 34 (Fa 4 33),
 o_ 35 (Ld 3 34),
 o_ 36 (.call 56 [(.const (.int .i64 1))]),
 o_ 37 (Cb 58 35 36),
 s_ (Sr 3 6 37)] [[],[],[1],[2],[0,3],[4],[5],[],[6,7,7],[8,8,0,1,2,3,4,5,6,7,8]])
 .ret) .skip))
def b2023_5:AC:=(.dregion 2 [
 m_ 38 7,
 m_ 39 2,
 o_ 40 (Bi .sub 39 1),
 o_ 41 (Ia 8 38 40),
 o_ 42 (Fa 4 41),
 o_ 43 (Ld 3 42),
 m_ 44 7,
 m_ 45 2,
 o_ 46 (Ia 8 44 45),
 o_ 47 (Fa 4 46),
 o_ 48 (Ld 3 47),
 o_ 8 (.zero 0 [(.v (.bool false)),(.v (.string ⟨#[]⟩)),(.v (.string ⟨#[]⟩))]),
 o_ 9 (.zero 1 [(.v (.bool false)),(.v (.string ⟨#[]⟩)),(.v (.string ⟨#[]⟩))]),
 s_ (Sr 3 8 43),
 s_ (Sr 3 9 48)] [[],[],[1],[0,2],[3],[4],[],[],[6,7],[8],[9],[],[],[11,5,0,1,2,3,4,5,11,12],[12,10,13,0,1,2,3,4,5,6,7,8,9,10,11,12,13]])
def b2023_6:AC:=(S_ (Z_ [
 o_ 49 (Ld 3 8),
 o_ 50 (Ld 3 9),
 o_ 51 (Cb 59 49 50),
 o_ 52 (Bi .eql 51 0)])
 (K_ 52 (S_ (Z_ [
 o_ 53 (Ld 3 8),
 o_ 54 (Ca 50 53),
 s_ (Sr 3 6 54)])
 .ret) .skip))
def b2023_7:AC:=(Z_ [
 o_ 55 (Ld 3 8),
 o_ 56 (Ld 3 9),
 o_ 57 (Cb 60 55 56),
 s_ (Sr 3 6 57)])
def b2023_8:AC:=.ret
def b2023:AC:=(S_ b2023_0 (S_ b2023_1 (S_ b2023_2 (S_ b2023_3 (S_ b2023_4 (S_ b2023_5 (S_ b2023_6 (S_ b2023_7 b2023_8))))))))
def ir2023:AF:=⟨58,[(.cell 6 true 3)],b2023⟩
theorem c2023:C_ f23 ir2023:=(by kernel_rfl:_=_)
def b2024:AC:=(S_ (R_ 2 [
 o_ 2 (Bx 0 0),
 o_ 3 (Bx 1 1),
 o_ 4 (Mi 0)])
 (S_ (R_ 2 [
 o_ 10 (Ld 3 2),
 o_ 11 (Ca 61 10),
 m_ 9 11,
 o_ 12 (Xt 9 0),
 o_ 13 (Xt 9 1),
 o_ 5 (.zero 0 [(.v (.bool false)),(.v (.string ⟨#[]⟩))]),
 o_ 6 (.zero 1 [(.v (.bool false)),(.v (.string ⟨#[]⟩))]),
 s_ (Sr 2 5 12),
 s_ (Sr 2 6 13)])
 (S_ (R_ 2 [
 o_ 15 (Ld 3 3),
 o_ 16 (Ca 61 15),
 m_ 14 16,
 o_ 17 (Xt 14 0),
 o_ 18 (Xt 14 1),
 o_ 7 (.zero 0 [(.v (.bool false)),(.v (.string ⟨#[]⟩))]),
 o_ 8 (.zero 1 [(.v (.bool false)),(.v (.string ⟨#[]⟩))]),
 s_ (Sr 2 7 17),
 s_ (Sr 2 8 18)])
 (S_ (.dregion 0 [
 o_ 19 (Ld 2 5),
 o_ 20 (Ld 2 8),
 o_ 21 (Cb 63 19 20),
 o_ 22 (Ld 2 7),
 o_ 23 (Ld 2 6),
 o_ 24 (Cb 63 22 23),
 o_ 25 (Cb 62 21 24),
 m_ 4 25] [[],[],[0,1],[],[],[3,4,2],[2,5,5],[6,6,0,1,2,3,4,5,6]])
 .ret))))
def ir2024:AF:=⟨26,[(.tmp 4)],b2024⟩
theorem c2024:C_ f24 ir2024:=(by kernel_rfl:_=_)
def b1091:AC:=(S_ (R_ 1 [
 o_ 2 (Bx 0 0),
 o_ 4 (Mb false)])
 (S_ (R_ 1 [
 o_ 6 (Ld 3 2),
 o_ 7 (Ca 50 6),
 o_ 5 (.zero 0 [(.v (.bool false)),(.v (.string ⟨#[]⟩)),(.v (.string ⟨#[]⟩))]),
 s_ (Sr 3 5 7)])
 (S_ (Z_ [
 o_ 8 (Fa 1 5),
 o_ 9 (Lf 1 8),
 o_ 10 (Ls 9),
 m_ 11 1,
 o_ 12 (Bt .leq 10 11),
 m_ 13 12,
 g_ 14 (Fa 2 5) 13 true,
 g_ 15 (Lf 1 14) 13 true,
 g_ 16 (Ls 15) 13 true,
 g_ 17 (Mv 1) 13 true,
 g_ 18 (Bt .leq 16 17) 13 true,
 o_ 19 (Pf 13 18),
 m_ 4 19])
 .ret)))
def ir1091:AF:=⟨20,[(.tmp 4)],b1091⟩
theorem c1091:C_ f25 ir1091:=(by kernel_rfl:_=_)
def b2026:AC:=(S_ (R_ 1 [
 o_ 2 (.zero 0 [(.v (.string ⟨#[]⟩)),(.v (.int .i64 0))])])
 (S_ (Z_ [
 m_ 3 0,
 o_ 4 (.build [(.v (.string ⟨#[]⟩)),(.v (.int .i64 0))] [(0,(1,(.const (.string ⟨#[97]⟩)))),(1,(1,(t_ 3)))]),
 s_ (Sr 2 2 4)])
 .ret))
def ir2026:AF:=⟨5,[(.cell 2 true 2)],b2026⟩
theorem c2026:C_ f26 ir2026:=(by kernel_rfl:_=_)
def b2027:AC:=(S_ (R_ 3 [
 o_ 2 (Bx 0 0),
 o_ 3 (Bx 1 1),
 o_ 4 (.zero 2 [(.v (.bool false)),(.v (.string ⟨#[]⟩)),(.v (.string ⟨#[]⟩))]),
 o_ 5 (Mb false)])
 (S_ (R_ 2 [
 o_ 11 (Ld 3 2),
 o_ 12 (Ca 61 11),
 m_ 10 12,
 o_ 13 (Xt 10 0),
 o_ 14 (Xt 10 1),
 o_ 6 (.zero 0 [(.v (.bool false)),(.v (.string ⟨#[]⟩))]),
 o_ 7 (.zero 1 [(.v (.bool false)),(.v (.string ⟨#[]⟩))]),
 s_ (Sr 2 6 13),
 s_ (Sr 2 7 14)])
 (S_ (R_ 2 [
 o_ 16 (Ld 3 3),
 o_ 17 (Ca 61 16),
 m_ 15 17,
 o_ 18 (Xt 15 0),
 o_ 19 (Xt 15 1),
 o_ 8 (.zero 0 [(.v (.bool false)),(.v (.string ⟨#[]⟩))]),
 o_ 9 (.zero 1 [(.v (.bool false)),(.v (.string ⟨#[]⟩))]),
 s_ (Sr 2 8 18),
 s_ (Sr 2 9 19)])
 (S_ (.dregion 0 [
 o_ 20 (Ld 2 6),
 o_ 21 (Ld 2 9),
 o_ 22 (Cb 63 20 21),
 o_ 23 (Ld 2 7),
 o_ 24 (Ld 2 8),
 o_ 25 (Cb 63 23 24),
 o_ 26 (Cb 35 22 25),
 o_ 27 (Xt 26 0),
 o_ 28 (Xt 26 1),
 s_ (Sr 3 4 27),
 m_ 5 28] [[],[],[0,1],[],[],[3,4,2],[2,5,5],[6],[6],[7,6,0,1,2,3,4,5,6,7,8],[8,9,0,1,2,3,4,5,6,7,8,9]])
 .ret))))
def ir2027:AF:=⟨29,[(.cell 4 true 3),(.tmp 5)],b2027⟩
theorem c2027:C_ f27 ir2027:=(by kernel_rfl:_=_)
def b2028:AC:=(S_ (R_ 1 [
 o_ 2 (.zero 0 [(.v (.bool false)),(.v (.string ⟨#[]⟩)),(.v (.string ⟨#[]⟩))])])
 (S_ (Z_ [
 m_ 3 0,
 o_ 4 (Ca 34 3),
 o_ 5 (.call 34 [(.const (.int .i64 1))]),
 o_ 6 (Cb 64 4 5),
 s_ (Sr 3 2 6)])
 .ret))
def ir2028:AF:=⟨7,[(.cell 2 true 3)],b2028⟩
theorem c2028:C_ f28 ir2028:=(by kernel_rfl:_=_)
def b2029:AC:=(S_ (R_ 1 [
 o_ 1 (Bx 0 0),
 o_ 2 (Mi 0)])
 (S_ (R_ 2 [
 o_ 6 (Ld 3 1),
 o_ 7 (Ca 61 6),
 m_ 5 7,
 o_ 8 (Xt 5 0),
 o_ 9 (Xt 5 1),
 o_ 3 (.zero 0 [(.v (.bool false)),(.v (.string ⟨#[]⟩))]),
 o_ 4 (.zero 1 [(.v (.bool false)),(.v (.string ⟨#[]⟩))]),
 s_ (Sr 2 3 8),
 s_ (Sr 2 4 9)])
 (S_ (Z_ [
 o_ 10 (Ld 2 3),
 o_ 11 (Ca 65 10),
 m_ 2 11])
 .ret)))
def ir2029:AF:=⟨12,[(.tmp 2)],b2029⟩
theorem c2029:C_ f29 ir2029:=(by kernel_rfl:_=_)
def b2030:AC:=(S_ (R_ 2 [
 o_ 1 (Bx 0 0),
 o_ 2 (.zero 1 [(.v (.bool false)),(.v (.string ⟨#[]⟩)),(.v (.string ⟨#[]⟩))])])
 (S_ (R_ 2 [
 o_ 6 (Ld 3 1),
 o_ 7 (Ca 61 6),
 m_ 5 7,
 o_ 8 (Xt 5 0),
 o_ 9 (Xt 5 1),
 o_ 3 (.zero 0 [(.v (.bool false)),(.v (.string ⟨#[]⟩))]),
 o_ 4 (.zero 1 [(.v (.bool false)),(.v (.string ⟨#[]⟩))]),
 s_ (Sr 2 3 8),
 s_ (Sr 2 4 9)])
 (S_ (.dregion 0 [
 o_ 10 (Ld 2 3),
 o_ 11 (Ca 66 10),
 o_ 12 (Ld 2 4),
 o_ 13 (Cb 64 11 12),
 s_ (Sr 3 2 13)] [[],[0],[],[1,2,1],[3,3,0,1,2,3]])
 .ret)))
def ir2030:AF:=⟨14,[(.cell 2 true 3)],b2030⟩
theorem c2030:C_ f30 ir2030:=(by kernel_rfl:_=_)
def b2031:AC:=(S_ (R_ 3 [
 o_ 2 (Bx 0 0),
 o_ 3 (Bx 1 1),
 o_ 4 (.zero 2 [(.v (.bool false)),(.v (.string ⟨#[]⟩))])])
 (S_ (.dregion 0 [
 o_ 9 (Ld 2 2),
 o_ 10 (Ca 67 9),
 o_ 11 (Ld 2 3),
 o_ 12 (Ca 67 11),
 s_ (Sr 2 2 10),
 s_ (Sr 2 3 12)] [[],[0],[],[2,1],[1,3,0,1],[3,4,0,1,2,3,4]])
 (S_ (S_ (Z_ [
 o_ 13 (Fa 0 2),
 o_ 14 (Lf 1 13),
 o_ 15 (Fa 0 3),
 o_ 16 (Lf 1 15),
 o_ 17 (.eqB false (t_ 14) (t_ 16))])
 (K_ 17 (S_ (.dregion 0 [
 o_ 18 (Fa 0 2),
 o_ 19 (Lf 1 18),
 o_ 20 (Fa 1 2),
 o_ 21 (Lf 1 20),
 o_ 22 (Fa 1 3),
 o_ 23 (Lf 1 22),
 o_ 24 (Cb 69 21 23),
 o_ 25 (Cb 68 19 24),
 s_ (Sr 2 4 25)] [[],[0],[],[2],[],[4],[3,5],[1,6,6],[7,7,0,1,2,3,4,5,6,7]])
 .ret) .skip))
 (S_ (S_ (Z_ [
 o_ 27 (Fa 1 2),
 o_ 28 (Lf 1 27),
 o_ 29 (Fa 1 3),
 o_ 30 (Lf 1 29),
 o_ 31 (Cb 70 28 30),
 m_ 26 31,
 o_ 32 (Xt 26 0),
 o_ 33 (Xt 26 1),
 m_ 5 32,
 m_ 6 33])
 (S_ (Z_ [
 m_ 34 6])
 (K_ 34 (S_ (Z_ [
 o_ 35 (Fa 0 2),
 o_ 36 (Lf 1 35),
 m_ 37 5,
 o_ 38 (Cb 68 36 37),
 s_ (Sr 2 4 38)])
 .ret) .skip)))
 (S_ (Z_ [
 o_ 40 (Fa 1 3),
 o_ 41 (Lf 1 40),
 o_ 42 (Fa 1 2),
 o_ 43 (Lf 1 42),
 o_ 44 (Cb 70 41 43),
 m_ 39 44,
 o_ 45 (Xt 39 0),
 o_ 46 (Xt 39 1),
 m_ 7 45,
 m_ 8 46])
 (S_ (Z_ [
 o_ 47 (Fa 0 3),
 o_ 48 (Lf 1 47),
 m_ 49 7,
 o_ 50 (Cb 68 48 49),
 s_ (Sr 2 4 50)])
 .ret))))))
def ir2031:AF:=⟨51,[(.cell 4 true 2)],b2031⟩
theorem c2031:C_ f31 ir2031:=(by kernel_rfl:_=_)
def b2032:AC:=(S_ (R_ 2 [
 o_ 1 (Bx 0 0),
 o_ 2 (.zero 1 [(.v (.bool false)),(.v (.string ⟨#[]⟩))])])
 (S_ (R_ 2 [
 o_ 7 (Ld 3 1),
 o_ 8 (Ca 61 7),
 o_ 9 (Xt 8 0),
 o_ 10 (Xt 8 1),
 o_ 11 (Cb 71 9 10),
 m_ 6 11,
 o_ 12 (Xt 6 0),
 o_ 13 (Xt 6 1),
 o_ 14 (Xt 6 2),
 o_ 3 (.zero 0 [(.v (.bool false)),(.v (.string ⟨#[]⟩))]),
 o_ 4 (.zero 1 [(.v (.bool false)),(.v (.string ⟨#[]⟩))]),
 s_ (Sr 2 3 12),
 s_ (Sr 2 4 13),
 m_ 5 14])
 (S_ (Z_ [
 o_ 15 (Ld 2 3),
 s_ (Sr 2 2 15)])
 .ret)))
def ir2032:AF:=⟨16,[(.cell 2 true 2)],b2032⟩
theorem c2032:C_ f32 ir2032:=(by kernel_rfl:_=_)
def b1120:AC:=(S_ (R_ 1 [
 o_ 2 (.zero 0 [(.v (.bool false)),(.v (.string ⟨#[]⟩))])])
 (S_ (S_ (Z_ [
 m_ 3 0,
 o_ 4 (Bi .lss 3 0)])
 (K_ 4 (S_ (Z_ [
 m_ 5 0,
 o_ 6 (Bi .add 5 1),
 o_ 7 (.neg .i64 (t_ 6)),
 o_ 8 (Cq .u64 7),
 o_ 9 (.binI .add .u64 (t_ 8) (.const (.int .u64 1))),
 o_ 10 (Ca 72 9),
 o_ 11 (.call 68 [(.const (.bool true)),(t_ 10)]),
 s_ (Sr 2 2 11)])
 .ret) .skip))
 (S_ (Z_ [
 m_ 12 0,
 o_ 13 (Cq .u64 12),
 o_ 14 (Ca 72 13),
 o_ 15 (.call 68 [(.const (.bool false)),(t_ 14)]),
 s_ (Sr 2 2 15)])
 .ret)))
def ir1120:AF:=⟨16,[(.cell 2 true 2)],b1120⟩
theorem c1120:C_ f34 ir1120:=(by kernel_rfl:_=_)
def b1118:AC:=(S_ (R_ 3 [
 o_ 2 (Bx 0 0),
 o_ 3 (Bx 1 1),
 o_ 4 (.zero 2 [(.v (.bool false)),(.v (.string ⟨#[]⟩)),(.v (.string ⟨#[]⟩))]),
 o_ 5 (Mb false)])
 (S_ (S_ (Z_ [
 o_ 9 (Ld 2 3),
 o_ 10 (Ca 65 9),
 o_ 11 (Bi .eql 10 0)])
 (K_ 11 (S_ (Z_ [
 o_ 12 (.build [(.v (.bool false)),(.v (.string ⟨#[]⟩)),(.v (.string ⟨#[]⟩))] []),
 s_ (Sr 3 4 12),
 o_ 5 (Mb false)])
 .ret) .skip))
 (S_ (S_ (Z_ [
 o_ 13 (Ld 2 2),
 o_ 14 (Ca 65 13),
 o_ 15 (Bi .eql 14 0)])
 (K_ 15 (S_ (Z_ [
 o_ 16 (.build [(.v (.bool false)),(.v (.string ⟨#[]⟩)),(.v (.string ⟨#[]⟩))] []),
 s_ (Sr 3 4 16),
 o_ 5 (Mb true)])
 .ret) .skip))
 (S_ (R_ 1 [
 o_ 17 (Fa 1 2),
 o_ 18 (Lf 1 17),
 o_ 19 (Fa 1 3),
 o_ 20 (Lf 1 19),
 o_ 21 (Cb 73 18 20),
 o_ 6 (.zero 0 [(.v (.string ⟨#[]⟩))]),
 s_ (Sr 1 6 21)])
 (S_ (Z_ [
 o_ 22 (.mkfn 74 [(t_ 6)]),
 m_ 7 22])
 (S_ (.dregion 1 [
 o_ 23 (Fa 0 2),
 o_ 24 (Lf 1 23),
 o_ 25 (Fa 0 3),
 o_ 26 (Lf 1 25),
 o_ 27 (.eqB true (t_ 24) (t_ 26)),
 m_ 28 7,
 o_ 29 (Fa 1 2),
 o_ 30 (Lf 1 29),
 o_ 31 (.callv (t_ 28) [(t_ 30)]),
 m_ 32 7,
 o_ 33 (Fa 1 3),
 o_ 34 (Lf 1 33),
 o_ 35 (.callv (t_ 32) [(t_ 34)]),
 o_ 36 (.build [(.v (.bool false)),(.v (.string ⟨#[]⟩)),(.v (.string ⟨#[]⟩))] [(0,(1,(t_ 27))),(1,(1,(t_ 31))),(2,(1,(t_ 35)))]),
 o_ 8 (.zero 0 [(.v (.bool false)),(.v (.string ⟨#[]⟩)),(.v (.string ⟨#[]⟩))]),
 s_ (Sr 3 8 36)] [[],[0],[],[2],[1,3],[],[],[6],[5,7],[],[],[10],[9,11,8],[4,8,12],[],[14,13,12,0,1,2,3,4,5,6,7,8,9,10,11,12,13,14]])
 (S_ (S_ (Z_ [
 o_ 37 (Fa 2 8),
 o_ 38 (Lf 1 37),
 o_ 39 (.binS .eql (t_ 38) (.const (.string ⟨#[1]⟩)))])
 (K_ 39 (Z_ [
 o_ 40 (Fa 2 8),
 s_ (.store 1 (t_ 40) (.const (.string ⟨#[]⟩)))]) .skip))
 (S_ (Z_ [
 o_ 41 (Ld 3 8),
 s_ (Sr 3 4 41),
 o_ 5 (Mb true)])
 .ret))))))))
def ir1118:AF:=⟨42,[(.cell 4 true 3),(.tmp 5)],b1118⟩
theorem c1118:C_ f35 ir1118:=(by kernel_rfl:_=_)
def b2038:AC:=(S_ (R_ 3 [
 o_ 3 (Bx 0 0),
 o_ 4 (Bx 1 1),
 o_ 5 (Bx 2 2),
 o_ 6 (Mb false)])
 (S_ (R_ 2 [
 o_ 9 (.mkmap 0 ⟨true,[.s,(.i .i64)]⟩),
 o_ 7 (.zero 1 [(.v (.map none))]),
 s_ (Sr 1 7 9)])
 (S_ (R_ 1 [
 o_ 8 (.zero 0 [(.v .nilFunc)])])
 (S_ (Z_ [
 o_ 10 (.mkfn 80 [(t_ 5),(t_ 3),(t_ 7),(t_ 8)]),
 s_ (Sr 1 8 10)])
 (S_ (Z_ [
 o_ 11 (Lf 1 8),
 o_ 12 (Ld 2 4),
 o_ 13 (.callv (t_ 11) [(t_ 12)]),
 m_ 6 13])
 .ret)))))
def ir2038:AF:=⟨14,[(.tmp 6)],b2038⟩
theorem c2038:C_ f38 ir2038:=(by kernel_rfl:_=_)
def b2041:AC:=(S_ (R_ 2 [
 o_ 2 (Bx 0 0),
 o_ 3 (Bx 1 1),
 o_ 4 (Mi 0)])
 (S_ (.dregion 1 [
 o_ 5 (Fa 0 2),
 o_ 6 (Lf 1 5),
 o_ 7 (Fa 0 3),
 o_ 8 (Lf 1 7),
 o_ 9 (Cb 84 6 8),
 o_ 10 (Fa 1 2),
 o_ 11 (Lf 1 10),
 o_ 12 (Fa 1 3),
 o_ 13 (Lf 1 12),
 o_ 14 (Cb 85 11 13),
 o_ 15 (.bsl 0 1 [(.v (.int .i64 0))] 2 [(0,(t_ 9)),(1,(t_ 14))]),
 o_ 16 (Ca 83 15),
 m_ 4 16] [[],[0],[],[2],[1,3],[],[5],[],[7],[6,8,4],[4,9],[10,9],[11,11,0,1,2,3,4,5,6,7,8,9,10,11]])
 .ret))
def ir2041:AF:=⟨17,[(.tmp 4)],b2041⟩
theorem c2041:C_ f41 ir2041:=(by kernel_rfl:_=_)
def b2043:AC:=(S_ (R_ 1 [
 o_ 5 (Bx 0 0)])
 (S_ (Z_ [
 o_ 8 (Lf 1 1),
 o_ 9 (Ld 2 5),
 o_ 10 (Cb 17 8 9),
 o_ 11 (Ll 10),
 o_ 12 (Mi 0)])
 (B_ 0 (W_ (S_ (Z_ [
 o_ 13 (Bt .lss 12 11)])
 (S_ (K_ 13 .skip (.exit 0))
 (S_ (B_ 1 (S_ (R_ 1 [
 o_ 14 (Ia 2 10 12),
 o_ 15 (Ld 2 14),
 o_ 7 (.zero 0 [(.v (.string ⟨#[]⟩)),(.v (.int .i64 0))]),
 s_ (Sr 2 7 15)])
 (S_ (Z_ [
 o_ 16 (Lf 1 2),
 o_ 17 (Ld 2 7),
 o_ 18 (.look ⟨true,[.s,(.i .i64)]⟩ (.c (.v (.bool false))) (t_ 16) (t_ 17) false),
 o_ 19 (Nt 18)])
 (K_ 19 (S_ (Z_ [
 o_ 20 (Lf 1 2),
 o_ 21 (Ld 2 7),
 s_ (.mapup ⟨true,[.s,(.i .i64)]⟩ (t_ 20) (t_ 21) (.const (.bool true)))])
 (S_ (R_ 2 [
 o_ 22 (Lf 1 3),
 o_ 23 (Ld 2 7),
 o_ 24 (.bsl 0 2 [(.v (.string ⟨#[]⟩)),(.v (.int .i64 0))] 1 [(0,(t_ 23))]),
 o_ 25 (Ap 1 2 24 22 24),
 s_ (Sr 1 3 25)])
 (Z_ [
 o_ 26 (Lf 1 4),
 o_ 27 (Ld 2 7),
 o_ 28 (.callv (t_ 26) [(t_ 27)])]))) .skip))))
 (Z_ [
 o_ 29 (Bi .add 12 1),
 m_ 12 29]))))))))
def ir2043:AF:=⟨30,[],b2043⟩
theorem c2043:C_ f43 ir2043:=(by kernel_rfl:_=_)
def b2044:AC:=(S_ (R_ 1 [
 o_ 3 (Bx 0 1),
 o_ 4 (Mn)])
 (S_ (Z_ [
 o_ 5 (Mn)])
 (S_ (S_ (Z_ [
 m_ 8 0,
 o_ 9 (Ll 8),
 o_ 10 (Mi 0)])
 (B_ 0 (W_ (S_ (Z_ [
 o_ 11 (Bt .lss 10 9)])
 (S_ (K_ 11 .skip (.exit 0))
 (S_ (B_ 1 (S_ (R_ 1 [
 o_ 12 (Ia 8 8 10),
 o_ 13 (Ld 8 12),
 o_ 7 (.zero 0 [(.v (.string ⟨#[]⟩)),(.v (.int .i64 0)),(.v (.string ⟨#[]⟩)),(.v (.int .i64 0)),(.v (.bool false)),(.v (.string ⟨#[]⟩)),(.v (.string ⟨#[]⟩)),(.v (.string ⟨#[]⟩))]),
 s_ (Sr 8 7 13)])
 (S_ (Z_ [
 o_ 14 (Fa 2 7),
 o_ 15 (Ld 2 14),
 o_ 16 (Ld 2 3),
 o_ 17 (.eqA false [.s,(.i .i64)] (t_ 15) (t_ 16))])
 (K_ 17 (R_ 2 [
 m_ 18 5,
 o_ 19 (Ld 8 7),
 o_ 20 (.bsl 0 8 [(.v (.string ⟨#[]⟩)),(.v (.int .i64 0)),(.v (.string ⟨#[]⟩)),(.v (.int .i64 0)),(.v (.bool false)),(.v (.string ⟨#[]⟩)),(.v (.string ⟨#[]⟩)),(.v (.string ⟨#[]⟩))] 1 [(0,(t_ 19))]),
 o_ 21 (Ap 1 8 104 18 20),
 m_ 5 21]) .skip))))
 (Z_ [
 o_ 22 (Bi .add 10 1),
 m_ 10 22])))))))
 (S_ (Z_ [
 m_ 23 5,
 o_ 24 (.call 86 [(t_ 23),(.func 87)])])
 (S_ (Z_ [
 m_ 25 5,
 m_ 4 25])
 .ret)))))
def ir2044:AF:=⟨26,[(.tmp 4)],b2044⟩
theorem c2044:C_ f44 ir2044:=(by kernel_rfl:_=_)
def b526:AC:=(S_ (Z_ [
 o_ 2 (Mb false)])
 (S_ (S_ (Z_ [
 o_ 3 (Mi 0)])
 (B_ 0 (W_ (S_ (S_ (Z_ [
 m_ 5 3,
 m_ 6 0,
 o_ 7 (Ls 6),
 o_ 8 (Bt .lss 5 7)])
 (K_ 8 .skip (.exit 0)))
 (S_ (B_ 1 (S_ (Z_ [
 m_ 11 0,
 m_ 12 3,
 o_ 13 (Ix 11 12),
 o_ 14 (.binI .geq .u8 (t_ 13) (.const (.int .u8 97))),
 m_ 15 14,
 g_ 16 (Mv 0) 15 true,
 g_ 17 (Mv 3) 15 true,
 g_ 18 (Ix 16 17) 15 true,
 g_ 19 (.binI .leq .u8 (t_ 18) (.const (.int .u8 122))) 15 true,
 o_ 20 (Pf 15 19),
 m_ 4 20])
 (S_ (Z_ [
 m_ 21 4,
 o_ 22 (Nt 21),
 m_ 23 22,
 g_ 24 (Mv 3) 23 true,
 g_ 25 (Bi .eql 24 0) 23 true,
 g_ 26 (Mv 25) 23 true,
 g_ 27 (Mv 0) 26 false,
 g_ 28 (Mv 3) 26 false,
 g_ 29 (Ix 27 28) 26 false,
 g_ 30 (.binI .lss .u8 (t_ 29) (.const (.int .u8 48))) 26 false,
 g_ 31 (Pt 26 30) 23 true,
 g_ 32 (Mv 31) 23 true,
 g_ 33 (Mv 0) 32 false,
 g_ 34 (Mv 3) 32 false,
 g_ 35 (Ix 33 34) 32 false,
 g_ 36 (.binI .gtr .u8 (t_ 35) (.const (.int .u8 57))) 32 false,
 g_ 37 (Pt 32 36) 23 true,
 o_ 38 (Pf 23 37)])
 (K_ 38 (S_ (Z_ [
 o_ 2 (Mb false)])
 .ret) .skip))))
 (Z_ [
 m_ 9 3,
 o_ 10 (Bi .add 9 1),
 m_ 3 10]))))))
 (S_ (Z_ [
 m_ 39 0,
 o_ 40 (Ls 39),
 o_ 41 (Bi .gtr 40 0),
 m_ 42 41,
 g_ 43 (Mv 0) 42 true,
 g_ 44 (Ls 43) 42 true,
 g_ 45 (Bi .leq 44 24) 42 true,
 o_ 46 (Pf 42 45),
 m_ 2 46])
 .ret)))
def ir526:AF:=⟨47,[(.tmp 2)],b526⟩
theorem c526:C_ f46 ir526:=(by kernel_rfl:_=_)
def b2047:AC:=(S_ (R_ 2 [
 o_ 2 (Bx 0 0),
 o_ 3 (Bx 1 1),
 o_ 4 (Mb false)])
 (S_ (S_ (Z_ [
 o_ 5 (Fa 0 2),
 o_ 6 (Lf 1 5),
 o_ 7 (Fa 0 3),
 o_ 8 (Lf 1 7),
 o_ 9 (.binS .neq (t_ 6) (t_ 8))])
 (K_ 9 (S_ (Z_ [
 o_ 10 (Fa 0 2),
 o_ 11 (Lf 1 10),
 o_ 12 (Fa 0 3),
 o_ 13 (Lf 1 12),
 o_ 14 (.binS .lss (t_ 11) (t_ 13)),
 m_ 4 14])
 .ret) .skip))
 (S_ (Z_ [
 o_ 15 (Fa 1 2),
 o_ 16 (Lf 1 15),
 o_ 17 (Fa 1 3),
 o_ 18 (Lf 1 17),
 o_ 19 (Bt .lss 16 18),
 m_ 4 19])
 .ret)))
def ir2047:AF:=⟨20,[(.tmp 4)],b2047⟩
theorem c2047:C_ f47 ir2047:=(by kernel_rfl:_=_)
def b2048:AC:=(S_ (R_ 2 [
 o_ 4 (Bx 0 1),
 o_ 5 (Bx 1 2),
 o_ 6 (Mb false)])
 (S_ (S_ (Z_ [
 o_ 7 (Mi 0)])
 (B_ 0 (W_ (S_ (S_ (Z_ [
 m_ 9 7,
 m_ 10 0,
 o_ 11 (Ll 10),
 o_ 12 (Bt .leq 9 11)])
 (K_ 12 .skip (.exit 0)))
 (S_ (B_ 1 (S_ (S_ (Z_ [
 o_ 15 (Ld 2 4),
 o_ 16 (Ld 2 5),
 o_ 17 (.eqA false [.s,(.i .i64)] (t_ 15) (t_ 16))])
 (K_ 17 (S_ (Z_ [
 o_ 6 (Mb true)])
 .ret) .skip))
 (S_ (Z_ [
 m_ 18 0,
 o_ 19 (Ld 2 4),
 o_ 20 (Cb 20 18 19),
 m_ 8 20])
 (S_ (S_ (Z_ [
 m_ 21 8,
 o_ 22 (Bi .lss 21 0)])
 (K_ 22 (S_ (Z_ [
 o_ 6 (Mb false)])
 .ret) .skip))
 (Z_ [
 m_ 23 0,
 m_ 24 8,
 o_ 25 (Ia 8 23 24),
 o_ 26 (Fa 2 25),
 o_ 27 (Ld 2 26),
 s_ (Sr 2 4 27)])))))
 (Z_ [
 m_ 13 7,
 o_ 14 (Bi .add 13 1),
 m_ 7 14]))))))
 (S_ (Z_ [
 o_ 6 (Mb false)])
 .ret)))
def ir2048:AF:=⟨28,[(.tmp 6)],b2048⟩
theorem c2048:C_ f48 ir2048:=(by kernel_rfl:_=_)
def b2049:AC:=(S_ (R_ 1 [
 o_ 0 (.zero 0 [(.v (.string ⟨#[]⟩)),(.v (.int .i64 0))])])
 (S_ (Z_ [
 o_ 1 (.build [(.v (.string ⟨#[]⟩)),(.v (.int .i64 0))] [(0,(1,(.const (.string ⟨#[45]⟩))))]),
 s_ (Sr 2 0 1)])
 .ret))
def ir2049:AF:=⟨2,[(.cell 0 true 2)],b2049⟩
theorem c2049:C_ f49 ir2049:=(by kernel_rfl:_=_)
def b1090:AC:=(S_ (R_ 2 [
 o_ 1 (Bx 0 0),
 o_ 2 (.zero 1 [(.v (.bool false)),(.v (.string ⟨#[]⟩)),(.v (.string ⟨#[]⟩))])])
 (S_ (.dregion 1 [
 o_ 6 (Ld 3 1),
 o_ 7 (Ca 90 6),
 o_ 8 (Ld 3 1),
 o_ 9 (Ca 91 8),
 o_ 10 (Cb 89 7 9),
 m_ 5 10,
 o_ 11 (Xt 5 0),
 o_ 12 (Xt 5 1),
 o_ 3 (.zero 0 [(.v (.bool false)),(.v (.string ⟨#[]⟩)),(.v (.string ⟨#[]⟩))]),
 s_ (Sr 3 3 11),
 m_ 4 12] [[],[0],[],[2,1],[1,3,3],[4],[5],[5],[],[8,6,4,0,1,2,3,4,5,6,8],[7,9,0,1,2,3,4,5,6,7,8,9]])
 (S_ (Z_ [
 o_ 13 (Ld 3 3),
 s_ (Sr 3 2 13)])
 .ret)))
def ir1090:AF:=⟨14,[(.cell 2 true 3)],b1090⟩
theorem c1090:C_ f50 ir1090:=(by kernel_rfl:_=_)
def b2051:AC:=(S_ (R_ 3 [
 o_ 2 (Bx 0 0),
 o_ 3 (Bx 1 1),
 o_ 4 (.zero 2 [(.v (.bool false)),(.v (.string ⟨#[]⟩)),(.v (.string ⟨#[]⟩))])])
 (S_ (.dregion 0 [
 o_ 5 (Ld 3 2),
 o_ 6 (Ld 3 3),
 o_ 7 (Ca 30 6),
 o_ 8 (Cb 53 5 7),
 s_ (Sr 3 4 8)] [[],[],[1],[0,2,2],[3,3,0,1,2,3]])
 .ret))
def ir2051:AF:=⟨9,[(.cell 4 true 3)],b2051⟩
theorem c2051:C_ f51 ir2051:=(by kernel_rfl:_=_)
def b2052:AC:=(S_ (R_ 1 [
 o_ 0 (.zero 0 [(.v (.bool false)),(.v (.string ⟨#[]⟩)),(.v (.string ⟨#[]⟩))])])
 (S_ (Z_ [
 o_ 1 (.call 28 [(.const (.int .i64 1))]),
 s_ (Sr 3 0 1)])
 .ret))
def ir2052:AF:=⟨2,[(.cell 0 true 3)],b2052⟩
theorem c2052:C_ f52 ir2052:=(by kernel_rfl:_=_)
def b2053:AC:=(S_ (R_ 3 [
 o_ 2 (Bx 0 0),
 o_ 3 (Bx 1 1),
 o_ 4 (.zero 2 [(.v (.bool false)),(.v (.string ⟨#[]⟩)),(.v (.string ⟨#[]⟩))])])
 (S_ (R_ 2 [
 o_ 10 (Ld 3 2),
 o_ 11 (Ca 61 10),
 m_ 9 11,
 o_ 12 (Xt 9 0),
 o_ 13 (Xt 9 1),
 o_ 5 (.zero 0 [(.v (.bool false)),(.v (.string ⟨#[]⟩))]),
 o_ 6 (.zero 1 [(.v (.bool false)),(.v (.string ⟨#[]⟩))]),
 s_ (Sr 2 5 12),
 s_ (Sr 2 6 13)])
 (S_ (R_ 2 [
 o_ 15 (Ld 3 3),
 o_ 16 (Ca 61 15),
 m_ 14 16,
 o_ 17 (Xt 14 0),
 o_ 18 (Xt 14 1),
 o_ 7 (.zero 0 [(.v (.bool false)),(.v (.string ⟨#[]⟩))]),
 o_ 8 (.zero 1 [(.v (.bool false)),(.v (.string ⟨#[]⟩))]),
 s_ (Sr 2 7 17),
 s_ (Sr 2 8 18)])
 (S_ (.dregion 0 [
 o_ 19 (Ld 2 5),
 o_ 20 (Ld 2 8),
 o_ 21 (Cb 63 19 20),
 o_ 22 (Ld 2 7),
 o_ 23 (Ld 2 6),
 o_ 24 (Cb 63 22 23),
 o_ 25 (Cb 31 21 24),
 o_ 26 (Ld 2 6),
 o_ 27 (Ld 2 8),
 o_ 28 (Cb 63 26 27),
 o_ 29 (Cb 64 25 28),
 s_ (Sr 3 4 29)] [[],[],[0,1],[],[],[3,4,2],[2,5,5],[],[],[7,8,6],[6,9,9],[10,10,0,1,2,3,4,5,6,7,8,9,10]])
 .ret))))
def ir2053:AF:=⟨30,[(.cell 4 true 3)],b2053⟩
theorem c2053:C_ f53 ir2053:=(by kernel_rfl:_=_)
def b1093:AC:=(S_ (R_ 2 [
 o_ 1 (Bx 0 0),
 o_ 2 (.zero 1 [(.v (.bool false)),(.v (.string ⟨#[]⟩)),(.v (.string ⟨#[]⟩))])])
 (S_ (Z_ [
 o_ 3 (Ld 3 1),
 o_ 4 (Ca 61 3),
 o_ 5 (Xt 4 0),
 o_ 6 (Xt 4 1),
 o_ 7 (Cb 64 5 6),
 s_ (Sr 3 2 7)])
 .ret))
def ir1093:AF:=⟨8,[(.cell 2 true 3)],b1093⟩
theorem c1093:C_ f54 ir1093:=(by kernel_rfl:_=_)
def b2055:AC:=(S_ (R_ 3 [
 o_ 2 (Bx 0 0),
 o_ 3 (Bx 1 1),
 o_ 4 (.zero 2 [(.v (.bool false)),(.v (.string ⟨#[]⟩)),(.v (.string ⟨#[]⟩))])])
 (S_ (B_ 0 (S_ (Z_ [
 o_ 6 (Ld 3 2),
 o_ 7 (Ca 29 6),
 o_ 8 (Bi .lss 7 0),
 m_ 9 8,
 g_ 10 (Ld 3 3) 9 true,
 g_ 11 (Ca 29 10) 9 true,
 g_ 12 (Bi .gtr 11 0) 9 true,
 o_ 13 (Pf 9 12),
 m_ 5 13])
 (K_ 5 (S_ (Z_ [
 o_ 14 (.build [(.v (.bool false)),(.v (.string ⟨#[]⟩)),(.v (.string ⟨#[]⟩))] []),
 s_ (Sr 3 4 14)])
 .ret) (S_ (Z_ [
 o_ 16 (Ld 3 3),
 o_ 17 (Ca 29 16),
 o_ 18 (Bi .leq 17 0),
 m_ 15 18])
 (K_ 15 (S_ (.dregion 0 [
 o_ 19 (Ld 3 3),
 o_ 20 (Ca 30 19),
 o_ 21 (Ld 3 2),
 o_ 22 (Ca 30 21),
 o_ 23 (.call 92 [(t_ 20),(t_ 22),(.const (.bool true))]),
 o_ 24 (Ca 30 23),
 s_ (Sr 3 4 24)] [[],[0],[],[2,1],[1,3,3],[4,4],[5,5,0,1,2,3,4,5]])
 .ret) .skip)))))
 (S_ (Z_ [
 o_ 25 (Ld 3 2),
 o_ 26 (Ld 3 3),
 o_ 27 (.call 92 [(t_ 25),(t_ 26),(.const (.bool true))]),
 s_ (Sr 3 4 27)])
 .ret)))
def ir2055:AF:=⟨28,[(.cell 4 true 3)],b2055⟩
theorem c2055:C_ f55 ir2055:=(by kernel_rfl:_=_)
def b2056:AC:=(S_ (R_ 1 [
 o_ 2 (.zero 0 [(.v (.bool false)),(.v (.string ⟨#[]⟩)),(.v (.string ⟨#[]⟩))])])
 (S_ (R_ 1 [
 m_ 6 0,
 o_ 7 (Ca 93 6),
 o_ 8 (Cz 94),
 o_ 9 (Cb 89 7 8),
 m_ 5 9,
 o_ 10 (Xt 5 0),
 o_ 11 (Xt 5 1),
 o_ 3 (.zero 0 [(.v (.bool false)),(.v (.string ⟨#[]⟩)),(.v (.string ⟨#[]⟩))]),
 s_ (Sr 3 3 10),
 m_ 4 11])
 (S_ (Z_ [
 o_ 12 (Ld 3 3),
 s_ (Sr 3 2 12)])
 .ret)))
def ir2056:AF:=⟨13,[(.cell 2 true 3)],b2056⟩
theorem c2056:C_ f56 ir2056:=(by kernel_rfl:_=_)
def b2057:AC:=(S_ (R_ 3 [
 o_ 2 (Bx 0 0),
 o_ 3 (Bx 1 1),
 o_ 4 (.zero 2 [(.v (.bool false)),(.v (.string ⟨#[]⟩)),(.v (.string ⟨#[]⟩))])])
 (S_ (.dregion 0 [
 o_ 5 (Ld 3 2),
 o_ 6 (Ld 3 3),
 o_ 7 (Ca 95 6),
 o_ 8 (Cb 58 5 7),
 s_ (Sr 3 4 8)] [[],[],[1],[0,2,2],[3,3,0,1,2,3]])
 .ret))
def ir2057:AF:=⟨9,[(.cell 4 true 3)],b2057⟩
theorem c2057:C_ f57 ir2057:=(by kernel_rfl:_=_)
def b2058:AC:=(S_ (R_ 3 [
 o_ 2 (Bx 0 0),
 o_ 3 (Bx 1 1),
 o_ 4 (.zero 2 [(.v (.bool false)),(.v (.string ⟨#[]⟩)),(.v (.string ⟨#[]⟩))])])
 (S_ (.dregion 1 [
 o_ 8 (Ld 3 2),
 o_ 9 (Ca 90 8),
 o_ 10 (Ld 3 3),
 o_ 11 (Ca 91 10),
 o_ 12 (Cb 97 9 11),
 o_ 13 (Ld 3 3),
 o_ 14 (Ca 90 13),
 o_ 15 (Ld 3 2),
 o_ 16 (Ca 91 15),
 o_ 17 (Cb 97 14 16),
 o_ 18 (Cb 96 12 17),
 o_ 19 (Ld 3 2),
 o_ 20 (Ca 91 19),
 o_ 21 (Ld 3 3),
 o_ 22 (Ca 91 21),
 o_ 23 (Cb 97 20 22),
 o_ 24 (Cb 89 18 23),
 m_ 7 24,
 o_ 25 (Xt 7 0),
 o_ 26 (Xt 7 1),
 o_ 5 (.zero 0 [(.v (.bool false)),(.v (.string ⟨#[]⟩)),(.v (.string ⟨#[]⟩))]),
 s_ (Sr 3 5 25),
 m_ 6 26] [[],[0],[],[2,1],[1,3,3],[],[5,4],[],[7,6],[6,8,8],[4,9,9],[],[11,10],[],[13,12],[12,14,14],[10,15,15],[16],[17],[17],[],[20,18,16,0,1,2,3,4,5,6,7,8,9,10,11,12,13,14,15,16,17,18,20],[19,21,0,1,2,3,4,5,6,7,8,9,10,11,12,13,14,15,16,17,18,19,20,21]])
 (S_ (Z_ [
 o_ 27 (Ld 3 5),
 s_ (Sr 3 4 27)])
 .ret)))
def ir2058:AF:=⟨28,[(.cell 4 true 3)],b2058⟩
theorem c2058:C_ f58 ir2058:=(by kernel_rfl:_=_)
def b2059:AC:=(S_ (R_ 2 [
 o_ 2 (Bx 0 0),
 o_ 3 (Bx 1 1),
 o_ 4 (Mi 0)])
 (S_ (Z_ [
 o_ 5 (Ld 3 2),
 o_ 6 (Ld 3 3),
 o_ 7 (Cb 57 5 6),
 o_ 8 (Ca 98 7),
 m_ 4 8])
 .ret))
def ir2059:AF:=⟨9,[(.tmp 4)],b2059⟩
theorem c2059:C_ f59 ir2059:=(by kernel_rfl:_=_)
def b2060_0:AC:=(R_ 3 [
 o_ 2 (Bx 0 0),
 o_ 3 (Bx 1 1),
 o_ 4 (.zero 2 [(.v (.bool false)),(.v (.string ⟨#[]⟩)),(.v (.string ⟨#[]⟩))])])
def b2060_1:AC:=(S_ (Z_ [
 o_ 17 (Ld 3 2),
 o_ 18 (Ca 98 17),
 o_ 19 (Bi .lss 18 0),
 m_ 20 19,
 g_ 21 (Ld 3 3) 20 true,
 g_ 22 (Ca 98 21) 20 true,
 g_ 23 (Bi .gtr 22 0) 20 true,
 o_ 24 (Pf 20 23)])
 (K_ 24 (S_ (Z_ [
 o_ 25 (.call 56 [(.const (.int .i64 0))]),
 s_ (Sr 3 4 25)])
 .ret) .skip))
def b2060_2:AC:=(S_ (Z_ [
 o_ 26 (Ld 3 3),
 o_ 27 (Ca 98 26),
 o_ 28 (Bi .leq 27 0)])
 (K_ 28 (S_ (.dregion 0 [
 o_ 29 (Ld 3 3),
 o_ 30 (Ca 95 29),
 o_ 31 (Ld 3 2),
 o_ 32 (Ca 95 31),
 o_ 33 (Cb 60 30 32),
 o_ 34 (Ca 95 33),
 s_ (Sr 3 4 34)] [[],[0],[],[2,1],[1,3,3],[4,4],[5,5,0,1,2,3,4,5]])
 .ret) .skip))
def b2060_3:AC:=(R_ 1 [
 o_ 36 (Ld 3 2),
 o_ 37 (Ca 99 36),
 o_ 38 (.build [(.v (.bool false)),(.v (.string ⟨#[]⟩))] [(1,(1,(.const (.string ⟨#[1]⟩))))]),
 o_ 39 (Cb 89 37 38),
 m_ 35 39,
 o_ 40 (Xt 35 0),
 o_ 41 (Xt 35 1),
 o_ 5 (.zero 0 [(.v (.bool false)),(.v (.string ⟨#[]⟩)),(.v (.string ⟨#[]⟩))]),
 s_ (Sr 3 5 40),
 m_ 6 41])
def b2060_4:AC:=(.dregion 1 [
 o_ 42 (Ld 3 5),
 o_ 43 (.call 56 [(.const (.int .i64 1))]),
 o_ 44 (Cb 58 42 43),
 o_ 7 (.zero 0 [(.v (.bool false)),(.v (.string ⟨#[]⟩)),(.v (.string ⟨#[]⟩))]),
 s_ (Sr 3 7 44)] [[],[],[0,1,1],[],[3,2,2,0,1,2,3]])
def b2060_5:AC:=(S_ (Z_ [
 o_ 45 (Ld 3 7),
 o_ 46 (Ld 3 3),
 o_ 47 (Cb 59 45 46),
 o_ 48 (Bi .lss 47 0)])
 (K_ 48 (S_ (Z_ [
 o_ 49 (Ld 3 7),
 s_ (Sr 3 4 49)])
 .ret) .skip))
def b2060_6:AC:=(.dregion 1 [
 o_ 51 (.call 56 [(.const (.int .i64 1))]),
 o_ 52 (Ld 3 3),
 o_ 53 (Ld 3 5),
 o_ 54 (Cb 57 52 53),
 o_ 55 (Cb 100 51 54),
 m_ 50 55,
 o_ 56 (Xt 50 0),
 o_ 57 (Xt 50 1),
 o_ 8 (.zero 0 [(.v (.bool false)),(.v (.string ⟨#[]⟩)),(.v (.string ⟨#[]⟩))]),
 s_ (Sr 3 8 56),
 m_ 9 57] [[],[],[],[1,2,0],[0,3,3],[4],[5],[5],[],[8,6,4,0,1,2,3,4,5,6,8],[7,9,0,1,2,3,4,5,6,7,8,9]])
def b2060_7:AC:=(.dregion 1 [
 o_ 59 (.call 56 [(.const (.int .i64 1))]),
 o_ 60 (Ld 3 2),
 o_ 61 (Ld 3 5),
 o_ 62 (Cb 57 60 61),
 o_ 63 (Cb 100 59 62),
 m_ 58 63,
 o_ 64 (Xt 58 0),
 o_ 65 (Xt 58 1),
 o_ 10 (.zero 0 [(.v (.bool false)),(.v (.string ⟨#[]⟩)),(.v (.string ⟨#[]⟩))]),
 s_ (Sr 3 10 64),
 m_ 11 65] [[],[],[],[1,2,0],[0,3,3],[4],[5],[5],[],[8,6,4,0,1,2,3,4,5,6,8],[7,9,0,1,2,3,4,5,6,7,8,9]])
def b2060_8:AC:=(R_ 1 [
 o_ 66 (.build [(.v (.bool false)),(.v (.string ⟨#[]⟩)),(.v (.string ⟨#[]⟩))] []),
 o_ 12 (.zero 0 [(.v (.bool false)),(.v (.string ⟨#[]⟩)),(.v (.string ⟨#[]⟩))]),
 s_ (Sr 3 12 66)])
def b2060_9:AC:=(S_ (Z_ [
 m_ 67 11])
 (K_ 67 (Z_ [
 o_ 68 (Ld 3 8),
 o_ 69 (Ld 3 10),
 o_ 70 (Cb 60 68 69),
 s_ (Sr 3 12 70)]) (S_ (R_ 1 [
 o_ 72 (Ld 3 8),
 o_ 73 (Ca 99 72),
 o_ 74 (.build [(.v (.bool false)),(.v (.string ⟨#[]⟩))] [(1,(1,(.const (.string ⟨#[1]⟩))))]),
 o_ 75 (Cb 89 73 74),
 m_ 71 75,
 o_ 76 (Xt 71 0),
 o_ 77 (Xt 71 1),
 o_ 13 (.zero 0 [(.v (.bool false)),(.v (.string ⟨#[]⟩)),(.v (.string ⟨#[]⟩))]),
 s_ (Sr 3 13 76),
 m_ 14 77])
 (.dregion 0 [
 o_ 78 (Ld 3 13),
 o_ 79 (.call 56 [(.const (.int .i64 1))]),
 o_ 80 (Cb 58 78 79),
 s_ (Sr 3 12 80)] [[],[],[0,1,1],[2,2,0,1,2]]))))
def b2060_10:AC:=(.dregion 1 [
 o_ 82 (.call 56 [(.const (.int .i64 1))]),
 o_ 83 (Ld 3 12),
 o_ 84 (Cb 100 82 83),
 m_ 81 84,
 o_ 85 (Xt 81 0),
 o_ 86 (Xt 81 1),
 o_ 15 (.zero 0 [(.v (.bool false)),(.v (.string ⟨#[]⟩)),(.v (.string ⟨#[]⟩))]),
 s_ (Sr 3 15 85),
 m_ 16 86] [[],[],[0,1,0],[2],[3],[3],[],[6,4,2,0,1,2,3,4,6],[5,7,0,1,2,3,4,5,6,7]])
def b2060_11:AC:=(Z_ [
 o_ 87 (Ld 3 5),
 o_ 88 (Ld 3 15),
 o_ 89 (Cb 58 87 88),
 s_ (Sr 3 4 89)])
def b2060_12:AC:=.ret
def b2060:AC:=(S_ b2060_0 (S_ b2060_1 (S_ b2060_2 (S_ b2060_3 (S_ b2060_4 (S_ b2060_5 (S_ b2060_6 (S_ b2060_7 (S_ b2060_8 (S_ b2060_9 (S_ b2060_10 (S_ b2060_11 b2060_12))))))))))))
def ir2060:AF:=⟨90,[(.cell 4 true 3)],b2060⟩
theorem c2060:C_ f60 ir2060:=(by kernel_rfl:_=_)
def b1104:AC:=(S_ (R_ 3 [
 o_ 1 (Bx 0 0),
 o_ 2 (.zero 1 [(.v (.bool false)),(.v (.string ⟨#[]⟩))]),
 o_ 3 (.zero 2 [(.v (.bool false)),(.v (.string ⟨#[]⟩))])])
 (S_ (R_ 1 [
 o_ 5 (Fa 2 1),
 o_ 6 (Lf 1 5),
 o_ 7 (Ca 101 6),
 o_ 8 (.build [(.v (.bool false)),(.v (.string ⟨#[]⟩))] [(1,(1,(t_ 7)))]),
 o_ 4 (.zero 0 [(.v (.bool false)),(.v (.string ⟨#[]⟩))]),
 s_ (Sr 2 4 8)])
 (S_ (S_ (Z_ [
 o_ 9 (Fa 1 4),
 o_ 10 (Lf 1 9),
 o_ 11 (.binS .eql (t_ 10) (.const (.string ⟨#[]⟩)))])
 (K_ 11 (Z_ [
 o_ 12 (.call 34 [(.const (.int .i64 1))]),
 s_ (Sr 2 4 12)]) .skip))
 (S_ (.dregion 0 [
 o_ 13 (Fa 0 1),
 o_ 14 (Lf 1 13),
 o_ 15 (Fa 1 1),
 o_ 16 (Lf 1 15),
 o_ 17 (.build [(.v (.bool false)),(.v (.string ⟨#[]⟩))] [(0,(1,(t_ 14))),(1,(1,(t_ 16)))]),
 o_ 18 (Ca 67 17),
 o_ 19 (Ld 2 4),
 s_ (Sr 2 2 18),
 s_ (Sr 2 3 19)] [[],[0],[],[2],[1,3],[4],[],[5,5,0,1,2,3,4,5],[6,7,0,1,2,3,4,5,6,7]])
 .ret))))
def ir1104:AF:=⟨20,[(.cell 2 true 2),(.cell 3 true 2)],b1104⟩
theorem c1104:C_ f61 ir1104:=(by kernel_rfl:_=_)
def b2062:AC:=(S_ (R_ 2 [
 o_ 2 (Bx 0 0),
 o_ 3 (Bx 1 1),
 o_ 4 (Mi 0)])
 (S_ (Z_ [
 o_ 5 (Ld 2 2),
 o_ 6 (Ld 2 3),
 o_ 7 (Cb 102 5 6),
 o_ 8 (Ca 65 7),
 m_ 4 8])
 .ret))
def ir2062:AF:=⟨9,[(.tmp 4)],b2062⟩
theorem c2062:C_ f62 ir2062:=(by kernel_rfl:_=_)
def b2063:AC:=(S_ (R_ 3 [
 o_ 2 (Bx 0 0),
 o_ 3 (Bx 1 1),
 o_ 4 (.zero 2 [(.v (.bool false)),(.v (.string ⟨#[]⟩))])])
 (S_ (.dregion 0 [
 o_ 5 (Ld 2 2),
 o_ 6 (Ca 67 5),
 o_ 7 (Ld 2 3),
 o_ 8 (Ca 67 7),
 s_ (Sr 2 2 6),
 s_ (Sr 2 3 8)] [[],[0],[],[2,1],[1,3,0,1],[3,4,0,1,2,3,4]])
 (S_ (.dregion 0 [
 o_ 9 (Fa 0 2),
 o_ 10 (Lf 1 9),
 o_ 11 (Fa 0 3),
 o_ 12 (Lf 1 11),
 o_ 13 (.eqB true (t_ 10) (t_ 12)),
 o_ 14 (Fa 1 2),
 o_ 15 (Lf 1 14),
 o_ 16 (Fa 1 3),
 o_ 17 (Lf 1 16),
 o_ 18 (Cb 103 15 17),
 o_ 19 (Cb 68 13 18),
 s_ (Sr 2 4 19)] [[],[0],[],[2],[1,3],[],[5],[],[7],[6,8],[4,9,9],[10,10,0,1,2,3,4,5,6,7,8,9,10]])
 .ret)))
def ir2063:AF:=⟨20,[(.cell 4 true 2)],b2063⟩
theorem c2063:C_ f63 ir2063:=(by kernel_rfl:_=_)
def b1103:AC:=(S_ (R_ 3 [
 o_ 2 (Bx 0 0),
 o_ 3 (Bx 1 1),
 o_ 4 (.zero 2 [(.v (.bool false)),(.v (.string ⟨#[]⟩)),(.v (.string ⟨#[]⟩))])])
 (S_ (R_ 1 [
 o_ 8 (Ld 2 2),
 o_ 9 (Ld 2 3),
 o_ 10 (Cb 35 8 9),
 m_ 7 10,
 o_ 11 (Xt 7 0),
 o_ 12 (Xt 7 1),
 o_ 5 (.zero 0 [(.v (.bool false)),(.v (.string ⟨#[]⟩)),(.v (.string ⟨#[]⟩))]),
 s_ (Sr 3 5 11),
 m_ 6 12])
 (S_ (Z_ [
 o_ 13 (Ld 3 5),
 s_ (Sr 3 4 13)])
 .ret)))
def ir1103:AF:=⟨14,[(.cell 4 true 3)],b1103⟩
theorem c1103:C_ f64 ir1103:=(by kernel_rfl:_=_)
def b1136:AC:=(S_ (R_ 1 [
 o_ 1 (Bx 0 0),
 o_ 2 (Mi 0)])
 (S_ (S_ (Z_ [
 o_ 3 (Ld 2 1),
 o_ 4 (Ca 67 3),
 s_ (Sr 2 1 4)])
 (B_ 0 (S_ (Z_ [
 o_ 6 (Fa 0 1),
 o_ 7 (Lf 1 6),
 m_ 5 7])
 (K_ 5 (S_ (Z_ [
 o_ 2 (Mi (-1))])
 .ret) (S_ (Z_ [
 o_ 9 (Fa 1 1),
 o_ 10 (Lf 1 9),
 o_ 11 (.binS .neq (t_ 10) (.const (.string ⟨#[]⟩))),
 m_ 8 11])
 (K_ 8 (S_ (Z_ [
 o_ 2 (Mi 1)])
 .ret) .skip))))))
 (S_ (Z_ [
 o_ 2 (Mi 0)])
 .ret)))
def ir1136:AF:=⟨12,[(.tmp 2)],b1136⟩
theorem c1136:C_ f65 ir1136:=(by kernel_rfl:_=_)
def b2066:AC:=(S_ (R_ 2 [
 o_ 1 (Bx 0 0),
 o_ 2 (.zero 1 [(.v (.bool false)),(.v (.string ⟨#[]⟩))])])
 (S_ (Z_ [
 o_ 3 (Ld 2 1),
 o_ 4 (Ca 67 3),
 s_ (Sr 2 1 4)])
 (S_ (Z_ [
 o_ 5 (Fa 0 1),
 o_ 6 (Lf 1 5),
 o_ 7 (Nt 6),
 o_ 8 (Fa 1 1),
 o_ 9 (Lf 1 8),
 o_ 10 (Cb 68 7 9),
 s_ (Sr 2 2 10)])
 .ret)))
def ir2066:AF:=⟨11,[(.cell 2 true 2)],b2066⟩
theorem c2066:C_ f66 ir2066:=(by kernel_rfl:_=_)
def b1121:AC:=(S_ (R_ 2 [
 o_ 1 (Bx 0 0),
 o_ 2 (.zero 1 [(.v (.bool false)),(.v (.string ⟨#[]⟩))])])
 (S_ (.dregion 0 [
 o_ 3 (Fa 0 1),
 o_ 4 (Lf 1 3),
 o_ 5 (Fa 1 1),
 o_ 6 (Lf 1 5),
 o_ 7 (Ca 101 6),
 o_ 8 (Cb 68 4 7),
 s_ (Sr 2 2 8)] [[],[0],[],[2],[3],[1,4,4],[5,5,0,1,2,3,4,5]])
 .ret))
def ir1121:AF:=⟨9,[(.cell 2 true 2)],b1121⟩
theorem c1121:C_ f67 ir1121:=(by kernel_rfl:_=_)
def b1141:AC:=(S_ (R_ 1 [
 o_ 4 (.zero 0 [(.v (.bool false)),(.v (.string ⟨#[]⟩))])])
 (S_ (Z_ [
 m_ 5 0,
 m_ 6 5,
 g_ 7 (Mv 1) 6 true,
 g_ 8 (.binS .neq (t_ 7) (.const (.string ⟨#[]⟩))) 6 true,
 o_ 9 (Pf 6 8),
 m_ 10 1,
 o_ 11 (.build [(.v (.bool false)),(.v (.string ⟨#[]⟩))] [(0,(1,(t_ 9))),(1,(1,(t_ 10)))]),
 s_ (Sr 2 4 11)])
 .ret))
def ir1141:AF:=⟨12,[(.cell 4 true 2)],b1141⟩
theorem c1141:C_ f68 ir1141:=(by kernel_rfl:_=_)
def b2069:AC:=(S_ (Z_ [
 o_ 4 (Me)])
 (S_ (Z_ [
 m_ 11 0,
 o_ 12 (Ca 104 11),
 m_ 13 1,
 o_ 14 (Ca 104 13),
 m_ 5 12,
 m_ 6 14])
 (S_ (S_ (Z_ [
 m_ 15 5,
 o_ 16 (Ll 15),
 m_ 17 6,
 o_ 18 (Ll 17),
 o_ 19 (Bt .lss 16 18)])
 (K_ 19 (Z_ [
 m_ 20 6,
 m_ 21 5,
 m_ 5 20,
 m_ 6 21]) .skip))
 (S_ (R_ 1 [
 m_ 22 5,
 o_ 23 (Ll 22),
 o_ 24 (Bi .add 23 1),
 o_ 25 (.mksl 0 1 4 [(.v (.int .u32 0))] (t_ 24) (t_ 24)),
 m_ 7 25])
 (S_ (Z_ [
 o_ 8 (.mov (.const (.int .u32 0)))])
 (S_ (S_ (Z_ [
 m_ 26 5,
 o_ 27 (Ll 26),
 o_ 28 (Mi 0)])
 (B_ 0 (W_ (S_ (Z_ [
 o_ 29 (Bt .lss 28 27)])
 (S_ (K_ 29 .skip (.exit 0))
 (S_ (B_ 1 (S_ (Z_ [
 m_ 30 28,
 m_ 9 30])
 (S_ (Z_ [
 o_ 10 (.mov (.const (.int .u32 0)))])
 (S_ (S_ (Z_ [
 m_ 31 9,
 m_ 32 6,
 o_ 33 (Ll 32),
 o_ 34 (Bt .lss 31 33)])
 (K_ 34 (Z_ [
 m_ 35 6,
 m_ 36 9,
 o_ 37 (Ia 1 35 36),
 o_ 38 (Lf 1 37),
 m_ 10 38]) .skip))
 (Z_ [
 m_ 40 7,
 m_ 41 9,
 m_ 42 5,
 m_ 43 9,
 o_ 44 (Ia 1 42 43),
 o_ 45 (Lf 1 44),
 m_ 46 10,
 m_ 47 8,
 o_ 48 (Cc 105 45 46 47),
 m_ 39 48,
 o_ 49 (Xt 39 0),
 o_ 50 (Xt 39 1),
 o_ 51 (Ia 1 40 41),
 s_ (Sr 1 51 49),
 m_ 8 50])))))
 (Z_ [
 o_ 52 (Bi .add 28 1),
 m_ 28 52])))))))
 (S_ (Z_ [
 m_ 53 7,
 m_ 54 5,
 o_ 55 (Ll 54),
 m_ 56 8,
 o_ 57 (Ia 1 53 55),
 s_ (Sr 1 57 56)])
 (S_ (Z_ [
 m_ 58 7,
 o_ 59 (Ca 106 58),
 m_ 4 59])
 .ret))))))))
def ir2069:AF:=⟨60,[(.tmp 4)],b2069⟩
theorem c2069:C_ f69 ir2069:=(by kernel_rfl:_=_)
def b2070:AC:=(S_ (Z_ [
 o_ 4 (Me),
 o_ 5 (Mb false)])
 (S_ (S_ (Z_ [
 m_ 12 0,
 m_ 13 1,
 o_ 14 (Cb 107 12 13),
 o_ 15 (Bi .lss 14 0)])
 (K_ 15 (S_ (Z_ [
 o_ 4 (Me),
 o_ 5 (Mb false)])
 .ret) .skip))
 (S_ (Z_ [
 m_ 16 0,
 o_ 17 (Ca 104 16),
 m_ 18 1,
 o_ 19 (Ca 104 18),
 m_ 6 17,
 m_ 7 19])
 (S_ (R_ 1 [
 m_ 20 6,
 o_ 21 (Ll 20),
 o_ 22 (.mksl 0 1 4 [(.v (.int .u32 0))] (t_ 21) (t_ 21)),
 m_ 8 22])
 (S_ (Z_ [
 o_ 9 (.mov (.const (.int .u32 0)))])
 (S_ (S_ (Z_ [
 m_ 23 6,
 o_ 24 (Ll 23),
 o_ 25 (Mi 0)])
 (B_ 0 (W_ (S_ (Z_ [
 o_ 26 (Bt .lss 25 24)])
 (S_ (K_ 26 .skip (.exit 0))
 (S_ (B_ 1 (S_ (Z_ [
 m_ 27 25,
 m_ 10 27])
 (S_ (Z_ [
 o_ 11 (.mov (.const (.int .u32 0)))])
 (S_ (S_ (Z_ [
 m_ 28 10,
 m_ 29 7,
 o_ 30 (Ll 29),
 o_ 31 (Bt .lss 28 30)])
 (K_ 31 (Z_ [
 m_ 32 7,
 m_ 33 10,
 o_ 34 (Ia 1 32 33),
 o_ 35 (Lf 1 34),
 m_ 11 35]) .skip))
 (Z_ [
 m_ 37 8,
 m_ 38 10,
 m_ 39 6,
 m_ 40 10,
 o_ 41 (Ia 1 39 40),
 o_ 42 (Lf 1 41),
 m_ 43 11,
 m_ 44 9,
 o_ 45 (Cc 108 42 43 44),
 m_ 36 45,
 o_ 46 (Xt 36 0),
 o_ 47 (Xt 36 1),
 o_ 48 (Ia 1 37 38),
 s_ (Sr 1 48 46),
 m_ 9 47])))))
 (Z_ [
 o_ 49 (Bi .add 25 1),
 m_ 25 49])))))))
 (S_ (Z_ [
 m_ 50 8,
 o_ 51 (Ca 106 50),
 m_ 4 51,
 o_ 5 (Mb true)])
 .ret)))))))
def ir2070:AF:=⟨52,[(.tmp 4),(.tmp 5)],b2070⟩
theorem c2070:C_ f70 ir2070:=(by kernel_rfl:_=_)
def b2071:AC:=(S_ (R_ 4 [
 o_ 2 (Bx 0 0),
 o_ 3 (Bx 1 1),
 o_ 4 (.zero 2 [(.v (.bool false)),(.v (.string ⟨#[]⟩))]),
 o_ 5 (.zero 3 [(.v (.bool false)),(.v (.string ⟨#[]⟩))]),
 o_ 6 (Mb false)])
 (S_ (.dregion 0 [
 o_ 10 (Ld 2 2),
 o_ 11 (Ca 67 10),
 o_ 12 (Ld 2 3),
 o_ 13 (Ca 67 12),
 s_ (Sr 2 2 11),
 s_ (Sr 2 3 13)] [[],[0],[],[2,1],[1,3,0,1],[3,4,0,1,2,3,4]])
 (S_ (Z_ [
 o_ 15 (Fa 1 2),
 o_ 16 (Lf 1 15),
 o_ 17 (Fa 1 3),
 o_ 18 (Lf 1 17),
 o_ 19 (Cb 75 16 18),
 m_ 14 19,
 o_ 20 (Xt 14 0),
 o_ 21 (Xt 14 1),
 o_ 22 (Xt 14 2),
 m_ 7 20,
 m_ 8 21,
 m_ 9 22])
 (S_ (S_ (Z_ [
 m_ 23 9,
 o_ 24 (Nt 23)])
 (K_ 24 (S_ (Z_ [
 o_ 25 (.build [(.v (.bool false)),(.v (.string ⟨#[]⟩))] []),
 o_ 26 (.build [(.v (.bool false)),(.v (.string ⟨#[]⟩))] []),
 s_ (Sr 2 4 25),
 s_ (Sr 2 5 26),
 o_ 6 (Mb false)])
 .ret) .skip))
 (S_ (S_ (Z_ [
 o_ 27 (Fa 0 2),
 o_ 28 (Lf 1 27),
 m_ 29 28,
 g_ 30 (Mv 8) 29 true,
 g_ 31 (.binS .neq (t_ 30) (.const (.string ⟨#[]⟩))) 29 true,
 o_ 32 (Pf 29 31)])
 (K_ 32 (S_ (Z_ [
 m_ 33 7,
 o_ 34 (.call 72 [(.const (.int .u64 1))]),
 o_ 35 (Cb 69 33 34),
 m_ 7 35])
 (Z_ [
 o_ 37 (Fa 1 3),
 o_ 38 (Lf 1 37),
 o_ 39 (Ca 101 38),
 m_ 40 8,
 o_ 41 (Cb 70 39 40),
 m_ 36 41,
 o_ 42 (Xt 36 0),
 o_ 43 (Xt 36 1),
 m_ 8 42])) .skip))
 (S_ (Z_ [
 o_ 44 (Fa 0 2),
 o_ 45 (Lf 1 44),
 o_ 46 (Fa 0 3),
 o_ 47 (Lf 1 46),
 o_ 48 (.eqB true (t_ 45) (t_ 47)),
 m_ 49 7,
 o_ 50 (Cb 68 48 49),
 m_ 51 8,
 o_ 52 (.call 68 [(.const (.bool false)),(t_ 51)]),
 s_ (Sr 2 4 50),
 s_ (Sr 2 5 52),
 o_ 6 (Mb true)])
 .ret))))))
def ir2071:AF:=⟨53,[(.cell 4 true 2),(.cell 5 true 2),(.tmp 6)],b2071⟩
theorem c2071:C_ f71 ir2071:=(by kernel_rfl:_=_)
def b1142:AC:=(S_ (Z_ [
 o_ 2 (Me)])
 (S_ (R_ 1 [
 m_ 3 0,
 o_ 4 (Cq .u32 3),
 m_ 5 0,
 o_ 6 (.shf .shr .u64 (t_ 5) (.const (.int .u64 32))),
 o_ 7 (Cq .u32 6),
 o_ 8 (.bsl 0 1 [(.v (.int .u32 0))] 2 [(0,(t_ 4)),(1,(t_ 7))]),
 o_ 9 (Ca 106 8),
 m_ 2 9])
 .ret))
def ir1142:AF:=⟨10,[(.tmp 2)],b1142⟩
theorem c1142:C_ f72 ir1142:=(by kernel_rfl:_=_)
def b1137:AC:=(S_ (Z_ [
 o_ 4 (Me)])
 (S_ (B_ 0 (W_ (S_ (S_ (Z_ [
 m_ 12 1,
 o_ 13 (Ca 101 12),
 o_ 14 (.binS .neq (t_ 13) (.const (.string ⟨#[]⟩)))])
 (K_ 14 .skip (.exit 0)))
 (B_ 1 (S_ (Z_ [
 m_ 16 0,
 o_ 17 (Ca 109 16),
 m_ 15 17,
 o_ 18 (Xt 15 0),
 o_ 19 (Xt 15 1),
 m_ 5 18,
 m_ 6 19])
 (S_ (Z_ [
 m_ 21 1,
 o_ 22 (Ca 109 21),
 m_ 20 22,
 o_ 23 (Xt 20 0),
 o_ 24 (Xt 20 1),
 m_ 7 23,
 m_ 8 24])
 (S_ (S_ (Z_ [
 m_ 25 6,
 m_ 26 25,
 g_ 27 (Mv 8) 26 true,
 o_ 28 (Pf 26 27)])
 (K_ 28 (S_ (B_ 2 (W_ (S_ (S_ (Z_ [
 m_ 29 7,
 o_ 30 (.binI .neq .u64 (t_ 29) (.const (.int .u64 0)))])
 (K_ 30 .skip (.exit 2)))
 (B_ 3 (.dregion 0 [
 m_ 31 7,
 m_ 32 5,
 m_ 33 7,
 o_ 34 (.binI .rem .u64 (t_ 32) (t_ 33)),
 m_ 5 31,
 m_ 7 34] [[],[],[],[1,2],[0,0,1],[3,4,0,1,2,3,4]])))))
 (S_ (Z_ [
 m_ 35 5,
 o_ 36 (Ca 72 35),
 m_ 4 36])
 .ret)) .skip))
 (S_ (Z_ [
 m_ 38 0,
 m_ 39 1,
 o_ 40 (Cb 75 38 39),
 m_ 37 40,
 o_ 41 (Xt 37 0),
 o_ 42 (Xt 37 1),
 o_ 43 (Xt 37 2),
 m_ 9 41,
 m_ 10 42,
 m_ 11 43])
 (Z_ [
 m_ 44 1,
 m_ 45 10,
 m_ 0 44,
 m_ 1 45])))))))))
 (S_ (Z_ [
 m_ 46 0,
 o_ 47 (Ca 101 46),
 m_ 4 47])
 .ret)))
def ir1137:AF:=⟨48,[(.tmp 4)],b1137⟩
theorem c1137:C_ f73 ir1137:=(by kernel_rfl:_=_)
def b1138:AC:=(S_ (Z_ [
 o_ 3 (Me)])
 (S_ (Z_ [
 m_ 8 0,
 o_ 9 (Lf 1 1),
 o_ 10 (Cb 75 8 9),
 m_ 7 10,
 o_ 11 (Xt 7 0),
 o_ 12 (Xt 7 1),
 o_ 13 (Xt 7 2),
 m_ 4 11,
 m_ 5 12,
 m_ 6 13])
 (S_ (Z_ [
 m_ 14 4,
 m_ 3 14])
 .ret)))
def ir1138:AF:=⟨15,[(.tmp 3)],b1138⟩
theorem c1138:C_ f74 ir1138:=(by kernel_rfl:_=_)
def b1139:AC:=(S_ (Z_ [
 o_ 4 (Me),
 o_ 5 (Me),
 o_ 6 (Mb false)])
 (S_ (Z_ [
 m_ 12 1,
 o_ 13 (Ca 104 12),
 m_ 7 13])
 (S_ (B_ 0 (S_ (Z_ [
 m_ 15 7,
 o_ 16 (Ll 15),
 o_ 17 (Bi .eql 16 0),
 m_ 14 17])
 (K_ 14 (S_ (Z_ [
 o_ 4 (Me),
 o_ 5 (Me),
 o_ 6 (Mb false)])
 .ret) (S_ (Z_ [
 m_ 19 0,
 m_ 20 1,
 o_ 21 (Cb 107 19 20),
 o_ 22 (Bi .lss 21 0),
 m_ 18 22])
 (K_ 18 (S_ (Z_ [
 m_ 23 0,
 o_ 24 (Ca 101 23),
 o_ 4 (Me),
 m_ 5 24,
 o_ 6 (Mb true)])
 .ret) (S_ (Z_ [
 m_ 26 7,
 o_ 27 (Ll 26),
 o_ 28 (Bi .eql 27 1),
 m_ 25 28])
 (K_ 25 (S_ (.dregion 0 [
 m_ 30 0,
 o_ 31 (Ca 104 30),
 m_ 32 7,
 o_ 33 (.iaddr 1 (t_ 32) (.const (.int .i64 0))),
 o_ 34 (Lf 1 33),
 o_ 35 (Cb 110 31 34),
 m_ 29 35,
 o_ 36 (Xt 29 0),
 o_ 37 (Xt 29 1),
 m_ 8 36,
 m_ 9 37] [[],[0],[],[2],[3],[1,4,1],[5],[6],[6],[7,5,0,1,2,3,4,5,6,7],[8,9,0,1,2,3,4,5,6,7,8,9]])
 (S_ (Z_ [
 m_ 38 8,
 o_ 39 (Ca 106 38),
 m_ 40 9,
 o_ 41 (Cq .u64 40),
 o_ 42 (Ca 72 41),
 m_ 4 39,
 m_ 5 42,
 o_ 6 (Mb true)])
 .ret)) .skip)))))))
 (S_ (Z_ [
 m_ 44 0,
 o_ 45 (Ca 104 44),
 m_ 46 7,
 o_ 47 (Cb 111 45 46),
 m_ 43 47,
 o_ 48 (Xt 43 0),
 o_ 49 (Xt 43 1),
 m_ 10 48,
 m_ 11 49])
 (S_ (Z_ [
 m_ 50 10,
 o_ 51 (Ca 106 50),
 m_ 52 11,
 o_ 53 (Ca 106 52),
 m_ 4 51,
 m_ 5 53,
 o_ 6 (Mb true)])
 .ret)))))
def ir1139:AF:=⟨54,[(.tmp 4),(.tmp 5),(.tmp 6)],b1139⟩
theorem c1139:C_ f75 ir1139:=(by kernel_rfl:_=_)
def b2080:AC:=(S_ (R_ 1 [
 o_ 5 (Bx 0 0),
 o_ 6 (Mb false)])
 (S_ (S_ (Z_ [
 o_ 9 (Ld 2 5),
 o_ 10 (Ld 2 1),
 o_ 11 (.eqA false [.s,(.i .i64)] (t_ 9) (t_ 10))])
 (K_ 11 (S_ (Z_ [
 o_ 6 (Mb true)])
 .ret) .skip))
 (S_ (R_ 1 [
 o_ 13 (Lf 1 2),
 o_ 14 (Ld 2 5),
 o_ 15 (.look ⟨true,[.s,(.i .i64)]⟩ (.agg [(.v (.string ⟨#[]⟩)),(.v (.int .i64 0)),(.v (.string ⟨#[]⟩)),(.v (.int .i64 0)),(.v (.bool false)),(.v (.string ⟨#[]⟩)),(.v (.string ⟨#[]⟩)),(.v (.string ⟨#[]⟩))]) (t_ 13) (t_ 14) true),
 m_ 12 15,
 o_ 16 (Xt 12 0),
 o_ 17 (Xt 12 1),
 o_ 7 (.zero 0 [(.v (.string ⟨#[]⟩)),(.v (.int .i64 0)),(.v (.string ⟨#[]⟩)),(.v (.int .i64 0)),(.v (.bool false)),(.v (.string ⟨#[]⟩)),(.v (.string ⟨#[]⟩)),(.v (.string ⟨#[]⟩))]),
 s_ (Sr 8 7 16),
 m_ 8 17])
 (S_ (S_ (Z_ [
 m_ 18 8,
 o_ 19 (Nt 18),
 m_ 20 19,
 g_ 21 (Lf 1 3) 20 false,
 g_ 22 (Ld 2 5) 20 false,
 g_ 23 (.look ⟨true,[.s,(.i .i64)]⟩ (.c (.v (.bool false))) (t_ 21) (t_ 22) false) 20 false,
 o_ 24 (Pt 20 23)])
 (K_ 24 (S_ (Z_ [
 o_ 6 (Mb false)])
 .ret) .skip))
 (S_ (Z_ [
 o_ 25 (Lf 1 3),
 o_ 26 (Ld 2 5),
 s_ (.mapup ⟨true,[.s,(.i .i64)]⟩ (t_ 25) (t_ 26) (.const (.bool true)))])
 (S_ (Z_ [
 o_ 27 (Lf 1 4),
 o_ 28 (Fa 2 7),
 o_ 29 (Ld 2 28),
 o_ 30 (.callv (t_ 27) [(t_ 29)]),
 m_ 6 30])
 .ret))))))
def ir2080:AF:=⟨31,[(.tmp 6)],b2080⟩
theorem c2080:C_ f80 ir2080:=(by kernel_rfl:_=_)
def b47:AC:=(S_ (Z_ [
 o_ 2 (Mi 0)])
 (S_ (Z_ [
 o_ 3 (Mi 0)])
 (S_ (S_ (Z_ [
 m_ 6 0,
 o_ 7 (Ll 6),
 o_ 8 (Mi 0)])
 (B_ 0 (W_ (S_ (Z_ [
 o_ 9 (Bt .lss 8 7)])
 (S_ (K_ 9 .skip (.exit 0))
 (S_ (B_ 1 (S_ (Z_ [
 o_ 10 (Ia 1 6 8),
 o_ 11 (Lf 1 10),
 m_ 5 11])
 (S_ (Z_ [
 m_ 12 5,
 m_ 13 3,
 o_ 14 (Bt .neq 12 13)])
 (K_ 14 (S_ (Z_ [
 m_ 15 5,
 m_ 2 15])
 .ret) .skip))))
 (Z_ [
 o_ 16 (Bi .add 8 1),
 m_ 8 16])))))))
 (S_ (Z_ [
 m_ 17 3,
 m_ 2 17])
 .ret))))
def ir47:AF:=⟨18,[(.tmp 2)],b47⟩
theorem c47:C_ f83 ir47:=(by kernel_rfl:_=_)
def b2084:AC:=(S_ (Z_ [
 o_ 4 (Mi 0)])
 (S_ (Z_ [
 m_ 7 0,
 o_ 8 (Ca 127 7),
 m_ 5 8])
 (S_ (Z_ [
 m_ 9 1,
 o_ 10 (Ca 127 9),
 m_ 6 10])
 (S_ (S_ (Z_ [
 m_ 11 5])
 (K_ 11 (S_ (S_ (Z_ [
 m_ 12 6])
 (K_ 12 (S_ (Z_ [
 o_ 4 (Mi 0)])
 .ret) .skip))
 (S_ (Z_ [
 o_ 4 (Mi (-1))])
 .ret)) .skip))
 (S_ (S_ (Z_ [
 m_ 13 6])
 (K_ 13 (S_ (Z_ [
 o_ 4 (Mi 1)])
 .ret) .skip))
 (S_ (S_ (Z_ [
 m_ 14 0,
 m_ 15 1,
 o_ 16 (.binS .lss (t_ 14) (t_ 15))])
 (K_ 16 (S_ (Z_ [
 o_ 4 (Mi (-1))])
 .ret) .skip))
 (S_ (S_ (Z_ [
 m_ 17 0,
 m_ 18 1,
 o_ 19 (.binS .gtr (t_ 17) (t_ 18))])
 (K_ 19 (S_ (Z_ [
 o_ 4 (Mi 1)])
 .ret) .skip))
 (S_ (Z_ [
 o_ 4 (Mi 0)])
 .ret))))))))
def ir2084:AF:=⟨20,[(.tmp 4)],b2084⟩
theorem c2084:C_ f84 ir2084:=(by kernel_rfl:_=_)
def b48:AC:=(S_ (Z_ [
 o_ 4 (Mi 0)])
 (S_ (Z_ [
 m_ 7 0,
 o_ 8 (Ca 128 7),
 m_ 5 8])
 (S_ (Z_ [
 m_ 9 1,
 o_ 10 (Ca 128 9),
 m_ 6 10])
 (S_ (S_ (Z_ [
 m_ 11 5])
 (K_ 11 (S_ (S_ (Z_ [
 m_ 12 6])
 (K_ 12 (S_ (Z_ [
 o_ 4 (Mi 0)])
 .ret) .skip))
 (S_ (Z_ [
 o_ 4 (Mi (-1))])
 .ret)) .skip))
 (S_ (S_ (Z_ [
 m_ 13 6])
 (K_ 13 (S_ (Z_ [
 o_ 4 (Mi 1)])
 .ret) .skip))
 (S_ (S_ (Z_ [
 m_ 14 0,
 m_ 15 1,
 o_ 16 (Bt .lss 14 15)])
 (K_ 16 (S_ (Z_ [
 o_ 4 (Mi (-1))])
 .ret) .skip))
 (S_ (S_ (Z_ [
 m_ 17 0,
 m_ 18 1,
 o_ 19 (Bt .gtr 17 18)])
 (K_ 19 (S_ (Z_ [
 o_ 4 (Mi 1)])
 .ret) .skip))
 (S_ (Z_ [
 o_ 4 (Mi 0)])
 .ret))))))))
def ir48:AF:=⟨20,[(.tmp 4)],b48⟩
theorem c48:C_ f85 ir48:=(by kernel_rfl:_=_)
def b44:AC:=(Z_ [
 m_ 4 0,
 m_ 5 0,
 o_ 6 (Ll 5),
 m_ 7 1,
 o_ 8 (Cc 129 4 6 7)])
def ir44:AF:=⟨9,[],b44⟩
theorem c44:C_ f86 ir44:=(by kernel_rfl:_=_)
def b2087:AC:=(S_ (R_ 2 [
 o_ 2 (Bx 0 0),
 o_ 3 (Bx 1 1),
 o_ 4 (Mi 0)])
 (S_ (.dregion 1 [
 o_ 5 (Fa 4 2),
 o_ 6 (Ld 3 5),
 o_ 7 (Fa 4 3),
 o_ 8 (Ld 3 7),
 o_ 9 (Cb 24 6 8),
 o_ 10 (Fa 0 2),
 o_ 11 (Ld 2 10),
 o_ 12 (Fa 0 3),
 o_ 13 (Ld 2 12),
 o_ 14 (Cb 41 11 13),
 o_ 15 (.bsl 0 1 [(.v (.int .i64 0))] 2 [(0,(t_ 9)),(1,(t_ 14))]),
 o_ 16 (Ca 83 15),
 m_ 4 16] [[],[0],[],[2],[1,3],[],[5],[],[7],[6,8,4],[4,9],[10,9],[11,11,0,1,2,3,4,5,6,7,8,9,10,11]])
 .ret))
def ir2087:AF:=⟨17,[(.tmp 4)],b2087⟩
theorem c2087:C_ f87 ir2087:=(by kernel_rfl:_=_)
def b2088:AC:=(S_ (R_ 2 [
 o_ 2 (Bx 0 0),
 o_ 3 (Bx 1 1),
 o_ 4 (Mb false)])
 (S_ (Z_ [
 o_ 6 (Fa 4 2),
 o_ 7 (Ld 3 6),
 o_ 8 (Fa 4 3),
 o_ 9 (Ld 3 8),
 o_ 10 (Cb 59 7 9),
 m_ 5 10])
 (S_ (S_ (Z_ [
 m_ 11 5,
 o_ 12 (Bi .neq 11 0)])
 (K_ 12 (S_ (Z_ [
 m_ 13 5,
 o_ 14 (Bi .lss 13 0),
 m_ 4 14])
 .ret) .skip))
 (S_ (Z_ [
 o_ 15 (Fa 0 2),
 o_ 16 (Ld 2 15),
 o_ 17 (Fa 0 3),
 o_ 18 (Ld 2 17),
 o_ 19 (Cb 47 16 18),
 m_ 4 19])
 .ret))))
def ir2088:AF:=⟨20,[(.tmp 4)],b2088⟩
theorem c2088:C_ f88 ir2088:=(by kernel_rfl:_=_)
def b1100_0:AC:=(R_ 3 [
 o_ 2 (Bx 0 0),
 o_ 3 (Bx 1 1),
 o_ 4 (.zero 2 [(.v (.bool false)),(.v (.string ⟨#[]⟩)),(.v (.string ⟨#[]⟩))]),
 o_ 5 (Mb false)])
def b1100_1:AC:=(.dregion 0 [
 o_ 9 (Ld 2 2),
 o_ 10 (Ca 130 9),
 o_ 11 (Ld 2 3),
 o_ 12 (Ca 130 11),
 s_ (Sr 2 2 10),
 s_ (Sr 2 3 12)] [[],[0],[],[2,1],[1,3,0,1],[3,4,0,1,2,3,4]])
def b1100_2:AC:=(S_ (Z_ [
 o_ 13 (Fa 1 3),
 o_ 14 (Lf 1 13),
 o_ 15 (.binS .eql (t_ 14) (.const (.string ⟨#[]⟩)))])
 (K_ 15 (S_ (Z_ [
 o_ 16 (.build [(.v (.bool false)),(.v (.string ⟨#[]⟩)),(.v (.string ⟨#[]⟩))] []),
 s_ (Sr 3 4 16),
 o_ 5 (Mb false)])
 .ret) .skip))
def b1100_3:AC:=(Z_ [
 o_ 17 (Fa 0 2),
 o_ 18 (Lf 1 17),
 o_ 19 (Fa 0 3),
 o_ 20 (Lf 1 19),
 o_ 21 (.eqB true (t_ 18) (t_ 20)),
 m_ 6 21])
def b1100_4:AC:=(Z_ [
 o_ 22 (Fa 0 2),
 s_ (.store 1 (t_ 22) (.const (.bool false))),
 o_ 23 (Fa 0 3),
 s_ (.store 1 (t_ 23) (.const (.bool false)))])
def b1100_5:AC:=(R_ 2 [
 o_ 24 (Ld 2 2),
 o_ 25 (Ld 2 3),
 o_ 26 (.bsl 0 2 [(.v (.bool false)),(.v (.string ⟨#[]⟩))] 2 [(0,(t_ 24)),(1,(t_ 25))]),
 o_ 27 (Ca 131 26),
 o_ 7 (.zero 1 [(.v (.bool false)),(.v (.string ⟨#[]⟩))]),
 s_ (Sr 2 7 27)])
def b1100_6:AC:=(Z_ [
 o_ 29 (Ld 2 2),
 o_ 30 (Ld 2 7),
 o_ 31 (Cb 132 29 30),
 m_ 28 31,
 o_ 32 (Xt 28 0),
 o_ 33 (Xt 28 1),
 o_ 34 (Xt 28 2),
 s_ (Sr 2 2 32)])
def b1100_7:AC:=(Z_ [
 o_ 36 (Ld 2 3),
 o_ 37 (Ld 2 7),
 o_ 38 (Cb 132 36 37),
 m_ 35 38,
 o_ 39 (Xt 35 0),
 o_ 40 (Xt 35 1),
 o_ 41 (Xt 35 2),
 s_ (Sr 2 3 39)])
def b1100_8:AC:=(R_ 1 [
 m_ 42 6,
 o_ 43 (Fa 1 2),
 o_ 44 (Lf 1 43),
 o_ 45 (Fa 1 3),
 o_ 46 (Lf 1 45),
 o_ 47 (.build [(.v (.bool false)),(.v (.string ⟨#[]⟩)),(.v (.string ⟨#[]⟩))] [(0,(1,(t_ 42))),(1,(1,(t_ 44))),(2,(1,(t_ 46)))]),
 o_ 8 (.zero 0 [(.v (.bool false)),(.v (.string ⟨#[]⟩)),(.v (.string ⟨#[]⟩))]),
 s_ (Sr 3 8 47)])
def b1100_9:AC:=(S_ (Z_ [
 o_ 48 (Fa 1 8),
 o_ 49 (Lf 1 48),
 o_ 50 (.binS .eql (t_ 49) (.const (.string ⟨#[]⟩)))])
 (K_ 50 (Z_ [
 o_ 51 (Fa 0 8),
 s_ (.store 1 (t_ 51) (.const (.bool false)))]) .skip))
def b1100_10:AC:=(S_ (.dregion 0 [
 o_ 52 (Ld 2 3),
 o_ 53 (Cz 94),
 o_ 54 (.eqA false [.b,.s] (t_ 52) (t_ 53))] [[],[],[0,1]])
 (K_ 54 (Z_ [
 o_ 55 (Fa 2 8),
 s_ (.store 1 (t_ 55) (.const (.string ⟨#[]⟩)))]) .skip))
def b1100_11:AC:=(Z_ [
 o_ 56 (Ld 3 8),
 s_ (Sr 3 4 56),
 o_ 5 (Mb true)])
def b1100_12:AC:=.ret
def b1100:AC:=(S_ b1100_0 (S_ b1100_1 (S_ b1100_2 (S_ b1100_3 (S_ b1100_4 (S_ b1100_5 (S_ b1100_6 (S_ b1100_7 (S_ b1100_8 (S_ b1100_9 (S_ b1100_10 (S_ b1100_11 b1100_12))))))))))))
def ir1100:AF:=⟨57,[(.cell 4 true 3),(.tmp 5)],b1100⟩
theorem c1100:C_ f89 ir1100:=(by kernel_rfl:_=_)
def b1101:AC:=(S_ (R_ 2 [
 o_ 1 (Bx 0 0),
 o_ 2 (.zero 1 [(.v (.bool false)),(.v (.string ⟨#[]⟩))])])
 (S_ (Z_ [
 o_ 3 (Fa 0 1),
 o_ 4 (Lf 1 3),
 o_ 5 (Fa 1 1),
 o_ 6 (Lf 1 5),
 o_ 7 (.build [(.v (.bool false)),(.v (.string ⟨#[]⟩))] [(0,(1,(t_ 4))),(1,(1,(t_ 6)))]),
 o_ 8 (Ca 130 7),
 s_ (Sr 2 2 8)])
 .ret))
def ir1101:AF:=⟨9,[(.cell 2 true 2)],b1101⟩
theorem c1101:C_ f90 ir1101:=(by kernel_rfl:_=_)
def b1102:AC:=(S_ (R_ 2 [
 o_ 1 (Bx 0 0),
 o_ 2 (.zero 1 [(.v (.bool false)),(.v (.string ⟨#[]⟩))])])
 (S_ (R_ 1 [
 o_ 4 (Fa 2 1),
 o_ 5 (Lf 1 4),
 o_ 6 (.build [(.v (.bool false)),(.v (.string ⟨#[]⟩))] [(1,(1,(t_ 5)))]),
 o_ 7 (Ca 130 6),
 o_ 3 (.zero 0 [(.v (.bool false)),(.v (.string ⟨#[]⟩))]),
 s_ (Sr 2 3 7)])
 (S_ (S_ (Z_ [
 o_ 8 (Fa 1 3),
 o_ 9 (Lf 1 8),
 o_ 10 (.binS .eql (t_ 9) (.const (.string ⟨#[]⟩)))])
 (K_ 10 (S_ (Z_ [
 o_ 11 (Cz 94),
 s_ (Sr 2 2 11)])
 .ret) .skip))
 (S_ (Z_ [
 o_ 12 (Ld 2 3),
 s_ (Sr 2 2 12)])
 .ret))))
def ir1102:AF:=⟨13,[(.cell 2 true 2)],b1102⟩
theorem c1102:C_ f91 ir1102:=(by kernel_rfl:_=_)
def b2092_0:AC:=(R_ 3 [
 o_ 3 (Bx 0 0),
 o_ 4 (Bx 1 1),
 o_ 6 (.zero 2 [(.v (.bool false)),(.v (.string ⟨#[]⟩)),(.v (.string ⟨#[]⟩))])])
def b2092_1:AC:=(R_ 1 [
 o_ 15 (Ld 3 3),
 o_ 16 (Ca 133 15),
 o_ 7 (.zero 0 [(.v (.bool false)),(.v (.string ⟨#[]⟩)),(.v (.string ⟨#[]⟩))]),
 s_ (Sr 3 7 16)])
def b2092_2:AC:=(.dregion 1 [
 o_ 17 (Ld 3 7),
 o_ 18 (Cz 52),
 o_ 19 (Cb 53 17 18),
 o_ 8 (.zero 0 [(.v (.bool false)),(.v (.string ⟨#[]⟩)),(.v (.string ⟨#[]⟩))]),
 s_ (Sr 3 8 19)] [[],[],[0,1,1],[],[3,2,2,0,1,2,3]])
def b2092_3:AC:=(S_ (Z_ [
 m_ 20 2,
 o_ 21 (Nt 20),
 m_ 22 21,
 g_ 23 (Ld 3 8) 22 false,
 g_ 24 (Ld 3 4) 22 false,
 g_ 25 (Cb 24 23 24) 22 false,
 g_ 26 (Bi .lss 25 0) 22 false,
 o_ 27 (Pt 22 26)])
 (K_ 27 (S_ (Z_ [
 o_ 28 (Ld 3 8),
 s_ (Sr 3 6 28)])
 .ret) .skip))
def b2092_4:AC:=(.dregion 1 [
 o_ 30 (Cz 52),
 o_ 31 (Ld 3 4),
 o_ 32 (Ld 3 7),
 o_ 33 (Cb 51 31 32),
 o_ 34 (Cb 27 30 33),
 m_ 29 34,
 o_ 35 (Xt 29 0),
 o_ 36 (Xt 29 1),
 o_ 9 (.zero 0 [(.v (.bool false)),(.v (.string ⟨#[]⟩)),(.v (.string ⟨#[]⟩))]),
 s_ (Sr 3 9 35),
 m_ 10 36] [[],[],[],[1,2,0],[0,3,3],[4],[5],[5],[],[8,6,4,0,1,2,3,4,5,6,8],[7,9,0,1,2,3,4,5,6,7,8,9]])
def b2092_5:AC:=(.dregion 1 [
 o_ 38 (Cz 52),
 o_ 39 (Ld 3 3),
 o_ 40 (Ld 3 7),
 o_ 41 (Cb 51 39 40),
 o_ 42 (Cb 27 38 41),
 m_ 37 42,
 o_ 43 (Xt 37 0),
 o_ 44 (Xt 37 1),
 o_ 11 (.zero 0 [(.v (.bool false)),(.v (.string ⟨#[]⟩)),(.v (.string ⟨#[]⟩))]),
 s_ (Sr 3 11 43),
 m_ 12 44] [[],[],[],[1,2,0],[0,3,3],[4],[5],[5],[],[8,6,4,0,1,2,3,4,5,6,8],[7,9,0,1,2,3,4,5,6,7,8,9]])
def b2092_6:AC:=(.dregion 1 [
 o_ 46 (Cz 52),
 o_ 47 (Ld 3 9),
 o_ 48 (Ld 3 11),
 m_ 49 12,
 o_ 50 (Cc 92 47 48 49),
 o_ 51 (Cb 27 46 50),
 m_ 45 51,
 o_ 52 (Xt 45 0),
 o_ 53 (Xt 45 1),
 o_ 13 (.zero 0 [(.v (.bool false)),(.v (.string ⟨#[]⟩)),(.v (.string ⟨#[]⟩))]),
 s_ (Sr 3 13 52),
 m_ 14 53] [[],[],[],[],[1,2,3,0],[0,4,4],[5],[6],[6],[],[9,7,5,0,1,2,3,4,5,6,7,9],[8,10,0,1,2,3,4,5,6,7,8,9,10]])
def b2092_7:AC:=(Z_ [
 o_ 54 (Ld 3 7),
 o_ 55 (Ld 3 13),
 o_ 56 (Cb 53 54 55),
 s_ (Sr 3 6 56)])
def b2092_8:AC:=.ret
def b2092:AC:=(S_ b2092_0 (S_ b2092_1 (S_ b2092_2 (S_ b2092_3 (S_ b2092_4 (S_ b2092_5 (S_ b2092_6 (S_ b2092_7 b2092_8))))))))
def ir2092:AF:=⟨57,[(.cell 6 true 3)],b2092⟩
theorem c2092:C_ f92 ir2092:=(by kernel_rfl:_=_)
def b1135:AC:=(S_ (R_ 1 [
 o_ 2 (.zero 0 [(.v (.bool false)),(.v (.string ⟨#[]⟩))])])
 (S_ (S_ (Z_ [
 m_ 3 0,
 o_ 4 (Bi .lss 3 0)])
 (K_ 4 (S_ (Z_ [
 m_ 5 0,
 o_ 6 (Bi .add 5 1),
 o_ 7 (.neg .i64 (t_ 6)),
 o_ 8 (Cq .u64 7),
 o_ 9 (.binI .add .u64 (t_ 8) (.const (.int .u64 1))),
 o_ 10 (Ca 135 9),
 o_ 11 (.call 134 [(.const (.bool true)),(t_ 10)]),
 s_ (Sr 2 2 11)])
 .ret) .skip))
 (S_ (Z_ [
 m_ 12 0,
 o_ 13 (Cq .u64 12),
 o_ 14 (Ca 135 13),
 o_ 15 (.call 134 [(.const (.bool false)),(t_ 14)]),
 s_ (Sr 2 2 15)])
 .ret)))
def ir1135:AF:=⟨16,[(.cell 2 true 2)],b1135⟩
theorem c1135:C_ f93 ir1135:=(by kernel_rfl:_=_)
def b1117:AC:=(S_ (R_ 1 [
 o_ 0 (.zero 0 [(.v (.bool false)),(.v (.string ⟨#[]⟩))])])
 (S_ (Z_ [
 o_ 1 (.call 93 [(.const (.int .i64 1))]),
 s_ (Sr 2 0 1)])
 .ret))
def ir1117:AF:=⟨2,[(.cell 0 true 2)],b1117⟩
theorem c1117:C_ f94 ir1117:=(by kernel_rfl:_=_)
def b2095:AC:=(S_ (R_ 2 [
 o_ 1 (Bx 0 0),
 o_ 2 (.zero 1 [(.v (.bool false)),(.v (.string ⟨#[]⟩)),(.v (.string ⟨#[]⟩))])])
 (S_ (.dregion 1 [
 o_ 6 (Ld 3 1),
 o_ 7 (Ca 90 6),
 o_ 8 (Ca 136 7),
 o_ 9 (Ld 3 1),
 o_ 10 (Ca 91 9),
 o_ 11 (Cb 89 8 10),
 m_ 5 11,
 o_ 12 (Xt 5 0),
 o_ 13 (Xt 5 1),
 o_ 3 (.zero 0 [(.v (.bool false)),(.v (.string ⟨#[]⟩)),(.v (.string ⟨#[]⟩))]),
 s_ (Sr 3 3 12),
 m_ 4 13] [[],[0],[1,1],[],[3,2],[2,4,4],[5],[6],[6],[],[9,7,5,0,1,2,3,4,5,6,7,9],[8,10,0,1,2,3,4,5,6,7,8,9,10]])
 (S_ (Z_ [
 o_ 14 (Ld 3 3),
 s_ (Sr 3 2 14)])
 .ret)))
def ir2095:AF:=⟨15,[(.cell 2 true 3)],b2095⟩
theorem c2095:C_ f95 ir2095:=(by kernel_rfl:_=_)
def b1133:AC:=(S_ (R_ 3 [
 o_ 2 (Bx 0 0),
 o_ 3 (Bx 1 1),
 o_ 4 (.zero 2 [(.v (.bool false)),(.v (.string ⟨#[]⟩))])])
 (S_ (S_ (Z_ [
 o_ 7 (Fa 0 2),
 o_ 8 (Lf 1 7),
 o_ 9 (Fa 0 3),
 o_ 10 (Lf 1 9),
 o_ 11 (.eqB false (t_ 8) (t_ 10))])
 (K_ 11 (S_ (.dregion 0 [
 o_ 12 (Fa 0 2),
 o_ 13 (Lf 1 12),
 o_ 14 (Fa 1 2),
 o_ 15 (Lf 1 14),
 o_ 16 (Fa 1 3),
 o_ 17 (Lf 1 16),
 o_ 18 (Cb 137 15 17),
 o_ 19 (Cb 134 13 18),
 s_ (Sr 2 4 19)] [[],[0],[],[2],[],[4],[3,5],[1,6,6],[7,7,0,1,2,3,4,5,6,7]])
 .ret) .skip))
 (S_ (Z_ [
 o_ 21 (Fa 1 2),
 o_ 22 (Lf 1 21),
 o_ 23 (Fa 1 3),
 o_ 24 (Lf 1 23),
 o_ 25 (Cb 138 22 24),
 m_ 20 25,
 o_ 26 (Xt 20 0),
 o_ 27 (Xt 20 1),
 m_ 5 26,
 m_ 6 27])
 (S_ (S_ (Z_ [
 m_ 28 6])
 (K_ 28 (S_ (Z_ [
 o_ 29 (Fa 0 2),
 o_ 30 (Lf 1 29),
 m_ 31 5,
 o_ 32 (Cb 134 30 31),
 s_ (Sr 2 4 32)])
 .ret) .skip))
 (S_ (Z_ [
 o_ 34 (Fa 1 3),
 o_ 35 (Lf 1 34),
 o_ 36 (Fa 1 2),
 o_ 37 (Lf 1 36),
 o_ 38 (Cb 138 35 37),
 m_ 33 38,
 o_ 39 (Xt 33 0),
 o_ 40 (Xt 33 1),
 m_ 5 39])
 (S_ (Z_ [
 o_ 41 (Fa 0 3),
 o_ 42 (Lf 1 41),
 m_ 43 5,
 o_ 44 (Cb 134 42 43),
 s_ (Sr 2 4 44)])
 .ret))))))
def ir1133:AF:=⟨45,[(.cell 4 true 2)],b1133⟩
theorem c1133:C_ f96 ir1133:=(by kernel_rfl:_=_)
def b2097:AC:=(S_ (R_ 3 [
 o_ 2 (Bx 0 0),
 o_ 3 (Bx 1 1),
 o_ 4 (.zero 2 [(.v (.bool false)),(.v (.string ⟨#[]⟩))])])
 (S_ (.dregion 0 [
 o_ 5 (Fa 0 2),
 o_ 6 (Lf 1 5),
 o_ 7 (Fa 0 3),
 o_ 8 (Lf 1 7),
 o_ 9 (.eqB true (t_ 6) (t_ 8)),
 o_ 10 (Fa 1 2),
 o_ 11 (Lf 1 10),
 o_ 12 (Fa 1 3),
 o_ 13 (Lf 1 12),
 o_ 14 (Cb 139 11 13),
 o_ 15 (Cb 134 9 14),
 s_ (Sr 2 4 15)] [[],[0],[],[2],[1,3],[],[5],[],[7],[6,8],[4,9,9],[10,10,0,1,2,3,4,5,6,7,8,9,10]])
 .ret))
def ir2097:AF:=⟨16,[(.cell 4 true 2)],b2097⟩
theorem c2097:C_ f97 ir2097:=(by kernel_rfl:_=_)
def b2098:AC:=(S_ (R_ 1 [
 o_ 1 (Bx 0 0),
 o_ 2 (Mi 0)])
 (S_ (Z_ [
 o_ 3 (Ld 3 1),
 o_ 4 (Ca 90 3),
 o_ 5 (Ca 140 4),
 m_ 2 5])
 .ret))
def ir2098:AF:=⟨6,[(.tmp 2)],b2098⟩
theorem c2098:C_ f98 ir2098:=(by kernel_rfl:_=_)
def b2099:AC:=(S_ (R_ 2 [
 o_ 1 (Bx 0 0),
 o_ 2 (.zero 1 [(.v (.bool false)),(.v (.string ⟨#[]⟩))])])
 (S_ (R_ 2 [
 o_ 9 (Ld 3 1),
 o_ 10 (Ca 141 9),
 m_ 8 10,
 o_ 11 (Xt 8 0),
 o_ 12 (Xt 8 1),
 o_ 3 (.zero 0 [(.v (.bool false)),(.v (.string ⟨#[]⟩))]),
 o_ 4 (.zero 1 [(.v (.bool false)),(.v (.string ⟨#[]⟩))]),
 s_ (Sr 2 3 11),
 s_ (Sr 2 4 12)])
 (S_ (R_ 2 [
 o_ 14 (Ld 2 3),
 o_ 15 (Ld 2 4),
 o_ 16 (Cb 132 14 15),
 m_ 13 16,
 o_ 17 (Xt 13 0),
 o_ 18 (Xt 13 1),
 o_ 19 (Xt 13 2),
 o_ 5 (.zero 0 [(.v (.bool false)),(.v (.string ⟨#[]⟩))]),
 o_ 6 (.zero 1 [(.v (.bool false)),(.v (.string ⟨#[]⟩))]),
 s_ (Sr 2 5 17),
 s_ (Sr 2 6 18),
 m_ 7 19])
 (S_ (Z_ [
 o_ 20 (Ld 2 5),
 s_ (Sr 2 2 20)])
 .ret))))
def ir2099:AF:=⟨21,[(.cell 2 true 2)],b2099⟩
theorem c2099:C_ f99 ir2099:=(by kernel_rfl:_=_)
def b2100:AC:=(S_ (R_ 3 [
 o_ 2 (Bx 0 0),
 o_ 3 (Bx 1 1),
 o_ 4 (.zero 2 [(.v (.bool false)),(.v (.string ⟨#[]⟩)),(.v (.string ⟨#[]⟩))]),
 o_ 5 (Mb false)])
 (S_ (.dregion 0 [
 o_ 6 (Ld 3 2),
 o_ 7 (Ca 90 6),
 o_ 8 (Ld 3 3),
 o_ 9 (Ca 91 8),
 o_ 10 (Cb 97 7 9),
 o_ 11 (Ld 3 2),
 o_ 12 (Ca 91 11),
 o_ 13 (Ld 3 3),
 o_ 14 (Ca 90 13),
 o_ 15 (Cb 97 12 14),
 o_ 16 (Cb 89 10 15),
 o_ 17 (Xt 16 0),
 o_ 18 (Xt 16 1),
 s_ (Sr 3 4 17),
 m_ 5 18] [[],[0],[],[2,1],[1,3,3],[],[5,4],[],[7,6],[6,8,8],[4,9,9],[10],[10],[11,10,0,1,2,3,4,5,6,7,8,9,10,11,12],[12,13,0,1,2,3,4,5,6,7,8,9,10,11,12,13]])
 .ret))
def ir2100:AF:=⟨19,[(.cell 4 true 3),(.tmp 5)],b2100⟩
theorem c2100:C_ f100 ir2100:=(by kernel_rfl:_=_)
def b1119:AC:=(S_ (Z_ [
 o_ 2 (Me)])
 (S_ (Z_ [
 m_ 3 0,
 o_ 4 (.call 142 [(t_ 3),(.const (.string ⟨#[0]⟩))]),
 m_ 2 4])
 .ret))
def ir1119:AF:=⟨5,[(.tmp 2)],b1119⟩
theorem c1119:C_ f101 ir1119:=(by kernel_rfl:_=_)
def b2102:AC:=(S_ (R_ 3 [
 o_ 2 (Bx 0 0),
 o_ 3 (Bx 1 1),
 o_ 4 (.zero 2 [(.v (.bool false)),(.v (.string ⟨#[]⟩))])])
 (S_ (.dregion 0 [
 o_ 5 (Ld 2 2),
 o_ 6 (Ld 2 3),
 o_ 7 (Ca 66 6),
 o_ 8 (Cb 31 5 7),
 s_ (Sr 2 4 8)] [[],[],[1],[0,2,2],[3,3,0,1,2,3]])
 .ret))
def ir2102:AF:=⟨9,[(.cell 4 true 2)],b2102⟩
theorem c2102:C_ f102 ir2102:=(by kernel_rfl:_=_)
def b2103_0:AC:=(Z_ [
 o_ 4 (Me)])
def b2103_1:AC:=(Z_ [
 m_ 12 0,
 o_ 13 (Ca 104 12),
 m_ 14 1,
 o_ 15 (Ca 104 14),
 m_ 5 13,
 m_ 6 15])
def b2103_2:AC:=(R_ 1 [
 m_ 16 5,
 o_ 17 (Ll 16),
 m_ 18 6,
 o_ 19 (Ll 18),
 o_ 20 (Bt .add 17 19),
 o_ 21 (.mksl 0 1 4 [(.v (.int .u32 0))] (t_ 20) (t_ 20)),
 m_ 7 21])
def b2103_3:AC:=(S_ (Z_ [
 m_ 22 5,
 o_ 23 (Ll 22),
 o_ 24 (Mi 0)])
 (B_ 0 (W_ (S_ (Z_ [
 o_ 25 (Bt .lss 24 23)])
 (S_ (K_ 25 .skip (.exit 0))
 (S_ (B_ 1 (S_ (Z_ [
 m_ 26 24,
 m_ 8 26])
 (S_ (Z_ [
 o_ 9 (.mov (.const (.int .u64 0)))])
 (S_ (S_ (Z_ [
 m_ 27 6,
 o_ 28 (Ll 27),
 o_ 29 (Mi 0)])
 (B_ 2 (W_ (S_ (Z_ [
 o_ 30 (Bt .lss 29 28)])
 (S_ (K_ 30 .skip (.exit 2))
 (S_ (B_ 3 (S_ (Z_ [
 m_ 31 29,
 m_ 10 31])
 (S_ (.dregion 0 [
 m_ 32 5,
 m_ 33 8,
 o_ 34 (Ia 1 32 33),
 o_ 35 (Lf 1 34),
 o_ 36 (Cq .u64 35),
 m_ 37 6,
 m_ 38 10,
 o_ 39 (Ia 1 37 38),
 o_ 40 (Lf 1 39),
 o_ 41 (Cq .u64 40),
 o_ 42 (.binI .mul .u64 (t_ 36) (t_ 41)),
 m_ 43 7,
 m_ 44 8,
 m_ 45 10,
 o_ 46 (Bt .add 44 45),
 o_ 47 (Ia 1 43 46),
 o_ 48 (Lf 1 47),
 o_ 49 (Cq .u64 48),
 o_ 50 (.binI .add .u64 (t_ 42) (t_ 49)),
 m_ 51 9,
 o_ 52 (.binI .add .u64 (t_ 50) (t_ 51)),
 m_ 11 52] [[],[],[0,1],[2],[3],[],[],[5,6],[7],[8],[4,9],[],[],[],[12,13],[11,14],[15],[16],[10,17],[],[18,19],[20,0,1,2,3,4,5,6,7,8,9,10,11,12,13,14,15,16,17,18,19,20]])
 (Z_ [
 m_ 53 7,
 m_ 54 8,
 m_ 55 10,
 o_ 56 (Bt .add 54 55),
 m_ 57 11,
 o_ 58 (Cq .u32 57),
 m_ 59 11,
 o_ 60 (.shf .shr .u64 (t_ 59) (.const (.int .u64 32))),
 o_ 61 (Ia 1 53 56),
 s_ (Sr 1 61 58),
 m_ 9 60]))))
 (Z_ [
 o_ 62 (Bi .add 29 1),
 m_ 29 62])))))))
 (Z_ [
 m_ 63 7,
 m_ 64 8,
 m_ 65 6,
 o_ 66 (Ll 65),
 o_ 67 (Bt .add 64 66),
 m_ 68 9,
 o_ 69 (Cq .u32 68),
 o_ 70 (Ia 1 63 67),
 s_ (Sr 1 70 69)])))))
 (Z_ [
 o_ 71 (Bi .add 24 1),
 m_ 24 71])))))))
def b2103_4:AC:=(Z_ [
 m_ 72 7,
 o_ 73 (Ca 106 72),
 m_ 4 73])
def b2103_5:AC:=.ret
def b2103:AC:=(S_ b2103_0 (S_ b2103_1 (S_ b2103_2 (S_ b2103_3 (S_ b2103_4 b2103_5)))))
def ir2103:AF:=⟨74,[(.tmp 4)],b2103⟩
theorem c2103:C_ f103 ir2103:=(by kernel_rfl:_=_)
def b1157:AC:=(S_ (Z_ [
 o_ 2 (Mn)])
 (S_ (Z_ [
 m_ 5 0,
 o_ 6 (Ca 101 5),
 m_ 0 6])
 (S_ (R_ 1 [
 m_ 7 0,
 o_ 8 (Ls 7),
 o_ 9 (Bi .add 8 4),
 o_ 10 (Bi .sub 9 1),
 o_ 11 (Bi .quo 10 4),
 o_ 12 (.mksl 0 1 4 [(.v (.int .u32 0))] (t_ 11) (t_ 11)),
 m_ 3 12])
 (S_ (S_ (Z_ [
 m_ 13 0,
 o_ 14 (Ls 13),
 o_ 15 (Mi 0)])
 (B_ 0 (W_ (S_ (Z_ [
 o_ 16 (Bt .lss 15 14)])
 (S_ (K_ 16 .skip (.exit 0))
 (S_ (B_ 1 (S_ (Z_ [
 m_ 17 15,
 m_ 4 17])
 (.dregion 0 [
 m_ 18 3,
 m_ 19 4,
 o_ 20 (Bi .quo 19 4),
 o_ 21 (Ia 1 18 20),
 o_ 22 (Lf 1 21),
 m_ 23 0,
 m_ 24 4,
 o_ 25 (Ix 23 24),
 o_ 26 (Cq .u32 25),
 m_ 27 4,
 o_ 28 (Bi .rem 27 4),
 o_ 29 (.binI .mul .i64 (.const (.int .i64 8)) (t_ 28)),
 o_ 30 (.shf .shl .u32 (t_ 26) (t_ 29)),
 o_ 31 (.binI .or .u32 (t_ 22) (t_ 30)),
 o_ 32 (Ia 1 18 20),
 s_ (Sr 1 32 31)] [[],[],[1],[0,2],[3],[],[],[5,6],[7],[],[9],[10],[8,11],[4,12],[0,2,0,1,2,3,4,5,6,7,8,9,10,11,12,13],[14,13,0,1,2,3,4,5,6,7,8,9,10,11,12,13]])))
 (Z_ [
 o_ 33 (Bi .add 15 1),
 m_ 15 33])))))))
 (S_ (Z_ [
 m_ 34 3,
 m_ 2 34])
 .ret)))))
def ir1157:AF:=⟨35,[(.tmp 2)],b1157⟩
theorem c1157:C_ f104 ir1157:=(by kernel_rfl:_=_)
def b1179:AC:=(S_ (Z_ [
 o_ 6 (.mov (.const (.int .u32 0))),
 o_ 7 (.mov (.const (.int .u32 0)))])
 (S_ (Z_ [
 m_ 9 0,
 o_ 10 (Cq .u64 9),
 m_ 11 1,
 o_ 12 (Cq .u64 11),
 o_ 13 (.binI .add .u64 (t_ 10) (t_ 12)),
 m_ 14 2,
 o_ 15 (Cq .u64 14),
 o_ 16 (.binI .add .u64 (t_ 13) (t_ 15)),
 m_ 8 16])
 (S_ (Z_ [
 m_ 17 8,
 o_ 18 (Cq .u32 17),
 m_ 6 18])
 (S_ (Z_ [
 m_ 19 8,
 o_ 20 (.shf .shr .u64 (t_ 19) (.const (.int .u64 32))),
 o_ 21 (Cq .u32 20),
 m_ 7 21])
 .ret))))
def ir1179:AF:=⟨22,[(.tmp 6),(.tmp 7)],b1179⟩
theorem c1179:C_ f105 ir1179:=(by kernel_rfl:_=_)
def b1160:AC:=(S_ (Z_ [
 o_ 2 (Me)])
 (S_ (R_ 1 [
 m_ 7 0,
 o_ 8 (Ll 7),
 o_ 9 (.binI .mul .i64 (.const (.int .i64 4)) (t_ 8)),
 o_ 10 (.mksl 0 1 1 [(.v (.int .u8 0))] (.const (.int .i64 0)) (t_ 9)),
 m_ 3 10])
 (S_ (S_ (Z_ [
 m_ 11 0,
 o_ 12 (Ll 11),
 o_ 13 (Mi 0)])
 (B_ 0 (W_ (S_ (Z_ [
 o_ 14 (Bt .lss 13 12)])
 (S_ (K_ 14 .skip (.exit 0))
 (S_ (B_ 1 (S_ (Z_ [
 o_ 15 (Ia 1 11 13),
 o_ 16 (Lf 1 15),
 m_ 5 16])
 (S_ (Z_ [
 o_ 17 (Mi 0)])
 (B_ 2 (W_ (S_ (Z_ [
 o_ 18 (Bi .lss 17 4)])
 (S_ (K_ 18 .skip (.exit 2))
 (S_ (B_ 3 (S_ (Z_ [
 m_ 19 17,
 m_ 6 19])
 (R_ 2 [
 m_ 20 3,
 m_ 21 5,
 m_ 22 6,
 o_ 23 (.binI .mul .i64 (.const (.int .i64 8)) (t_ 22)),
 o_ 24 (.shf .shr .u32 (t_ 21) (t_ 23)),
 o_ 25 (Cq .u8 24),
 o_ 26 (.bsl 0 1 [(.v (.int .u8 0))] 1 [(0,(t_ 25))]),
 o_ 27 (Ap 1 1 1 20 26),
 m_ 3 27])))
 (Z_ [
 o_ 28 (Bi .add 17 1),
 m_ 17 28])))))))))
 (Z_ [
 o_ 29 (Bi .add 13 1),
 m_ 13 29])))))))
 (S_ (Z_ [
 m_ 30 3,
 o_ 31 (.str (t_ 30)),
 o_ 32 (Ca 101 31),
 m_ 2 32])
 .ret))))
def ir1160:AF:=⟨33,[(.tmp 2)],b1160⟩
theorem c1160:C_ f106 ir1160:=(by kernel_rfl:_=_)
def b1158:AC:=(S_ (Z_ [
 o_ 4 (Mi 0)])
 (S_ (Z_ [
 m_ 7 0,
 o_ 8 (Ca 101 7),
 m_ 9 1,
 o_ 10 (Ca 101 9),
 m_ 0 8,
 m_ 1 10])
 (S_ (S_ (Z_ [
 m_ 11 0,
 o_ 12 (Ls 11),
 m_ 13 1,
 o_ 14 (Ls 13),
 o_ 15 (Bt .neq 12 14)])
 (K_ 15 (S_ (S_ (Z_ [
 m_ 16 0,
 o_ 17 (Ls 16),
 m_ 18 1,
 o_ 19 (Ls 18),
 o_ 20 (Bt .lss 17 19)])
 (K_ 20 (S_ (Z_ [
 o_ 4 (Mi (-1))])
 .ret) .skip))
 (S_ (Z_ [
 o_ 4 (Mi 1)])
 .ret)) .skip))
 (S_ (S_ (Z_ [
 m_ 21 0,
 o_ 22 (Ls 21),
 o_ 23 (Mi 0)])
 (B_ 0 (W_ (S_ (Z_ [
 o_ 24 (Bt .lss 23 22)])
 (S_ (K_ 24 .skip (.exit 0))
 (S_ (B_ 1 (S_ (Z_ [
 m_ 25 23,
 m_ 5 25])
 (S_ (Z_ [
 m_ 26 0,
 o_ 27 (Ls 26),
 o_ 28 (Bi .sub 27 1),
 m_ 29 5,
 o_ 30 (Bt .sub 28 29),
 m_ 6 30])
 (S_ (.dregion 0 [
 m_ 31 0,
 m_ 32 6,
 o_ 33 (Ix 31 32),
 m_ 34 1,
 m_ 35 6,
 o_ 36 (Ix 34 35),
 o_ 37 (.binI .neq .u8 (t_ 33) (t_ 36))] [[],[],[0,1],[],[],[3,4],[2,5]])
 (K_ 37 (S_ (S_ (.dregion 0 [
 m_ 38 0,
 m_ 39 6,
 o_ 40 (Ix 38 39),
 m_ 41 1,
 m_ 42 6,
 o_ 43 (Ix 41 42),
 o_ 44 (.binI .lss .u8 (t_ 40) (t_ 43))] [[],[],[0,1],[],[],[3,4],[2,5]])
 (K_ 44 (S_ (Z_ [
 o_ 4 (Mi (-1))])
 .ret) .skip))
 (S_ (Z_ [
 o_ 4 (Mi 1)])
 .ret)) .skip)))))
 (Z_ [
 o_ 45 (Bi .add 23 1),
 m_ 23 45])))))))
 (S_ (Z_ [
 o_ 4 (Mi 0)])
 .ret)))))
def ir1158:AF:=⟨46,[(.tmp 4)],b1158⟩
theorem c1158:C_ f107 ir1158:=(by kernel_rfl:_=_)
def b1178:AC:=(S_ (Z_ [
 o_ 6 (.mov (.const (.int .u32 0))),
 o_ 7 (.mov (.const (.int .u32 0)))])
 (S_ (Z_ [
 m_ 8 0,
 m_ 9 1,
 o_ 10 (.binI .sub .u32 (t_ 8) (t_ 9)),
 m_ 11 2,
 o_ 12 (.binI .sub .u32 (t_ 10) (t_ 11)),
 m_ 6 12])
 (S_ (Z_ [
 m_ 13 0,
 o_ 14 (.cpl .u32 (t_ 13)),
 m_ 15 1,
 o_ 16 (.binI .and .u32 (t_ 14) (t_ 15)),
 m_ 17 0,
 m_ 18 1,
 o_ 19 (.binI .xor .u32 (t_ 17) (t_ 18)),
 o_ 20 (.cpl .u32 (t_ 19)),
 m_ 21 6,
 o_ 22 (.binI .and .u32 (t_ 20) (t_ 21)),
 o_ 23 (.binI .or .u32 (t_ 16) (t_ 22)),
 o_ 24 (.shf .shr .u32 (t_ 23) (.const (.int .u64 31))),
 m_ 7 24])
 .ret)))
def ir1178:AF:=⟨25,[(.tmp 6),(.tmp 7)],b1178⟩
theorem c1178:C_ f108 ir1178:=(by kernel_rfl:_=_)
def b1156:AC:=(S_ (Z_ [
 o_ 2 (.mov (.const (.int .u64 0))),
 o_ 3 (Mb false)])
 (S_ (Z_ [
 m_ 6 0,
 o_ 7 (Ca 101 6),
 m_ 0 7])
 (S_ (S_ (Z_ [
 m_ 8 0,
 o_ 9 (Ls 8),
 o_ 10 (Bi .gtr 9 8)])
 (K_ 10 (S_ (Z_ [
 o_ 2 (.mov (.const (.int .u64 0))),
 o_ 3 (Mb false)])
 .ret) .skip))
 (S_ (Z_ [
 o_ 4 (.mov (.const (.int .u64 0)))])
 (S_ (S_ (Z_ [
 m_ 11 0,
 o_ 12 (Ls 11),
 o_ 13 (Mi 0)])
 (B_ 0 (W_ (S_ (Z_ [
 o_ 14 (Bt .lss 13 12)])
 (S_ (K_ 14 .skip (.exit 0))
 (S_ (B_ 1 (S_ (Z_ [
 m_ 15 13,
 m_ 5 15])
 (Z_ [
 m_ 16 4,
 m_ 17 0,
 m_ 18 5,
 o_ 19 (Ix 17 18),
 o_ 20 (Cq .u64 19),
 m_ 21 5,
 o_ 22 (.binI .mul .i64 (.const (.int .i64 8)) (t_ 21)),
 o_ 23 (.shf .shl .u64 (t_ 20) (t_ 22)),
 o_ 24 (.binI .or .u64 (t_ 16) (t_ 23)),
 m_ 4 24])))
 (Z_ [
 o_ 25 (Bi .add 13 1),
 m_ 13 25])))))))
 (S_ (Z_ [
 m_ 26 4,
 m_ 2 26,
 o_ 3 (Mb true)])
 .ret))))))
def ir1156:AF:=⟨27,[(.tmp 2),(.tmp 3)],b1156⟩
theorem c1156:C_ f109 ir1156:=(by kernel_rfl:_=_)
def b1159:AC:=(S_ (Z_ [
 o_ 4 (Mn),
 o_ 5 (.mov (.const (.int .u32 0)))])
 (S_ (R_ 1 [
 m_ 10 0,
 o_ 11 (Ll 10),
 o_ 12 (.mksl 0 1 4 [(.v (.int .u32 0))] (t_ 11) (t_ 11)),
 m_ 6 12])
 (S_ (Z_ [
 o_ 7 (.mov (.const (.int .u32 0)))])
 (S_ (S_ (Z_ [
 m_ 13 0,
 o_ 14 (Ll 13),
 o_ 15 (Mi 0)])
 (B_ 0 (W_ (S_ (Z_ [
 o_ 16 (Bt .lss 15 14)])
 (S_ (K_ 16 .skip (.exit 0))
 (S_ (B_ 1 (S_ (Z_ [
 m_ 17 15,
 m_ 8 17])
 (S_ (Z_ [
 m_ 18 0,
 o_ 19 (Ll 18),
 o_ 20 (Bi .sub 19 1),
 m_ 21 8,
 o_ 22 (Bt .sub 20 21),
 m_ 9 22])
 (Z_ [
 m_ 24 6,
 m_ 25 9,
 m_ 26 7,
 m_ 27 0,
 m_ 28 9,
 o_ 29 (Ia 1 27 28),
 o_ 30 (Lf 1 29),
 m_ 31 1,
 o_ 32 (Cc 143 26 30 31),
 m_ 23 32,
 o_ 33 (Xt 23 0),
 o_ 34 (Xt 23 1),
 o_ 35 (Ia 1 24 25),
 s_ (Sr 1 35 33),
 m_ 7 34]))))
 (Z_ [
 o_ 36 (Bi .add 15 1),
 m_ 15 36])))))))
 (S_ (Z_ [
 m_ 37 6,
 m_ 38 7,
 m_ 4 37,
 m_ 5 38])
 .ret)))))
def ir1159:AF:=⟨39,[(.tmp 4),(.tmp 5)],b1159⟩
theorem c1159:C_ f110 ir1159:=(by kernel_rfl:_=_)
def b1161_0:AC:=(Z_ [
 o_ 4 (Mn),
 o_ 5 (Mn)])
def b1161_1:AC:=(Z_ [
 m_ 15 1,
 m_ 16 1,
 o_ 17 (Ll 16),
 o_ 18 (Bi .sub 17 1),
 o_ 19 (Ia 1 15 18),
 o_ 20 (Lf 1 19),
 o_ 21 (Ca 144 20),
 m_ 6 21])
def b1161_2:AC:=(Z_ [
 m_ 22 1,
 m_ 23 6,
 o_ 24 (Cb 145 22 23),
 m_ 25 1,
 o_ 26 (Ll 25),
 o_ 27 (.slice 1 (t_ 24) none (some (t_ 26))),
 m_ 1 27])
def b1161_3:AC:=(Z_ [
 m_ 28 0,
 m_ 29 6,
 o_ 30 (Cb 145 28 29),
 m_ 0 30])
def b1161_4:AC:=(Z_ [
 m_ 31 1,
 o_ 32 (Ll 31),
 m_ 7 32])
def b1161_5:AC:=(Z_ [
 m_ 33 1,
 m_ 34 7,
 o_ 35 (Bi .sub 34 1),
 o_ 36 (Ia 1 33 35),
 o_ 37 (Lf 1 36),
 m_ 8 37])
def b1161_6:AC:=(R_ 1 [
 m_ 38 0,
 o_ 39 (Ll 38),
 m_ 40 7,
 o_ 41 (Bt .sub 39 40),
 o_ 42 (.maxmin true .i64 (t_ 41) (.const (.int .i64 0))),
 o_ 43 (.mksl 0 1 4 [(.v (.int .u32 0))] (t_ 42) (t_ 42)),
 m_ 9 43])
def b1161_7:AC:=(S_ (Z_ [
 m_ 44 9,
 o_ 45 (Ll 44),
 o_ 46 (Mi 0)])
 (B_ 0 (W_ (S_ (Z_ [
 o_ 47 (Bt .lss 46 45)])
 (S_ (K_ 47 .skip (.exit 0))
 (S_ (B_ 1 (S_ (Z_ [
 m_ 48 46,
 m_ 10 48])
 (S_ (Z_ [
 m_ 49 9,
 o_ 50 (Ll 49),
 o_ 51 (Bi .sub 50 1),
 m_ 52 10,
 o_ 53 (Bt .sub 51 52),
 m_ 11 53])
 (S_ (.dregion 0 [
 m_ 54 0,
 m_ 55 11,
 m_ 56 7,
 o_ 57 (Bt .add 55 56),
 o_ 58 (Ia 1 54 57),
 o_ 59 (Lf 1 58),
 o_ 60 (Cq .u64 59),
 o_ 61 (.shf .shl .u64 (t_ 60) (.const (.int .u64 32))),
 m_ 62 0,
 m_ 63 11,
 m_ 64 7,
 o_ 65 (Bt .add 63 64),
 o_ 66 (Bi .sub 65 1),
 o_ 67 (Ia 1 62 66),
 o_ 68 (Lf 1 67),
 o_ 69 (Cq .u64 68),
 o_ 70 (.binI .or .u64 (t_ 61) (t_ 69)),
 m_ 12 70] [[],[],[],[1,2],[0,3],[4],[5],[6],[],[],[],[9,10],[11],[8,12],[13],[14],[7,15],[16,0,1,2,3,4,5,6,7,8,9,10,11,12,13,14,15,16]])
 (S_ (.dregion 0 [
 m_ 71 12,
 m_ 72 8,
 o_ 73 (Cq .u64 72),
 o_ 74 (.binI .quo .u64 (t_ 71) (t_ 73)),
 m_ 75 12,
 m_ 76 8,
 o_ 77 (Cq .u64 76),
 o_ 78 (.binI .rem .u64 (t_ 75) (t_ 77)),
 m_ 13 74,
 m_ 14 78] [[],[],[1],[0,2],[],[],[5],[4,6],[3,0,1,2,3],[7,8,0,1,2,3,4,5,6,7,8]])
 (S_ (B_ 2 (W_ (S_ (S_ (.dregion 0 [
 m_ 79 13,
 o_ 80 (.binI .gtr .u64 (t_ 79) (.const (.int .u64 4294967295))),
 m_ 81 80,
 g_ 82 (Mv 13) 81 false,
 g_ 83 (Mv 1) 81 false,
 g_ 84 (Mv 7) 81 false,
 g_ 85 (Bi .sub 84 2) 81 false,
 g_ 86 (Ia 1 83 85) 81 false,
 g_ 87 (Lf 1 86) 81 false,
 g_ 88 (Cq .u64 87) 81 false,
 g_ 89 (.binI .mul .u64 (t_ 82) (t_ 88)) 81 false,
 g_ 90 (Mv 14) 81 false,
 g_ 91 (.shf .shl .u64 (t_ 90) (.const (.int .u64 32))) 81 false,
 g_ 92 (Mv 0) 81 false,
 g_ 93 (Mv 11) 81 false,
 g_ 94 (Mv 7) 81 false,
 g_ 95 (Bt .add 93 94) 81 false,
 g_ 96 (Bi .sub 95 2) 81 false,
 g_ 97 (Ia 1 92 96) 81 false,
 g_ 98 (Lf 1 97) 81 false,
 g_ 99 (Cq .u64 98) 81 false,
 g_ 100 (.binI .or .u64 (t_ 91) (t_ 99)) 81 false,
 g_ 101 (.binI .gtr .u64 (t_ 89) (t_ 100)) 81 false,
 o_ 102 (Pt 81 101)] [[],[0],[1],[2],[2],[2],[5,2],[4,6,2],[7,2],[8,2],[3,9,2],[2],[11,2],[2],[2],[2],[14,15,2],[16,2],[13,17,2],[18,2],[19,2],[12,20,2],[10,21,2],[2,22]])
 (K_ 102 .skip (.exit 2)))
 (B_ 3 (S_ (Z_ [
 m_ 103 13,
 o_ 104 (.binI .sub .u64 (t_ 103) (.const (.int .u64 1))),
 m_ 105 14,
 m_ 106 8,
 o_ 107 (Cq .u64 106),
 o_ 108 (.binI .add .u64 (t_ 105) (t_ 107)),
 m_ 13 104,
 m_ 14 108])
 (S_ (Z_ [
 m_ 109 14,
 o_ 110 (.binI .gtr .u64 (t_ 109) (.const (.int .u64 4294967295)))])
 (K_ 110 (.exit 2) .skip)))))))
 (S_ (S_ (Z_ [
 m_ 111 0,
 m_ 112 11,
 m_ 113 11,
 m_ 114 7,
 o_ 115 (Bt .add 113 114),
 o_ 116 (Bi .add 115 1),
 o_ 117 (.slice 1 (t_ 111) (some (t_ 112)) (some (t_ 116))),
 m_ 118 1,
 m_ 119 13,
 o_ 120 (Cq .u32 119),
 o_ 121 (Cc 146 117 118 120)])
 (K_ 121 (Z_ [
 m_ 122 13,
 o_ 123 (.binI .sub .u64 (t_ 122) (.const (.int .u64 1))),
 m_ 13 123]) .skip))
 (Z_ [
 m_ 124 9,
 m_ 125 11,
 m_ 126 13,
 o_ 127 (Cq .u32 126),
 o_ 128 (Ia 1 124 125),
 s_ (Sr 1 128 127)]))))))))
 (Z_ [
 o_ 129 (Bi .add 46 1),
 m_ 46 129])))))))
def b1161_8:AC:=(Z_ [
 m_ 130 9,
 m_ 131 0,
 m_ 132 7,
 o_ 133 (.slice 1 (t_ 131) none (some (t_ 132))),
 m_ 134 6,
 o_ 135 (Cb 147 133 134),
 m_ 4 130,
 m_ 5 135])
def b1161_9:AC:=.ret
def b1161:AC:=(S_ b1161_0 (S_ b1161_1 (S_ b1161_2 (S_ b1161_3 (S_ b1161_4 (S_ b1161_5 (S_ b1161_6 (S_ b1161_7 (S_ b1161_8 b1161_9)))))))))
def ir1161:AF:=⟨136,[(.tmp 4),(.tmp 5)],b1161⟩
theorem c1161:C_ f111 ir1161:=(by kernel_rfl:_=_)
def b77:AC:=(S_ (Z_ [
 m_ 10 1,
 o_ 11 (Bi .add 10 1),
 m_ 8 11])
 (B_ 0 (W_ (S_ (S_ (Z_ [
 m_ 12 8,
 m_ 13 2,
 o_ 14 (Bt .lss 12 13)])
 (K_ 14 .skip (.exit 0)))
 (S_ (B_ 1 (S_ (Z_ [
 m_ 17 8,
 m_ 9 17])
 (B_ 2 (W_ (S_ (S_ (.dregion 0 [
 m_ 18 9,
 m_ 19 1,
 o_ 20 (Bt .gtr 18 19),
 m_ 21 20,
 g_ 22 (Mv 3) 21 true,
 g_ 23 (Mv 0) 21 true,
 g_ 24 (Mv 9) 21 true,
 g_ 25 (Ia 8 23 24) 21 true,
 g_ 26 (Ld 8 25) 21 true,
 g_ 27 (Mv 0) 21 true,
 g_ 28 (Mv 9) 21 true,
 g_ 29 (Bi .sub 28 1) 21 true,
 g_ 30 (Ia 8 27 29) 21 true,
 g_ 31 (Ld 8 30) 21 true,
 g_ 32 (.callv (t_ 22) [(t_ 26),(t_ 31)]) 21 true,
 g_ 33 (Bi .lss 32 0) 21 true,
 o_ 34 (Pf 21 33)] [[],[],[0,1],[2],[3],[3],[3],[5,6,3],[7,3],[3],[3],[10,3],[9,11,3],[12,3],[4,8,13,3,3],[14,3],[3,15]])
 (K_ 34 .skip (.exit 2)))
 (S_ (B_ 3 (.dregion 0 [
 m_ 37 0,
 m_ 38 9,
 m_ 39 0,
 m_ 40 9,
 o_ 41 (Bi .sub 40 1),
 m_ 42 0,
 m_ 43 9,
 o_ 44 (Bi .sub 43 1),
 o_ 45 (Ia 8 42 44),
 o_ 46 (Ld 8 45),
 m_ 47 0,
 m_ 48 9,
 o_ 49 (Ia 8 47 48),
 o_ 50 (Ld 8 49),
 o_ 51 (Ia 8 37 38),
 s_ (Sr 8 51 46),
 o_ 52 (Ia 8 39 41),
 s_ (Sr 8 52 50)] [[],[],[],[],[3],[],[],[6],[5,7],[8],[],[],[10,11],[12],[0,1,0,1,5,6,7,8,9,13],[14,9,0,1,5,6,7,8,9,13],[2,4,0,1,2,3,4,5,6,7,8,9,10,11,12,13,14,15],[16,13,15,0,1,2,3,4,5,6,7,8,9,10,11,12,13,14,15]]))
 (Z_ [
 m_ 35 9,
 o_ 36 (Bi .sub 35 1),
 m_ 9 36])))))))
 (Z_ [
 m_ 15 8,
 o_ 16 (Bi .add 15 1),
 m_ 8 16]))))))
def ir77:AF:=⟨53,[],b77⟩
theorem c77:C_ f117 ir77:=(by kernel_rfl:_=_)
def b2127:AC:=(S_ (Z_ [
 o_ 2 (Mb false)])
 (S_ (Z_ [
 m_ 3 0,
 m_ 4 0,
 o_ 5 (.binS .neq (t_ 3) (t_ 4)),
 m_ 2 5])
 .ret))
def ir2127:AF:=⟨6,[(.tmp 2)],b2127⟩
theorem c2127:C_ f127 ir2127:=(by kernel_rfl:_=_)
def b65:AC:=(S_ (Z_ [
 o_ 2 (Mb false)])
 (S_ (Z_ [
 m_ 3 0,
 m_ 4 0,
 o_ 5 (Bt .neq 3 4),
 m_ 2 5])
 .ret))
def ir65:AF:=⟨6,[(.tmp 2)],b65⟩
theorem c65:C_ f128 ir65:=(by kernel_rfl:_=_)
def b64_0:AC:=(Z_ [
 o_ 6 (Mi 20)])
def b64_1:AC:=(Z_ [
 m_ 10 6,
 o_ 7 (Mi 0),
 m_ 8 10])
def b64_2:AC:=(B_ 0 (W_ (S_ (S_ (Z_ [
 m_ 11 8,
 m_ 12 1,
 o_ 13 (Bt .leq 11 12)])
 (K_ 13 .skip (.exit 0)))
 (B_ 1 (S_ (Z_ [
 m_ 14 0,
 m_ 15 7,
 m_ 16 8,
 m_ 17 2,
 o_ 18 (.call 117 [(t_ 14),(t_ 15),(t_ 16),(t_ 17)])])
 (S_ (Z_ [
 m_ 19 8,
 m_ 7 19])
 (Z_ [
 m_ 20 8,
 m_ 21 6,
 o_ 22 (Bt .add 20 21),
 m_ 8 22])))))))
def b64_3:AC:=(Z_ [
 m_ 23 0,
 m_ 24 7,
 m_ 25 1,
 m_ 26 2,
 o_ 27 (.call 117 [(t_ 23),(t_ 24),(t_ 25),(t_ 26)])])
def b64_4:AC:=(B_ 2 (W_ (S_ (S_ (Z_ [
 m_ 28 6,
 m_ 29 1,
 o_ 30 (Bt .lss 28 29)])
 (K_ 30 .skip (.exit 2)))
 (B_ 3 (S_ (Z_ [
 m_ 31 6,
 o_ 32 (.binI .mul .i64 (.const (.int .i64 2)) (t_ 31)),
 o_ 7 (Mi 0),
 m_ 8 32])
 (S_ (B_ 4 (W_ (S_ (S_ (Z_ [
 m_ 33 8,
 m_ 34 1,
 o_ 35 (Bt .leq 33 34)])
 (K_ 35 .skip (.exit 4)))
 (B_ 5 (S_ (Z_ [
 m_ 36 0,
 m_ 37 7,
 m_ 38 7,
 m_ 39 6,
 o_ 40 (Bt .add 38 39),
 m_ 41 8,
 m_ 42 2,
 o_ 43 (.call 154 [(t_ 36),(t_ 37),(t_ 40),(t_ 41),(t_ 42)])])
 (S_ (Z_ [
 m_ 44 8,
 m_ 7 44])
 (Z_ [
 m_ 45 8,
 m_ 46 6,
 o_ 47 (.binI .mul .i64 (.const (.int .i64 2)) (t_ 46)),
 o_ 48 (Bt .add 45 47),
 m_ 8 48])))))))
 (S_ (S_ (Z_ [
 m_ 49 7,
 m_ 50 6,
 o_ 51 (Bt .add 49 50),
 m_ 9 51])
 (S_ (Z_ [
 m_ 52 9,
 m_ 53 1,
 o_ 54 (Bt .lss 52 53)])
 (K_ 54 (Z_ [
 m_ 55 0,
 m_ 56 7,
 m_ 57 9,
 m_ 58 1,
 m_ 59 2,
 o_ 60 (.call 154 [(t_ 55),(t_ 56),(t_ 57),(t_ 58),(t_ 59)])]) .skip)))
 (Z_ [
 m_ 61 6,
 o_ 62 (Bi .mul 61 2),
 m_ 6 62]))))))))
def b64:AC:=(S_ b64_0 (S_ b64_1 (S_ b64_2 (S_ b64_3 b64_4))))
def ir64:AF:=⟨63,[],b64⟩
theorem c64:C_ f129 ir64:=(by kernel_rfl:_=_)
def b1114:AC:=(S_ (R_ 2 [
 o_ 1 (Bx 0 0),
 o_ 2 (.zero 1 [(.v (.bool false)),(.v (.string ⟨#[]⟩))])])
 (S_ (Z_ [
 o_ 3 (Fa 0 1),
 o_ 4 (Lf 1 3),
 o_ 5 (Fa 1 1),
 o_ 6 (Lf 1 5),
 o_ 7 (Cb 134 4 6),
 s_ (Sr 2 2 7)])
 .ret))
def ir1114:AF:=⟨8,[(.cell 2 true 2)],b1114⟩
theorem c1114:C_ f130 ir1114:=(by kernel_rfl:_=_)
def b1115:AC:=(S_ (R_ 1 [
 o_ 2 (.zero 0 [(.v (.bool false)),(.v (.string ⟨#[]⟩))])])
 (S_ (Z_ [
 o_ 3 (Me)])
 (S_ (S_ (Z_ [
 o_ 4 (Mi 0)])
 (B_ 0 (W_ (S_ (S_ (Z_ [
 m_ 5 4,
 m_ 6 0,
 o_ 7 (Ll 6),
 o_ 8 (Bt .lss 5 7)])
 (K_ 8 .skip (.exit 0)))
 (S_ (B_ 1 (Z_ [
 m_ 11 3,
 m_ 12 0,
 m_ 13 4,
 o_ 14 (Ia 2 12 13),
 o_ 15 (Fa 1 14),
 o_ 16 (Lf 1 15),
 o_ 17 (Cb 155 11 16),
 m_ 3 17]))
 (Z_ [
 m_ 9 4,
 o_ 10 (Bi .add 9 1),
 m_ 4 10]))))))
 (S_ (Z_ [
 m_ 18 3,
 o_ 19 (.call 134 [(.const (.bool false)),(t_ 18)]),
 s_ (Sr 2 2 19)])
 .ret))))
def ir1115:AF:=⟨20,[(.cell 2 true 2)],b1115⟩
theorem c1115:C_ f131 ir1115:=(by kernel_rfl:_=_)
def b1116_0:AC:=(R_ 4 [
 o_ 2 (Bx 0 0),
 o_ 3 (Bx 1 1),
 o_ 4 (.zero 2 [(.v (.bool false)),(.v (.string ⟨#[]⟩))]),
 o_ 5 (.zero 3 [(.v (.bool false)),(.v (.string ⟨#[]⟩))]),
 o_ 6 (Mb false)])
def b1116_1:AC:=(Z_ [
 o_ 13 (Fa 1 2),
 o_ 14 (Lf 1 13),
 o_ 15 (Fa 1 3),
 o_ 16 (Lf 1 15),
 o_ 17 (Cb 156 14 16),
 m_ 12 17,
 o_ 18 (Xt 12 0),
 o_ 19 (Xt 12 1),
 o_ 20 (Xt 12 2),
 m_ 7 18,
 m_ 8 19,
 m_ 9 20])
def b1116_2:AC:=(S_ (Z_ [
 m_ 21 9,
 o_ 22 (Nt 21)])
 (K_ 22 (S_ (Z_ [
 o_ 23 (.build [(.v (.bool false)),(.v (.string ⟨#[]⟩))] []),
 o_ 24 (.build [(.v (.bool false)),(.v (.string ⟨#[]⟩))] []),
 s_ (Sr 2 4 23),
 s_ (Sr 2 5 24),
 o_ 6 (Mb false)])
 .ret) .skip))
def b1116_3:AC:=(R_ 1 [
 o_ 25 (Fa 0 2),
 o_ 26 (Lf 1 25),
 m_ 27 8,
 o_ 28 (Cb 134 26 27),
 o_ 10 (.zero 0 [(.v (.bool false)),(.v (.string ⟨#[]⟩))]),
 s_ (Sr 2 10 28)])
def b1116_4:AC:=(R_ 1 [
 o_ 29 (Fa 0 2),
 o_ 30 (Lf 1 29),
 o_ 31 (Fa 0 3),
 o_ 32 (Lf 1 31),
 o_ 33 (.eqB true (t_ 30) (t_ 32)),
 m_ 34 7,
 o_ 35 (Cb 134 33 34),
 o_ 11 (.zero 0 [(.v (.bool false)),(.v (.string ⟨#[]⟩))]),
 s_ (Sr 2 11 35)])
def b1116_5:AC:=(S_ (Z_ [
 o_ 36 (Ld 2 10),
 o_ 37 (Ca 140 36),
 o_ 38 (Bi .lss 37 0)])
 (K_ 38 (S_ (.dregion 0 [
 o_ 39 (Ld 2 10),
 o_ 40 (Fa 1 3),
 o_ 41 (Lf 1 40),
 o_ 42 (.call 134 [(.const (.bool false)),(t_ 41)]),
 o_ 43 (Cb 96 39 42),
 s_ (Sr 2 10 43)] [[],[],[1],[2],[0,3,3],[4,4,0,1,2,3,4]])
 (S_ (Z_ [
 o_ 44 (Ld 2 3),
 o_ 45 (Ca 140 44),
 o_ 46 (Bi .gtr 45 0)])
 (K_ 46 (.dregion 0 [
 o_ 47 (Ld 2 11),
 o_ 48 (.call 93 [(.const (.int .i64 1))]),
 o_ 49 (Cb 157 47 48),
 s_ (Sr 2 11 49)] [[],[],[0,1,1],[2,2,0,1,2]]) (.dregion 0 [
 o_ 50 (Ld 2 11),
 o_ 51 (.call 93 [(.const (.int .i64 1))]),
 o_ 52 (Cb 96 50 51),
 s_ (Sr 2 11 52)] [[],[],[0,1,1],[2,2,0,1,2]])))) .skip))
def b1116_6:AC:=(.dregion 0 [
 o_ 53 (Ld 2 11),
 o_ 54 (Ld 2 10),
 s_ (Sr 2 4 53),
 s_ (Sr 2 5 54),
 o_ 6 (Mb true)] [[],[],[0,0],[1,2,0,1,2],[3,0,1,2,3]])
def b1116_7:AC:=.ret
def b1116:AC:=(S_ b1116_0 (S_ b1116_1 (S_ b1116_2 (S_ b1116_3 (S_ b1116_4 (S_ b1116_5 (S_ b1116_6 b1116_7)))))))
def ir1116:AF:=⟨55,[(.cell 4 true 2),(.cell 5 true 2),(.tmp 6)],b1116⟩
theorem c1116:C_ f132 ir1116:=(by kernel_rfl:_=_)
def b2133:AC:=(S_ (R_ 2 [
 o_ 1 (Bx 0 0),
 o_ 2 (.zero 1 [(.v (.bool false)),(.v (.string ⟨#[]⟩)),(.v (.string ⟨#[]⟩))])])
 (S_ (R_ 1 [
 o_ 4 (Ld 3 1),
 o_ 5 (Ca 32 4),
 o_ 3 (.zero 0 [(.v (.bool false)),(.v (.string ⟨#[]⟩))]),
 s_ (Sr 2 3 5)])
 (S_ (Z_ [
 o_ 6 (Fa 0 3),
 o_ 7 (Lf 1 6),
 o_ 8 (Fa 1 3),
 o_ 9 (Lf 1 8),
 o_ 10 (.build [(.v (.bool false)),(.v (.string ⟨#[]⟩)),(.v (.string ⟨#[]⟩))] [(0,(1,(t_ 7))),(1,(1,(t_ 9)))]),
 o_ 11 (Ca 54 10),
 s_ (Sr 3 2 11)])
 .ret)))
def ir2133:AF:=⟨12,[(.cell 2 true 3)],b2133⟩
theorem c2133:C_ f133 ir2133:=(by kernel_rfl:_=_)
def b1129:AC:=(S_ (R_ 1 [
 o_ 4 (.zero 0 [(.v (.bool false)),(.v (.string ⟨#[]⟩))])])
 (S_ (Z_ [
 m_ 6 1,
 o_ 7 (Ca 158 6),
 m_ 5 7])
 (S_ (Z_ [
 m_ 8 0,
 m_ 9 8,
 g_ 10 (Mv 5) 9 true,
 g_ 11 (.binS .neq (t_ 10) (.const (.string ⟨#[]⟩))) 9 true,
 o_ 12 (Pf 9 11),
 m_ 13 5,
 o_ 14 (.build [(.v (.bool false)),(.v (.string ⟨#[]⟩))] [(0,(1,(t_ 12))),(1,(1,(t_ 13)))]),
 s_ (Sr 2 4 14)])
 .ret)))
def ir1129:AF:=⟨15,[(.cell 4 true 2)],b1129⟩
theorem c1129:C_ f134 ir1129:=(by kernel_rfl:_=_)
def b1155:AC:=(S_ (Z_ [
 o_ 2 (Me)])
 (S_ (R_ 1 [
 o_ 4 (.bsl 0 1 [(.v (.int .u8 0))] 0 []),
 m_ 3 4])
 (S_ (B_ 0 (W_ (S_ (S_ (Z_ [
 m_ 5 0,
 o_ 6 (.binI .gtr .u64 (t_ 5) (.const (.int .u64 0)))])
 (K_ 6 .skip (.exit 0)))
 (B_ 1 (S_ (R_ 2 [
 m_ 7 3,
 m_ 8 0,
 o_ 9 (.binI .rem .u64 (t_ 8) (.const (.int .u64 256))),
 o_ 10 (Cq .u8 9),
 o_ 11 (.bsl 0 1 [(.v (.int .u8 0))] 1 [(0,(t_ 10))]),
 o_ 12 (Ap 1 1 1 7 11),
 m_ 3 12])
 (Z_ [
 m_ 13 0,
 o_ 14 (.binI .quo .u64 (t_ 13) (.const (.int .u64 256))),
 m_ 0 14]))))))
 (S_ (Z_ [
 m_ 15 3,
 o_ 16 (.str (t_ 15)),
 m_ 2 16])
 .ret))))
def ir1155:AF:=⟨17,[(.tmp 2)],b1155⟩
theorem c1155:C_ f135 ir1155:=(by kernel_rfl:_=_)
def b1154:AC:=(S_ (R_ 2 [
 o_ 1 (Bx 0 0),
 o_ 2 (.zero 1 [(.v (.bool false)),(.v (.string ⟨#[]⟩))])])
 (S_ (Z_ [
 o_ 3 (Fa 0 1),
 o_ 4 (Lf 1 3),
 o_ 5 (Nt 4),
 o_ 6 (Fa 1 1),
 o_ 7 (Lf 1 6),
 o_ 8 (Cb 134 5 7),
 s_ (Sr 2 2 8)])
 .ret))
def ir1154:AF:=⟨9,[(.cell 2 true 2)],b1154⟩
theorem c1154:C_ f136 ir1154:=(by kernel_rfl:_=_)
def b1153:AC:=(S_ (Z_ [
 o_ 4 (Me)])
 (S_ (R_ 1 [
 o_ 8 (.bsl 0 1 [(.v (.int .u8 0))] 0 []),
 m_ 5 8])
 (S_ (Z_ [
 o_ 6 (Mi 0)])
 (S_ (S_ (Z_ [
 o_ 7 (Mi 0)])
 (B_ 0 (W_ (S_ (S_ (Z_ [
 m_ 9 7,
 m_ 10 0,
 o_ 11 (Ls 10),
 o_ 12 (Bt .lss 9 11),
 m_ 13 12,
 g_ 14 (Mv 7) 13 false,
 g_ 15 (Mv 1) 13 false,
 g_ 16 (Ls 15) 13 false,
 g_ 17 (Bt .lss 14 16) 13 false,
 o_ 18 (Pt 13 17),
 m_ 19 18,
 g_ 20 (Mv 6) 19 false,
 g_ 21 (Bi .gtr 20 0) 19 false,
 o_ 22 (Pt 19 21)])
 (K_ 22 .skip (.exit 0)))
 (S_ (B_ 1 (S_ (Z_ [
 m_ 25 6,
 m_ 26 0,
 m_ 27 7,
 o_ 28 (Cb 159 26 27),
 m_ 29 1,
 m_ 30 7,
 o_ 31 (Cb 159 29 30),
 o_ 32 (Bt .add 28 31),
 o_ 33 (Bt .add 25 32),
 m_ 6 33])
 (S_ (R_ 2 [
 m_ 34 5,
 m_ 35 6,
 o_ 36 (Bi .rem 35 256),
 o_ 37 (Cq .u8 36),
 o_ 38 (.bsl 0 1 [(.v (.int .u8 0))] 1 [(0,(t_ 37))]),
 o_ 39 (Ap 1 1 1 34 38),
 m_ 5 39])
 (Z_ [
 m_ 40 6,
 o_ 41 (Bi .quo 40 256),
 m_ 6 41]))))
 (Z_ [
 m_ 23 7,
 o_ 24 (Bi .add 23 1),
 m_ 7 24]))))))
 (S_ (Z_ [
 m_ 42 5,
 o_ 43 (.str (t_ 42)),
 o_ 44 (Ca 158 43),
 m_ 4 44])
 .ret)))))
def ir1153:AF:=⟨45,[(.tmp 4)],b1153⟩
theorem c1153:C_ f137 ir1153:=(by kernel_rfl:_=_)
def b1152:AC:=(S_ (Z_ [
 o_ 4 (Me),
 o_ 5 (Mb false)])
 (S_ (S_ (Z_ [
 m_ 10 0,
 m_ 11 1,
 o_ 12 (Cb 160 10 11),
 o_ 13 (Bi .lss 12 0)])
 (K_ 13 (S_ (Z_ [
 o_ 4 (Me),
 o_ 5 (Mb false)])
 .ret) .skip))
 (S_ (R_ 1 [
 o_ 14 (.bsl 0 1 [(.v (.int .u8 0))] 0 []),
 m_ 6 14])
 (S_ (Z_ [
 o_ 7 (Mi 0)])
 (S_ (S_ (Z_ [
 o_ 8 (Mi 0)])
 (B_ 0 (W_ (S_ (S_ (Z_ [
 m_ 15 8,
 m_ 16 0,
 o_ 17 (Ls 16),
 o_ 18 (Bt .lss 15 17)])
 (K_ 18 .skip (.exit 0)))
 (S_ (B_ 1 (S_ (Z_ [
 m_ 21 0,
 m_ 22 8,
 o_ 23 (Cb 159 21 22),
 m_ 24 1,
 m_ 25 8,
 o_ 26 (Cb 159 24 25),
 o_ 27 (Bt .sub 23 26),
 m_ 28 7,
 o_ 29 (Bt .sub 27 28),
 m_ 9 29])
 (S_ (Z_ [
 o_ 7 (Mi 0)])
 (S_ (S_ (Z_ [
 m_ 30 9,
 o_ 31 (Bi .lss 30 0)])
 (K_ 31 (S_ (Z_ [
 m_ 32 9,
 o_ 33 (Bi .add 32 256),
 m_ 9 33])
 (Z_ [
 o_ 7 (Mi 1)])) .skip))
 (R_ 2 [
 m_ 34 6,
 m_ 35 9,
 o_ 36 (Cq .u8 35),
 o_ 37 (.bsl 0 1 [(.v (.int .u8 0))] 1 [(0,(t_ 36))]),
 o_ 38 (Ap 1 1 1 34 37),
 m_ 6 38])))))
 (Z_ [
 m_ 19 8,
 o_ 20 (Bi .add 19 1),
 m_ 8 20]))))))
 (S_ (Z_ [
 m_ 39 6,
 o_ 40 (.str (t_ 39)),
 o_ 41 (Ca 158 40),
 m_ 4 41,
 o_ 5 (Mb true)])
 .ret))))))
def ir1152:AF:=⟨42,[(.tmp 4),(.tmp 5)],b1152⟩
theorem c1152:C_ f138 ir1152:=(by kernel_rfl:_=_)
def b1168_0:AC:=(Z_ [
 o_ 4 (Me)])
def b1168_1:AC:=(R_ 1 [
 m_ 13 0,
 o_ 14 (Ls 13),
 m_ 15 1,
 o_ 16 (Ls 15),
 o_ 17 (Bt .add 14 16),
 o_ 18 (Bi .add 17 1),
 o_ 19 (.mksl 0 1 8 [(.v (.int .i64 0))] (t_ 18) (t_ 18)),
 m_ 5 19])
def b1168_2:AC:=(S_ (Z_ [
 o_ 6 (Mi 0)])
 (B_ 0 (W_ (S_ (S_ (Z_ [
 m_ 20 6,
 m_ 21 0,
 o_ 22 (Ls 21),
 o_ 23 (Bt .lss 20 22)])
 (K_ 23 .skip (.exit 0)))
 (S_ (B_ 1 (S_ (Z_ [
 o_ 7 (Mi 0)])
 (S_ (Z_ [
 o_ 8 (Mi 0)])
 (B_ 2 (W_ (S_ (S_ (Z_ [
 m_ 26 8,
 m_ 27 1,
 o_ 28 (Ls 27),
 o_ 29 (Bt .lss 26 28),
 m_ 30 29,
 g_ 31 (Mv 7) 30 false,
 g_ 32 (Bi .gtr 31 0) 30 false,
 o_ 33 (Pt 30 32)])
 (K_ 33 .skip (.exit 2)))
 (S_ (B_ 3 (S_ (.dregion 0 [
 m_ 36 5,
 m_ 37 6,
 m_ 38 8,
 o_ 39 (Bt .add 37 38),
 o_ 40 (Ia 1 36 39),
 o_ 41 (Lf 1 40),
 m_ 42 0,
 m_ 43 6,
 o_ 44 (Cb 159 42 43),
 m_ 45 1,
 m_ 46 8,
 o_ 47 (Cb 159 45 46),
 o_ 48 (Bt .mul 44 47),
 o_ 49 (Bt .add 41 48),
 m_ 50 7,
 o_ 51 (Bt .add 49 50),
 m_ 9 51] [[],[],[],[1,2],[0,3],[4],[],[],[6,7],[],[],[9,10,8],[8,11],[5,12],[],[13,14],[15,11,0,1,2,3,4,5,6,7,8,9,10,11,12,13,14,15]])
 (S_ (Z_ [
 m_ 52 5,
 m_ 53 6,
 m_ 54 8,
 o_ 55 (Bt .add 53 54),
 m_ 56 9,
 o_ 57 (Bi .rem 56 256),
 o_ 58 (Ia 1 52 55),
 s_ (Sr 1 58 57)])
 (Z_ [
 m_ 59 9,
 o_ 60 (Bi .quo 59 256),
 m_ 7 60]))))
 (Z_ [
 m_ 34 8,
 o_ 35 (Bi .add 34 1),
 m_ 8 35]))))))))
 (Z_ [
 m_ 24 6,
 o_ 25 (Bi .add 24 1),
 m_ 6 25]))))))
def b1168_3:AC:=(R_ 1 [
 o_ 61 (.bsl 0 1 [(.v (.int .u8 0))] 0 []),
 m_ 10 61])
def b1168_4:AC:=(S_ (Z_ [
 m_ 62 5,
 o_ 63 (Ll 62),
 o_ 64 (Mi 0)])
 (B_ 4 (W_ (S_ (Z_ [
 o_ 65 (Bt .lss 64 63)])
 (S_ (K_ 65 .skip (.exit 4))
 (S_ (B_ 5 (S_ (Z_ [
 o_ 66 (Ia 1 62 64),
 o_ 67 (Lf 1 66),
 m_ 12 67])
 (R_ 2 [
 m_ 68 10,
 m_ 69 12,
 o_ 70 (Cq .u8 69),
 o_ 71 (.bsl 0 1 [(.v (.int .u8 0))] 1 [(0,(t_ 70))]),
 o_ 72 (Ap 1 1 1 68 71),
 m_ 10 72])))
 (Z_ [
 o_ 73 (Bi .add 64 1),
 m_ 64 73])))))))
def b1168_5:AC:=(Z_ [
 m_ 74 10,
 o_ 75 (.str (t_ 74)),
 o_ 76 (Ca 158 75),
 m_ 4 76])
def b1168_6:AC:=.ret
def b1168:AC:=(S_ b1168_0 (S_ b1168_1 (S_ b1168_2 (S_ b1168_3 (S_ b1168_4 (S_ b1168_5 b1168_6))))))
def ir1168:AF:=⟨77,[(.tmp 4)],b1168⟩
theorem c1168:C_ f139 ir1168:=(by kernel_rfl:_=_)
def b1132:AC:=(S_ (R_ 1 [
 o_ 1 (Bx 0 0),
 o_ 2 (Mi 0)])
 (S_ (S_ (Z_ [
 o_ 3 (Fa 1 1),
 o_ 4 (Lf 1 3),
 o_ 5 (Ca 158 4),
 o_ 6 (.binS .eql (t_ 5) (.const (.string ⟨#[]⟩)))])
 (K_ 6 (S_ (Z_ [
 o_ 2 (Mi 0)])
 .ret) .skip))
 (S_ (S_ (Z_ [
 o_ 7 (Fa 0 1),
 o_ 8 (Lf 1 7)])
 (K_ 8 (S_ (Z_ [
 o_ 2 (Mi (-1))])
 .ret) .skip))
 (S_ (Z_ [
 o_ 2 (Mi 1)])
 .ret))))
def ir1132:AF:=⟨9,[(.tmp 2)],b1132⟩
theorem c1132:C_ f140 ir1132:=(by kernel_rfl:_=_)
def b2141:AC:=(S_ (R_ 3 [
 o_ 1 (Bx 0 0),
 o_ 2 (.zero 1 [(.v (.bool false)),(.v (.string ⟨#[]⟩))]),
 o_ 3 (.zero 2 [(.v (.bool false)),(.v (.string ⟨#[]⟩))])])
 (S_ (R_ 1 [
 o_ 5 (Ld 3 1),
 o_ 6 (Ca 50 5),
 o_ 4 (.zero 0 [(.v (.bool false)),(.v (.string ⟨#[]⟩)),(.v (.string ⟨#[]⟩))]),
 s_ (Sr 3 4 6)])
 (S_ (.dregion 0 [
 o_ 7 (Ld 3 4),
 o_ 8 (Ca 90 7),
 o_ 9 (Ld 3 4),
 o_ 10 (Ca 91 9),
 s_ (Sr 2 2 8),
 s_ (Sr 2 3 10)] [[],[0],[],[2,1],[1,3,0,1],[3,4,0,1,2,3,4]])
 .ret)))
def ir2141:AF:=⟨11,[(.cell 2 true 2),(.cell 3 true 2)],b2141⟩
theorem c2141:C_ f141 ir2141:=(by kernel_rfl:_=_)
def b1172:AC:=(S_ (Z_ [
 o_ 4 (Mn)])
 (S_ (R_ 1 [
 m_ 9 0,
 o_ 10 (Ll 9),
 o_ 11 (Bi .add 10 1),
 o_ 12 (.mksl 0 1 4 [(.v (.int .u32 0))] (t_ 11) (t_ 11)),
 m_ 5 12])
 (S_ (S_ (Z_ [
 m_ 13 0,
 o_ 14 (Ll 13),
 o_ 15 (Mi 0)])
 (B_ 0 (W_ (S_ (Z_ [
 o_ 16 (Bt .lss 15 14)])
 (S_ (K_ 16 .skip (.exit 0))
 (S_ (B_ 1 (S_ (Z_ [
 m_ 17 15,
 o_ 18 (Ia 1 13 15),
 o_ 19 (Lf 1 18),
 m_ 6 17,
 m_ 7 19])
 (S_ (Z_ [
 m_ 20 7,
 o_ 21 (Cq .u64 20),
 m_ 22 1,
 o_ 23 (.shf .shl .u64 (t_ 21) (t_ 22)),
 m_ 8 23])
 (S_ (Z_ [
 m_ 24 5,
 m_ 25 6,
 o_ 26 (Ia 1 24 25),
 o_ 27 (Lf 1 26),
 m_ 28 8,
 o_ 29 (Cq .u32 28),
 o_ 30 (.binI .or .u32 (t_ 27) (t_ 29)),
 o_ 31 (Ia 1 24 25),
 s_ (Sr 1 31 30)])
 (Z_ [
 m_ 32 5,
 m_ 33 6,
 o_ 34 (Bi .add 33 1),
 m_ 35 8,
 o_ 36 (.shf .shr .u64 (t_ 35) (.const (.int .u64 32))),
 o_ 37 (Cq .u32 36),
 o_ 38 (Ia 1 32 34),
 s_ (Sr 1 38 37)])))))
 (Z_ [
 o_ 39 (Bi .add 15 1),
 m_ 15 39])))))))
 (S_ (Z_ [
 m_ 40 5,
 m_ 4 40])
 .ret))))
def ir1172:AF:=⟨41,[(.tmp 4)],b1172⟩
theorem c1172:C_ f145 ir1172:=(by kernel_rfl:_=_)
def b1173_0:AC:=(Z_ [
 o_ 6 (Mb false)])
def b1173_1:AC:=(Z_ [
 o_ 7 (.mov (.const (.int .u64 0))),
 o_ 8 (.mov (.const (.int .u32 0)))])
def b1173_2:AC:=(S_ (Z_ [
 m_ 15 1,
 o_ 16 (Ll 15),
 o_ 17 (Mi 0)])
 (B_ 0 (W_ (S_ (Z_ [
 o_ 18 (Bt .lss 17 16)])
 (S_ (K_ 18 .skip (.exit 0))
 (S_ (B_ 1 (S_ (Z_ [
 m_ 19 17,
 o_ 20 (Ia 1 15 17),
 o_ 21 (Lf 1 20),
 m_ 9 19,
 m_ 10 21])
 (S_ (Z_ [
 m_ 22 10,
 o_ 23 (Cq .u64 22),
 m_ 24 2,
 o_ 25 (Cq .u64 24),
 o_ 26 (.binI .mul .u64 (t_ 23) (t_ 25)),
 m_ 27 7,
 o_ 28 (.binI .add .u64 (t_ 26) (t_ 27)),
 m_ 11 28])
 (S_ (Z_ [
 m_ 29 11,
 o_ 30 (.shf .shr .u64 (t_ 29) (.const (.int .u64 32))),
 m_ 7 30])
 (Z_ [
 m_ 32 0,
 m_ 33 9,
 m_ 34 0,
 m_ 35 9,
 o_ 36 (Ia 1 34 35),
 o_ 37 (Lf 1 36),
 m_ 38 11,
 o_ 39 (Cq .u32 38),
 m_ 40 8,
 o_ 41 (Cc 108 37 39 40),
 m_ 31 41,
 o_ 42 (Xt 31 0),
 o_ 43 (Xt 31 1),
 o_ 44 (Ia 1 32 33),
 s_ (Sr 1 44 42),
 m_ 8 43])))))
 (Z_ [
 o_ 45 (Bi .add 17 1),
 m_ 17 45])))))))
def b1173_3:AC:=(Z_ [
 m_ 47 0,
 m_ 48 1,
 o_ 49 (Ll 48),
 m_ 50 0,
 m_ 51 1,
 o_ 52 (Ll 51),
 o_ 53 (Ia 1 50 52),
 o_ 54 (Lf 1 53),
 m_ 55 7,
 o_ 56 (Cq .u32 55),
 m_ 57 8,
 o_ 58 (Cc 108 54 56 57),
 m_ 46 58,
 o_ 59 (Xt 46 0),
 o_ 60 (Xt 46 1),
 o_ 61 (Ia 1 47 49),
 s_ (Sr 1 61 59),
 m_ 8 60])
def b1173_4:AC:=(S_ (Z_ [
 m_ 62 8,
 o_ 63 (.binI .eql .u32 (t_ 62) (.const (.int .u32 0)))])
 (K_ 63 (S_ (Z_ [
 o_ 6 (Mb false)])
 .ret) .skip))
def b1173_5:AC:=(Z_ [
 o_ 12 (.mov (.const (.int .u32 0)))])
def b1173_6:AC:=(S_ (Z_ [
 m_ 64 1,
 o_ 65 (Ll 64),
 o_ 66 (Mi 0)])
 (B_ 2 (W_ (S_ (Z_ [
 o_ 67 (Bt .lss 66 65)])
 (S_ (K_ 67 .skip (.exit 2))
 (S_ (B_ 3 (S_ (Z_ [
 m_ 68 66,
 o_ 69 (Ia 1 64 66),
 o_ 70 (Lf 1 69),
 m_ 13 68,
 m_ 14 70])
 (Z_ [
 m_ 72 0,
 m_ 73 13,
 m_ 74 0,
 m_ 75 13,
 o_ 76 (Ia 1 74 75),
 o_ 77 (Lf 1 76),
 m_ 78 14,
 m_ 79 12,
 o_ 80 (Cc 105 77 78 79),
 m_ 71 80,
 o_ 81 (Xt 71 0),
 o_ 82 (Xt 71 1),
 o_ 83 (Ia 1 72 73),
 s_ (Sr 1 83 81),
 m_ 12 82])))
 (Z_ [
 o_ 84 (Bi .add 66 1),
 m_ 66 84])))))))
def b1173_7:AC:=(Z_ [
 m_ 85 0,
 m_ 86 1,
 o_ 87 (Ll 86),
 o_ 88 (Ia 1 85 87),
 o_ 89 (Lf 1 88),
 m_ 90 12,
 o_ 91 (.binI .add .u32 (t_ 89) (t_ 90)),
 o_ 92 (Ia 1 85 87),
 s_ (Sr 1 92 91)])
def b1173_8:AC:=(Z_ [
 o_ 6 (Mb true)])
def b1173_9:AC:=.ret
def b1173:AC:=(S_ b1173_0 (S_ b1173_1 (S_ b1173_2 (S_ b1173_3 (S_ b1173_4 (S_ b1173_5 (S_ b1173_6 (S_ b1173_7 (S_ b1173_8 b1173_9)))))))))
def ir1173:AF:=⟨93,[(.tmp 6)],b1173⟩
theorem c1173:C_ f146 ir1173:=(by kernel_rfl:_=_)
def b1174:AC:=(S_ (Z_ [
 o_ 4 (Mn)])
 (S_ (R_ 1 [
 m_ 8 0,
 o_ 9 (Ll 8),
 o_ 10 (.mksl 0 1 4 [(.v (.int .u32 0))] (t_ 9) (t_ 9)),
 m_ 5 10])
 (S_ (S_ (Z_ [
 m_ 11 0,
 o_ 12 (Ll 11),
 o_ 13 (Mi 0)])
 (B_ 0 (W_ (S_ (Z_ [
 o_ 14 (Bt .lss 13 12)])
 (S_ (K_ 14 .skip (.exit 0))
 (S_ (B_ 1 (S_ (Z_ [
 m_ 15 13,
 m_ 6 15])
 (S_ (Z_ [
 m_ 16 0,
 m_ 17 6,
 o_ 18 (Ia 1 16 17),
 o_ 19 (Lf 1 18),
 o_ 20 (Cq .u64 19),
 m_ 7 20])
 (S_ (S_ (Z_ [
 m_ 21 6,
 o_ 22 (Bi .add 21 1),
 m_ 23 0,
 o_ 24 (Ll 23),
 o_ 25 (Bt .lss 22 24)])
 (K_ 25 (Z_ [
 m_ 26 7,
 m_ 27 0,
 m_ 28 6,
 o_ 29 (Bi .add 28 1),
 o_ 30 (Ia 1 27 29),
 o_ 31 (Lf 1 30),
 o_ 32 (Cq .u64 31),
 o_ 33 (.shf .shl .u64 (t_ 32) (.const (.int .u64 32))),
 o_ 34 (.binI .or .u64 (t_ 26) (t_ 33)),
 m_ 7 34]) .skip))
 (Z_ [
 m_ 35 5,
 m_ 36 6,
 m_ 37 7,
 m_ 38 1,
 o_ 39 (.shf .shr .u64 (t_ 37) (t_ 38)),
 o_ 40 (Cq .u32 39),
 o_ 41 (Ia 1 35 36),
 s_ (Sr 1 41 40)])))))
 (Z_ [
 o_ 42 (Bi .add 13 1),
 m_ 13 42])))))))
 (S_ (Z_ [
 m_ 43 5,
 m_ 4 43])
 .ret))))
def ir1174:AF:=⟨44,[(.tmp 4)],b1174⟩
theorem c1174:C_ f147 ir1174:=(by kernel_rfl:_=_)
def b78_0:AC:=(S_ (Z_ [
 m_ 25 2,
 m_ 26 1,
 o_ 27 (Bt .sub 25 26),
 o_ 28 (Bi .eql 27 1)])
 (K_ 28 (S_ (Z_ [
 m_ 29 2,
 m_ 10 29])
 (S_ (Z_ [
 m_ 30 3,
 m_ 11 30])
 (S_ (B_ 0 (W_ (S_ (S_ (Z_ [
 m_ 31 10,
 m_ 32 11,
 o_ 33 (Bt .lss 31 32)])
 (K_ 33 .skip (.exit 0)))
 (B_ 1 (S_ (Z_ [
 m_ 34 10,
 m_ 35 11,
 o_ 36 (Bt .add 34 35),
 o_ 37 (Cq .u64 36),
 o_ 38 (.shf .shr .u64 (t_ 37) (.const (.int .u64 1))),
 o_ 39 (Cq .i64 38),
 m_ 12 39])
 (S_ (.dregion 0 [
 m_ 40 4,
 m_ 41 0,
 m_ 42 12,
 o_ 43 (Ia 8 41 42),
 o_ 44 (Ld 8 43),
 m_ 45 0,
 m_ 46 1,
 o_ 47 (Ia 8 45 46),
 o_ 48 (Ld 8 47),
 o_ 49 (.callv (t_ 40) [(t_ 44),(t_ 48)]),
 o_ 50 (Bi .lss 49 0)] [[],[],[],[1,2],[3],[],[],[5,6],[7],[0,4,8],[9]])
 (K_ 50 (Z_ [
 m_ 51 12,
 o_ 52 (Bi .add 51 1),
 m_ 10 52]) (Z_ [
 m_ 53 12,
 m_ 11 53]))))))))
 (S_ (S_ (Z_ [
 m_ 54 1,
 m_ 13 54])
 (B_ 2 (W_ (S_ (S_ (Z_ [
 m_ 55 13,
 m_ 56 10,
 o_ 57 (Bi .sub 56 1),
 o_ 58 (Bt .lss 55 57)])
 (K_ 58 .skip (.exit 2)))
 (S_ (B_ 3 (.dregion 0 [
 m_ 61 0,
 m_ 62 13,
 m_ 63 0,
 m_ 64 13,
 o_ 65 (Bi .add 64 1),
 m_ 66 0,
 m_ 67 13,
 o_ 68 (Bi .add 67 1),
 o_ 69 (Ia 8 66 68),
 o_ 70 (Ld 8 69),
 m_ 71 0,
 m_ 72 13,
 o_ 73 (Ia 8 71 72),
 o_ 74 (Ld 8 73),
 o_ 75 (Ia 8 61 62),
 s_ (Sr 8 75 70),
 o_ 76 (Ia 8 63 65),
 s_ (Sr 8 76 74)] [[],[],[],[],[3],[],[],[6],[5,7],[8],[],[],[10,11],[12],[0,1,0,1,5,6,7,8,9,13],[14,9,0,1,5,6,7,8,9,13],[2,4,0,1,2,3,4,5,6,7,8,9,10,11,12,13,14,15],[16,13,15,0,1,2,3,4,5,6,7,8,9,10,11,12,13,14,15]]))
 (Z_ [
 m_ 59 13,
 o_ 60 (Bi .add 59 1),
 m_ 13 60]))))))
 .ret)))) .skip))
def b78_1:AC:=(S_ (Z_ [
 m_ 77 3,
 m_ 78 2,
 o_ 79 (Bt .sub 77 78),
 o_ 80 (Bi .eql 79 1)])
 (K_ 80 (S_ (Z_ [
 m_ 81 1,
 m_ 14 81])
 (S_ (Z_ [
 m_ 82 2,
 m_ 15 82])
 (S_ (B_ 4 (W_ (S_ (S_ (Z_ [
 m_ 83 14,
 m_ 84 15,
 o_ 85 (Bt .lss 83 84)])
 (K_ 85 .skip (.exit 4)))
 (B_ 5 (S_ (Z_ [
 m_ 86 14,
 m_ 87 15,
 o_ 88 (Bt .add 86 87),
 o_ 89 (Cq .u64 88),
 o_ 90 (.shf .shr .u64 (t_ 89) (.const (.int .u64 1))),
 o_ 91 (Cq .i64 90),
 m_ 16 91])
 (S_ (.dregion 0 [
 m_ 92 4,
 m_ 93 0,
 m_ 94 2,
 o_ 95 (Ia 8 93 94),
 o_ 96 (Ld 8 95),
 m_ 97 0,
 m_ 98 16,
 o_ 99 (Ia 8 97 98),
 o_ 100 (Ld 8 99),
 o_ 101 (.callv (t_ 92) [(t_ 96),(t_ 100)]),
 o_ 102 (Bi .lss 101 0),
 o_ 103 (Nt 102)] [[],[],[],[1,2],[3],[],[],[5,6],[7],[0,4,8],[9],[10]])
 (K_ 103 (Z_ [
 m_ 104 16,
 o_ 105 (Bi .add 104 1),
 m_ 14 105]) (Z_ [
 m_ 106 16,
 m_ 15 106]))))))))
 (S_ (S_ (Z_ [
 m_ 107 2,
 m_ 17 107])
 (B_ 6 (W_ (S_ (S_ (Z_ [
 m_ 108 17,
 m_ 109 14,
 o_ 110 (Bt .gtr 108 109)])
 (K_ 110 .skip (.exit 6)))
 (S_ (B_ 7 (.dregion 0 [
 m_ 113 0,
 m_ 114 17,
 m_ 115 0,
 m_ 116 17,
 o_ 117 (Bi .sub 116 1),
 m_ 118 0,
 m_ 119 17,
 o_ 120 (Bi .sub 119 1),
 o_ 121 (Ia 8 118 120),
 o_ 122 (Ld 8 121),
 m_ 123 0,
 m_ 124 17,
 o_ 125 (Ia 8 123 124),
 o_ 126 (Ld 8 125),
 o_ 127 (Ia 8 113 114),
 s_ (Sr 8 127 122),
 o_ 128 (Ia 8 115 117),
 s_ (Sr 8 128 126)] [[],[],[],[],[3],[],[],[6],[5,7],[8],[],[],[10,11],[12],[0,1,0,1,5,6,7,8,9,13],[14,9,0,1,5,6,7,8,9,13],[2,4,0,1,2,3,4,5,6,7,8,9,10,11,12,13,14,15],[16,13,15,0,1,2,3,4,5,6,7,8,9,10,11,12,13,14,15]]))
 (Z_ [
 m_ 111 17,
 o_ 112 (Bi .sub 111 1),
 m_ 17 112]))))))
 .ret)))) .skip))
def b78_2:AC:=(Z_ [
 m_ 129 1,
 m_ 130 3,
 o_ 131 (Bt .add 129 130),
 o_ 132 (Cq .u64 131),
 o_ 133 (.shf .shr .u64 (t_ 132) (.const (.int .u64 1))),
 o_ 134 (Cq .i64 133),
 m_ 18 134])
def b78_3:AC:=(Z_ [
 m_ 135 18,
 m_ 136 2,
 o_ 137 (Bt .add 135 136),
 m_ 19 137])
def b78_4:AC:=(Z_ [
 o_ 20 (Mi 0),
 o_ 21 (Mi 0)])
def b78_5:AC:=(S_ (Z_ [
 m_ 138 2,
 m_ 139 18,
 o_ 140 (Bt .gtr 138 139)])
 (K_ 140 (S_ (Z_ [
 m_ 141 19,
 m_ 142 3,
 o_ 143 (Bt .sub 141 142),
 m_ 20 143])
 (Z_ [
 m_ 144 18,
 m_ 21 144])) (S_ (Z_ [
 m_ 145 1,
 m_ 20 145])
 (Z_ [
 m_ 146 2,
 m_ 21 146]))))
def b78_6:AC:=(Z_ [
 m_ 147 19,
 o_ 148 (Bi .sub 147 1),
 m_ 22 148])
def b78_7:AC:=(B_ 8 (W_ (S_ (S_ (Z_ [
 m_ 149 20,
 m_ 150 21,
 o_ 151 (Bt .lss 149 150)])
 (K_ 151 .skip (.exit 8)))
 (B_ 9 (S_ (Z_ [
 m_ 152 20,
 m_ 153 21,
 o_ 154 (Bt .add 152 153),
 o_ 155 (Cq .u64 154),
 o_ 156 (.shf .shr .u64 (t_ 155) (.const (.int .u64 1))),
 o_ 157 (Cq .i64 156),
 m_ 23 157])
 (S_ (.dregion 0 [
 m_ 158 4,
 m_ 159 0,
 m_ 160 22,
 m_ 161 23,
 o_ 162 (Bt .sub 160 161),
 o_ 163 (Ia 8 159 162),
 o_ 164 (Ld 8 163),
 m_ 165 0,
 m_ 166 23,
 o_ 167 (Ia 8 165 166),
 o_ 168 (Ld 8 167),
 o_ 169 (.callv (t_ 158) [(t_ 164),(t_ 168)]),
 o_ 170 (Bi .lss 169 0),
 o_ 171 (Nt 170)] [[],[],[],[],[2,3],[1,4],[5],[],[],[7,8],[9],[0,6,10],[11],[12]])
 (K_ 171 (Z_ [
 m_ 172 23,
 o_ 173 (Bi .add 172 1),
 m_ 20 173]) (Z_ [
 m_ 174 23,
 m_ 21 174]))))))))
def b78_8:AC:=(Z_ [
 m_ 175 19,
 m_ 176 20,
 o_ 177 (Bt .sub 175 176),
 m_ 24 177])
def b78_9:AC:=(S_ (Z_ [
 m_ 178 20,
 m_ 179 2,
 o_ 180 (Bt .lss 178 179),
 m_ 181 180,
 g_ 182 (Mv 2) 181 true,
 g_ 183 (Mv 24) 181 true,
 g_ 184 (Bt .lss 182 183) 181 true,
 o_ 185 (Pf 181 184)])
 (K_ 185 (Z_ [
 m_ 186 0,
 m_ 187 20,
 m_ 188 2,
 m_ 189 24,
 m_ 190 4,
 o_ 191 (.call 166 [(t_ 186),(t_ 187),(t_ 188),(t_ 189),(t_ 190)])]) .skip))
def b78_10:AC:=(S_ (Z_ [
 m_ 192 1,
 m_ 193 20,
 o_ 194 (Bt .lss 192 193),
 m_ 195 194,
 g_ 196 (Mv 20) 195 true,
 g_ 197 (Mv 18) 195 true,
 g_ 198 (Bt .lss 196 197) 195 true,
 o_ 199 (Pf 195 198)])
 (K_ 199 (Z_ [
 m_ 200 0,
 m_ 201 1,
 m_ 202 20,
 m_ 203 18,
 m_ 204 4,
 o_ 205 (.call 154 [(t_ 200),(t_ 201),(t_ 202),(t_ 203),(t_ 204)])]) .skip))
def b78_11:AC:=(Z_ [
 m_ 206 18,
 m_ 207 24,
 o_ 208 (Bt .lss 206 207),
 m_ 209 208,
 g_ 210 (Mv 24) 209 true,
 g_ 211 (Mv 3) 209 true,
 g_ 212 (Bt .lss 210 211) 209 true,
 o_ 213 (Pf 209 212)])
def b78_12:AC:=(K_ 213 (Z_ [
 m_ 214 0,
 m_ 215 18,
 m_ 216 24,
 m_ 217 3,
 m_ 218 4,
 o_ 219 (.call 154 [(t_ 214),(t_ 215),(t_ 216),(t_ 217),(t_ 218)])]) .skip)
def b78:AC:=(S_ b78_0 (S_ b78_1 (S_ b78_2 (S_ b78_3 (S_ b78_4 (S_ b78_5 (S_ b78_6 (S_ b78_7 (S_ b78_8 (S_ b78_9 (S_ b78_10 (S_ b78_11 b78_12))))))))))))
def ir78:AF:=⟨220,[],b78⟩
theorem c78:C_ f154 ir78:=(by kernel_rfl:_=_)
def b1130:AC:=(S_ (Z_ [
 o_ 4 (Me)])
 (S_ (Z_ [
 m_ 10 0,
 o_ 11 (Ca 158 10),
 m_ 12 1,
 o_ 13 (Ca 158 12),
 m_ 5 11,
 m_ 6 13])
 (S_ (B_ 0 (W_ (S_ (S_ (Z_ [
 m_ 14 6,
 o_ 15 (.binS .neq (t_ 14) (.const (.string ⟨#[]⟩)))])
 (K_ 15 .skip (.exit 0)))
 (B_ 1 (S_ (Z_ [
 m_ 17 5,
 m_ 18 6,
 o_ 19 (Cb 156 17 18),
 m_ 16 19,
 o_ 20 (Xt 16 0),
 o_ 21 (Xt 16 1),
 o_ 22 (Xt 16 2),
 m_ 7 20,
 m_ 8 21,
 m_ 9 22])
 (S_ (Z_ [
 m_ 23 6,
 m_ 5 23])
 (Z_ [
 m_ 24 8,
 m_ 6 24])))))))
 (S_ (Z_ [
 m_ 25 5,
 m_ 4 25])
 .ret))))
def ir1130:AF:=⟨26,[(.tmp 4)],b1130⟩
theorem c1130:C_ f155 ir1130:=(by kernel_rfl:_=_)
def b1131_0:AC:=(Z_ [
 o_ 4 (Me),
 o_ 5 (Me),
 o_ 6 (Mb false)])
def b1131_1:AC:=(S_ (Z_ [
 m_ 13 1,
 o_ 14 (Ca 158 13),
 o_ 15 (.binS .eql (t_ 14) (.const (.string ⟨#[]⟩)))])
 (K_ 15 (S_ (Z_ [
 o_ 4 (Me),
 o_ 5 (Me),
 o_ 6 (Mb false)])
 .ret) .skip))
def b1131_2:AC:=(R_ 1 [
 m_ 16 0,
 o_ 17 (Ls 16),
 o_ 18 (.mksl 0 1 1 [(.v (.int .u8 0))] (t_ 17) (t_ 17)),
 m_ 7 18])
def b1131_3:AC:=(Z_ [
 o_ 8 (Me)])
def b1131_4:AC:=(S_ (Z_ [
 m_ 19 0,
 o_ 20 (Ls 19),
 o_ 21 (Bi .sub 20 1),
 m_ 9 21])
 (B_ 0 (W_ (S_ (S_ (Z_ [
 m_ 22 9,
 o_ 23 (Bi .geq 22 0)])
 (K_ 23 .skip (.exit 0)))
 (S_ (B_ 1 (S_ (Z_ [
 m_ 26 0,
 m_ 27 9,
 m_ 28 9,
 o_ 29 (Bi .add 28 1),
 o_ 30 (.sliceS (t_ 26) (some (t_ 27)) (some (t_ 29))),
 m_ 31 8,
 o_ 32 (.binS .add (t_ 30) (t_ 31)),
 o_ 33 (Ca 158 32),
 m_ 8 33])
 (S_ (Z_ [
 o_ 10 (Mi 0)])
 (S_ (Z_ [
 o_ 11 (Mi 255)])
 (S_ (B_ 2 (W_ (S_ (S_ (Z_ [
 m_ 34 10,
 m_ 35 11,
 o_ 36 (Bt .lss 34 35)])
 (K_ 36 .skip (.exit 2)))
 (B_ 3 (S_ (Z_ [
 m_ 37 10,
 m_ 38 11,
 o_ 39 (Bt .add 37 38),
 o_ 40 (Bi .add 39 1),
 o_ 41 (Bi .quo 40 2),
 m_ 12 41])
 (S_ (Z_ [
 m_ 42 1,
 m_ 43 12,
 o_ 44 (Cb 167 42 43),
 m_ 45 8,
 o_ 46 (Cb 160 44 45),
 o_ 47 (Bi .leq 46 0)])
 (K_ 47 (Z_ [
 m_ 48 12,
 m_ 10 48]) (Z_ [
 m_ 49 12,
 o_ 50 (Bi .sub 49 1),
 m_ 11 50]))))))))
 (S_ (Z_ [
 m_ 52 8,
 m_ 53 1,
 m_ 54 10,
 o_ 55 (Cb 167 53 54),
 o_ 56 (Cb 138 52 55),
 m_ 51 56,
 o_ 57 (Xt 51 0),
 o_ 58 (Xt 51 1),
 m_ 8 57])
 (Z_ [
 m_ 59 7,
 m_ 60 9,
 m_ 61 10,
 o_ 62 (Cq .u8 61),
 o_ 63 (Ia 1 59 60),
 s_ (Sr 1 63 62)])))))))
 (Z_ [
 m_ 24 9,
 o_ 25 (Bi .sub 24 1),
 m_ 9 25]))))))
def b1131_5:AC:=(Z_ [
 m_ 64 7,
 o_ 65 (.str (t_ 64)),
 o_ 66 (Ca 158 65),
 m_ 67 8,
 m_ 4 66,
 m_ 5 67,
 o_ 6 (Mb true)])
def b1131_6:AC:=.ret
def b1131:AC:=(S_ b1131_0 (S_ b1131_1 (S_ b1131_2 (S_ b1131_3 (S_ b1131_4 (S_ b1131_5 b1131_6))))))
def ir1131:AF:=⟨68,[(.tmp 4),(.tmp 5),(.tmp 6)],b1131⟩
theorem c1131:C_ f156 ir1131:=(by kernel_rfl:_=_)
def b1149:AC:=(S_ (Z_ [
 o_ 2 (Me)])
 (S_ (Z_ [
 m_ 4 0,
 o_ 5 (Ls 4),
 m_ 3 5])
 (S_ (B_ 0 (W_ (S_ (S_ (Z_ [
 m_ 6 3,
 o_ 7 (Bi .gtr 6 0),
 m_ 8 7,
 g_ 9 (Mv 0) 8 true,
 g_ 10 (Mv 3) 8 true,
 g_ 11 (Bi .sub 10 1) 8 true,
 g_ 12 (Ix 9 11) 8 true,
 g_ 13 (.binI .eql .u8 (t_ 12) (.const (.int .u8 0))) 8 true,
 o_ 14 (Pf 8 13)])
 (K_ 14 .skip (.exit 0)))
 (B_ 1 (Z_ [
 m_ 15 3,
 o_ 16 (Bi .sub 15 1),
 m_ 3 16])))))
 (S_ (Z_ [
 m_ 17 0,
 m_ 18 3,
 o_ 19 (.sliceS (t_ 17) none (some (t_ 18))),
 m_ 2 19])
 .ret))))
def ir1149:AF:=⟨20,[(.tmp 2)],b1149⟩
theorem c1149:C_ f158 ir1149:=(by kernel_rfl:_=_)
def b1169:AC:=(S_ (Z_ [
 o_ 4 (Mi 0)])
 (S_ (S_ (Z_ [
 m_ 5 1,
 m_ 6 0,
 o_ 7 (Ls 6),
 o_ 8 (Bt .lss 5 7)])
 (K_ 8 (S_ (Z_ [
 m_ 9 0,
 m_ 10 1,
 o_ 11 (Ix 9 10),
 o_ 12 (Cq .i64 11),
 m_ 4 12])
 .ret) .skip))
 (S_ (Z_ [
 o_ 4 (Mi 0)])
 .ret)))
def ir1169:AF:=⟨13,[(.tmp 4)],b1169⟩
theorem c1169:C_ f159 ir1169:=(by kernel_rfl:_=_)
def b1150:AC:=(S_ (Z_ [
 o_ 4 (Mi 0)])
 (S_ (Z_ [
 m_ 8 0,
 o_ 9 (Ca 158 8),
 m_ 10 1,
 o_ 11 (Ca 158 10),
 m_ 5 9,
 m_ 6 11])
 (S_ (S_ (Z_ [
 m_ 12 5,
 o_ 13 (Ls 12),
 m_ 14 6,
 o_ 15 (Ls 14),
 o_ 16 (Bt .lss 13 15)])
 (K_ 16 (S_ (Z_ [
 o_ 4 (Mi (-1))])
 .ret) .skip))
 (S_ (S_ (Z_ [
 m_ 17 5,
 o_ 18 (Ls 17),
 m_ 19 6,
 o_ 20 (Ls 19),
 o_ 21 (Bt .gtr 18 20)])
 (K_ 21 (S_ (Z_ [
 o_ 4 (Mi 1)])
 .ret) .skip))
 (S_ (S_ (Z_ [
 m_ 22 5,
 o_ 23 (Ls 22),
 o_ 24 (Bi .sub 23 1),
 m_ 7 24])
 (B_ 0 (W_ (S_ (S_ (Z_ [
 m_ 25 7,
 o_ 26 (Bi .geq 25 0)])
 (K_ 26 .skip (.exit 0)))
 (S_ (B_ 1 (S_ (S_ (.dregion 0 [
 m_ 29 5,
 m_ 30 7,
 o_ 31 (Ix 29 30),
 m_ 32 6,
 m_ 33 7,
 o_ 34 (Ix 32 33),
 o_ 35 (.binI .lss .u8 (t_ 31) (t_ 34))] [[],[],[0,1],[],[],[3,4],[2,5]])
 (K_ 35 (S_ (Z_ [
 o_ 4 (Mi (-1))])
 .ret) .skip))
 (S_ (.dregion 0 [
 m_ 36 5,
 m_ 37 7,
 o_ 38 (Ix 36 37),
 m_ 39 6,
 m_ 40 7,
 o_ 41 (Ix 39 40),
 o_ 42 (.binI .gtr .u8 (t_ 38) (t_ 41))] [[],[],[0,1],[],[],[3,4],[2,5]])
 (K_ 42 (S_ (Z_ [
 o_ 4 (Mi 1)])
 .ret) .skip))))
 (Z_ [
 m_ 27 7,
 o_ 28 (Bi .sub 27 1),
 m_ 7 28]))))))
 (S_ (Z_ [
 o_ 4 (Mi 0)])
 .ret))))))
def ir1150:AF:=⟨43,[(.tmp 4)],b1150⟩
theorem c1150:C_ f160 ir1150:=(by kernel_rfl:_=_)
def b95:AC:=(S_ (Z_ [
 m_ 12 2,
 m_ 13 1,
 o_ 14 (Bt .sub 12 13),
 m_ 10 14])
 (S_ (Z_ [
 m_ 15 3,
 m_ 16 2,
 o_ 17 (Bt .sub 15 16),
 m_ 11 17])
 (S_ (B_ 0 (W_ (S_ (S_ (Z_ [
 m_ 18 10,
 m_ 19 11,
 o_ 20 (Bt .neq 18 19)])
 (K_ 20 .skip (.exit 0)))
 (B_ 1 (S_ (Z_ [
 m_ 21 10,
 m_ 22 11,
 o_ 23 (Bt .gtr 21 22)])
 (K_ 23 (S_ (Z_ [
 m_ 24 0,
 m_ 25 2,
 m_ 26 10,
 o_ 27 (Bt .sub 25 26),
 m_ 28 2,
 m_ 29 11,
 m_ 30 4,
 o_ 31 (.call 171 [(t_ 24),(t_ 27),(t_ 28),(t_ 29),(t_ 30)])])
 (Z_ [
 m_ 32 10,
 m_ 33 11,
 o_ 34 (Bt .sub 32 33),
 m_ 10 34])) (S_ (Z_ [
 m_ 35 0,
 m_ 36 2,
 m_ 37 10,
 o_ 38 (Bt .sub 36 37),
 m_ 39 2,
 m_ 40 11,
 o_ 41 (Bt .add 39 40),
 m_ 42 10,
 o_ 43 (Bt .sub 41 42),
 m_ 44 10,
 m_ 45 4,
 o_ 46 (.call 171 [(t_ 35),(t_ 38),(t_ 43),(t_ 44),(t_ 45)])])
 (Z_ [
 m_ 47 11,
 m_ 48 10,
 o_ 49 (Bt .sub 47 48),
 m_ 11 49]))))))))
 (Z_ [
 m_ 50 0,
 m_ 51 2,
 m_ 52 10,
 o_ 53 (Bt .sub 51 52),
 m_ 54 2,
 m_ 55 10,
 m_ 56 4,
 o_ 57 (.call 171 [(t_ 50),(t_ 53),(t_ 54),(t_ 55),(t_ 56)])]))))
def ir95:AF:=⟨58,[],b95⟩
theorem c95:C_ f166 ir95:=(by kernel_rfl:_=_)
def b1151:AC:=(S_ (Z_ [
 o_ 4 (Me)])
 (S_ (R_ 1 [
 m_ 5 0,
 m_ 6 1,
 o_ 7 (Cq .u8 6),
 o_ 8 (.bsl 0 1 [(.v (.int .u8 0))] 1 [(0,(t_ 7))]),
 o_ 9 (.str (t_ 8)),
 o_ 10 (Cb 139 5 9),
 m_ 4 10])
 .ret))
def ir1151:AF:=⟨11,[(.tmp 4)],b1151⟩
theorem c1151:C_ f167 ir1151:=(by kernel_rfl:_=_)
def b103:AC:=(S_ (Z_ [
 o_ 10 (Mi 0)])
 (B_ 0 (W_ (S_ (S_ (Z_ [
 m_ 11 10,
 m_ 12 3,
 o_ 13 (Bt .lss 11 12)])
 (K_ 13 .skip (.exit 0)))
 (S_ (B_ 1 (.dregion 0 [
 m_ 16 0,
 m_ 17 1,
 m_ 18 10,
 o_ 19 (Bt .add 17 18),
 m_ 20 0,
 m_ 21 2,
 m_ 22 10,
 o_ 23 (Bt .add 21 22),
 m_ 24 0,
 m_ 25 2,
 m_ 26 10,
 o_ 27 (Bt .add 25 26),
 o_ 28 (Ia 8 24 27),
 o_ 29 (Ld 8 28),
 m_ 30 0,
 m_ 31 1,
 m_ 32 10,
 o_ 33 (Bt .add 31 32),
 o_ 34 (Ia 8 30 33),
 o_ 35 (Ld 8 34),
 o_ 36 (Ia 8 16 19),
 s_ (Sr 8 36 29),
 o_ 37 (Ia 8 20 23),
 s_ (Sr 8 37 35)] [[],[],[],[1,2],[],[],[],[5,6],[],[],[],[9,10],[8,11],[12],[],[],[],[15,16],[14,17],[18],[0,3,0,1,2,3,8,9,10,11,12,13,19],[20,13,0,1,2,3,8,9,10,11,12,13,19],[4,7,0,1,2,3,4,5,6,7,8,9,10,11,12,13,14,15,16,17,18,19,20,21],[22,19,21,0,1,2,3,4,5,6,7,8,9,10,11,12,13,14,15,16,17,18,19,20,21]]))
 (Z_ [
 m_ 14 10,
 o_ 15 (Bi .add 14 1),
 m_ 10 15]))))))
def ir103:AF:=⟨38,[],b103⟩
theorem c103:C_ f171 ir103:=(by kernel_rfl:_=_)
end Go.Aw.Try
namespace Go.Aw
section
variable {E:Type} [Inhabited E]
def mv (es:List E) (i j:Nat):List E:=es.take j ++ (nth es i :: ((es.drop j).take (i-j) ++ es.drop (i+1)))
theorem mv_get (es:List E) {i j:Nat} (hj:j≤i) (hi:i<es.length) (k:Nat) :
  (mv es i j)[k]? = if k<j then es[k]? else if k=j then some (nth es i) else if k≤i then es[k-1]? else es[k]? := by
 unfold mv
 rw [List.getElem?_append]
 have hl:(es.take j).length=j:=by simp; omega
 rw [hl]
 by_cases h1:k<j
 ·rw [if_pos h1,if_pos h1,List.getElem?_take,if_pos h1]
 ·rw [if_neg h1,if_neg h1]
  by_cases h2:k=j
  ·rw [if_pos h2,h2]; simp
  ·rw [if_neg h2,show k-j=(k-j-1)+1 by omega,List.getElem?_cons_succ,List.getElem?_append]
   have hl2:((es.drop j).take (i-j)).length=i-j:=by simp; omega
   rw [hl2]
   by_cases h3:k≤i
   ·rw [if_pos h3,if_pos (by omega),List.getElem?_take,if_pos (by omega),List.getElem?_drop]; congr 1; omega
   ·rw [if_neg h3,if_neg (by omega),List.getElem?_drop]; congr 1; omega
theorem mv_len (es:List E) {i j:Nat} (hj:j≤i) (hi:i<es.length):(mv es i j).length=es.length:=by
 unfold mv; simp; omega
theorem mv_self (es:List E) {i:Nat} (hi:i<es.length):mv es i i=es:=by
 apply List.ext_getElem?
 intro k
 rw [mv_get es (Nat.le_refl _) hi]
 by_cases h1:k<i
 ·rw [if_pos h1]
 ·rw [if_neg h1]
  by_cases h2:k=i
  ·rw [if_pos h2,h2]; simp [nth,List.getD_eq_getElem?_getD,hi]
  ·rw [if_neg h2,if_neg (by omega)]
theorem nth_of_get {l:List E} {k:Nat} {x:E} (h:l[k]? = some x):nth l k=x:=by simp [nth,List.getD_eq_getElem?_getD,h]
theorem get_nth {l:List E} {k:Nat} (h:k<l.length):l[k]? = some (nth l k):=by simp [nth,List.getD_eq_getElem?_getD,h]
theorem mv_at (es:List E) {i j:Nat} (hj:j≤i) (hi:i<es.length):nth (mv es i j) j=nth es i :=
 nth_of_get (by rw [mv_get es hj hi,if_neg (by omega),if_pos rfl])
theorem mv_pred (es:List E) {i j:Nat} (hj:j≤i) (hi:i<es.length) (h0:0<j):nth (mv es i j) (j-1)=nth es (j-1) :=
 nth_of_get (by rw [mv_get es hj hi,if_pos (by omega),get_nth (by omega)])
theorem mv_swap (es:List E) {i j:Nat} (hj:j≤i) (hi:i<es.length) (h0:0<j):((mv es i j).set j (nth es (j-1))).set (j-1) (nth es i)=mv es i (j-1):=by
 apply List.ext_getElem?
 intro k
 have hl:=mv_len es hj hi
 rw [mv_get es (by omega) hi,List.getElem?_set,List.getElem?_set,List.length_set,hl,mv_get es hj hi]
 by_cases h1:j-1=k
 ·rw [if_pos h1,if_pos (by omega),if_neg (by omega),if_pos h1.symm]
 ·rw [if_neg h1]
  by_cases h2:j=k
  ·rw [if_pos h2,if_pos (by omega),if_neg (by omega),if_neg (by omega),if_pos (by omega),← h2,get_nth (by omega)]
  ·rw [if_neg h2]
   by_cases h3:k<j
   ·rw [if_pos h3,if_pos (by omega)]
   ·rw [if_neg h3,if_neg (show ¬ k=j by omega)]
    by_cases h4:k≤i
    ·rw [if_pos h4,if_neg (show ¬ k<j-1 by omega),if_neg (show ¬ k=j-1 by omega)]
    ·rw [if_neg h4,if_neg (show ¬ k<j-1 by omega),if_neg (show ¬ k=j-1 by omega)]
end
section
variable {E:Type}
structure Pre (cmp:E→E→Int):Prop where
 sgn:∀ a b,cmp a b<0↔0<cmp b a
 tr:∀ a b c,cmp a b≤0→cmp b c≤0→cmp a c≤0
variable {cmp:E→E→Int}
theorem Pre.rf (h:Pre cmp) (a:E):cmp a a=0:=by have:=h.sgn a a; omega
theorem Pre.le_of_not (h:Pre cmp) {a b:E} (k:¬ cmp a b<0):cmp b a≤0:=by have:=h.sgn a b; have:=h.sgn b a; omega
theorem Pre.lt_le (h:Pre cmp) {a b c:E} (k:cmp a b<0) (l:cmp b c≤0):cmp a c<0:=by
 have h1:=h.tr a b c (by omega) l
 have:¬ cmp c a≤0:=fun q=>by
  have:=h.tr b c a l q
  have:=h.sgn a b
  omega
 have:=h.sgn a c; omega
theorem Pre.le_lt (h:Pre cmp) {a b c:E} (k:cmp a b≤0) (l:cmp b c<0):cmp a c<0:=by
 have h1:=h.tr a b c k (by omega)
 have:¬ cmp c a≤0:=fun q=>by
  have:=h.tr c a b q k
  have:=h.sgn b c
  omega
 have:=h.sgn a c; omega
theorem Pre.eq_symm (h:Pre cmp) {a b:E} (k:cmp a b=0):cmp b a=0:=by have:=h.sgn a b; have:=h.sgn b a; omega
theorem Pre.eq_tr (h:Pre cmp) {a b c:E} (k:cmp a b=0) (l:cmp b c=0):cmp a c=0:=by
 have:=h.tr a b c (by omega) (by omega)
 have:=h.tr c b a (by have:=h.eq_symm l; omega) (by have:=h.eq_symm k; omega)
 have:=h.sgn a c
 omega
def Srt (cmp:E→E→Int) (l:List E):Prop:=l.Pairwise fun a b=>cmp a b≤0
def cls (cmp:E→E→Int) (x:E) (l:List E):List E:=l.filter fun y=>decide (cmp x y=0)
def Flt (cmp:E→E→Int) (l l':List E):Prop:=∀ x,cls cmp x l=cls cmp x l'
theorem cls_app (x:E) (l l':List E):cls cmp x (l ++ l')=cls cmp x l ++ cls cmp x l':=List.filter_append ..
theorem cls_cons (x y:E) (l:List E):cls cmp x (y :: l)=if cmp x y=0 then y :: cls cmp x l else cls cmp x l:=by
 simp only [cls,List.filter_cons,decide_eq_true_eq]
theorem mem_cls {x y:E} {l:List E}:y∈cls cmp x l↔y∈l∧cmp x y=0:=by simp [cls]
theorem cls_none {x:E} {l:List E} (h:∀ y∈l,cmp x y≠0):cls cmp x l=[]:=by
 simp only [cls,List.filter_eq_nil_iff,decide_eq_true_eq]; exact h
theorem Flt.refl (l:List E):Flt cmp l l:=fun _=>rfl
theorem Flt.symm {l l':List E} (h:Flt cmp l l'):Flt cmp l' l:=fun x=>(h x).symm
theorem Flt.trans {l l' l'':List E} (h:Flt cmp l l') (k:Flt cmp l' l''):Flt cmp l l'':=fun x=>(h x).trans (k x)
theorem Flt.app {a b c d:List E} (h:Flt cmp a b) (k:Flt cmp c d):Flt cmp (a ++ c) (b ++ d):=fun x=>by rw [cls_app,cls_app,h x,k x]
theorem Flt.mem (hp:Pre cmp) {l l':List E} (h:Flt cmp l l') {x:E}:x∈l↔x∈l':=by
 have:=h x
 constructor
 ·intro hx
  have:x∈cls cmp x l':=by rw [← this]; exact mem_cls.2 ⟨hx,hp.rf x⟩
  exact (mem_cls.1 this).1
 ·intro hx
  have:x∈cls cmp x l:=by rw [this]; exact mem_cls.2 ⟨hx,hp.rf x⟩
  exact (mem_cls.1 this).1
theorem Flt.swap (hp:Pre cmp) {u v:List E} (h:∀ y∈v,∀ x∈u,cmp y x<0):Flt cmp (v ++ u) (u ++ v):=fun z=>by
 rw [cls_app,cls_app]
 by_cases hu:cls cmp z u=[]
 ·rw [hu]; simp
 ·have hv:cls cmp z v=[]:=cls_none fun y hy h0=>by
   apply hu
   exact cls_none fun x hx h1=>by
    have h2:=h y hy x hx
    have:=hp.eq_tr (hp.eq_symm h0) h1
    omega
  rw [hv]; simp
theorem srt_flt_unique (hp:Pre cmp):∀ {l l':List E},Srt cmp l→Srt cmp l'→Flt cmp l l'→l=l'
 | [],[],_,_,_=>rfl
 | [],b :: t,_,_,h=>by have:=(h.mem hp (x:=b)).2 List.mem_cons_self; simp at this
 | a :: t,[],_,_,h=>by have:=(h.mem hp (x:=a)).1 List.mem_cons_self; simp at this
 | a :: t,b :: t',h1,h2,h=>by
  have ha:cmp b a≤0:=by
   have:=(h.mem hp (x:=a)).1 List.mem_cons_self
   rcases List.mem_cons.1 this with e | e
   ·subst e; have:=hp.rf a; omega
   ·exact (List.pairwise_cons.1 h2).1 a e
  have hb:cmp a b≤0:=by
   have:=(h.mem hp (x:=b)).2 List.mem_cons_self
   rcases List.mem_cons.1 this with e | e
   ·subst e; have:=hp.rf b; omega
   ·exact (List.pairwise_cons.1 h1).1 b e
  have hab:cmp a b=0:=by have:=hp.sgn a b; have:=hp.sgn b a; omega
  have e:=h a
  rw [cls_cons,cls_cons,if_pos (hp.rf a),if_pos hab] at e
  injection e with e1 e2
  subst e1
  have ht:Flt cmp t t':=fun x=>by
   have:=h x
   rw [cls_cons,cls_cons] at this
   split at this
   ·injection this
   ·exact this
  rw [srt_flt_unique hp (List.pairwise_cons.1 h1).2 (List.pairwise_cons.1 h2).2 ht]
def insF (cmp:E→E→Int) (x:E):List E→List E
 | []=>[x]
 | y :: l=>if cmp x y≤0 then x :: y :: l else y :: insF cmp x l
def ssort (cmp:E→E→Int):List E→List E
 | []=>[]
 | x :: l=>insF cmp x (ssort cmp l)
theorem insF_mem {x y:E}:∀ {l:List E},y∈insF cmp x l↔y=x∨y∈l
 | []=>by simp [insF]
 | z :: l=>by
  simp only [insF]
  split
  ·simp
  ·simp only [List.mem_cons,insF_mem (l:=l)]
   constructor
   ·rintro (h | h | h)
    ·exact .inr (.inl h)
    ·exact .inl h
    ·exact .inr (.inr h)
   ·rintro (h | h | h)
    ·exact .inr (.inl h)
    ·exact .inl h
    ·exact .inr (.inr h)
theorem insF_srt (hp:Pre cmp) {x:E}:∀ {l:List E},Srt cmp l→Srt cmp (insF cmp x l)
 | [],_=>by simp [insF,Srt]
 | y :: l,h=>by
  have ⟨h1,h2⟩:=List.pairwise_cons.1 h
  simp only [insF]
  split
  ·rename_i hxy
   exact List.pairwise_cons.2 ⟨fun z hz=>by
    rcases List.mem_cons.1 hz with e | e
    ·subst e; exact hxy
    ·exact hp.tr _ _ _ hxy (h1 z e),h⟩
  ·rename_i hxy
   refine List.pairwise_cons.2 ⟨fun z hz=>?_,insF_srt hp h2⟩
   rcases insF_mem.1 hz with e | e
   ·subst e; have:=hp.sgn y z; omega
   ·exact h1 z e
theorem insF_flt (hp:Pre cmp) {x:E}:∀ {l:List E},Flt cmp (insF cmp x l) (x :: l)
 | []=>Flt.refl _
 | y :: l=>by
  simp only [insF]
  split
  ·exact Flt.refl _
  ·rename_i hxy
   intro z
   have:=insF_flt hp (x:=x) (l:=l) z
   rw [cls_cons] at this ⊢
   rw [this,cls_cons,cls_cons]
   by_cases h1:cmp z y=0
   ·by_cases h2:cmp z x=0
    ·have:=hp.eq_tr (hp.eq_symm h2) h1; omega
    ·simp [h1,h2]
   ·simp [h1]
theorem ssort_srt (hp:Pre cmp):∀ l:List E,Srt cmp (ssort cmp l)
 | []=>List.Pairwise.nil
 | x :: l=>insF_srt hp (ssort_srt hp l)
theorem ssort_flt (hp:Pre cmp):∀ l:List E,Flt cmp (ssort cmp l) l
 | []=>Flt.refl _
 | x :: l=>fun z=>by
  have h1:=insF_flt hp (x:=x) (l:=ssort cmp l) z
  have h2:=ssort_flt hp l z
  simp only [ssort]
  rw [h1,cls_cons,cls_cons,h2]
theorem insF_len {x:E}:∀ {l:List E},(insF cmp x l).length=l.length+1
 | []=>rfl
 | y :: l=>by simp only [insF]; split <;> simp [insF_len (l:=l)]
theorem ssort_len:∀ l:List E,(ssort cmp l).length=l.length
 | []=>rfl
 | x :: l=>by simp [ssort,insF_len,ssort_len l]
theorem ssort_of (hp:Pre cmp) {l w:List E} (h1:Srt cmp w) (h2:Flt cmp w l):w=ssort cmp l :=
 srt_flt_unique hp h1 (ssort_srt hp l) (h2.trans (ssort_flt hp l).symm)
theorem Srt.app {a b:List E} (ha:Srt cmp a) (hb:Srt cmp b) (h:∀ x∈a,∀ y∈b,cmp x y≤0):Srt cmp (a ++ b):=List.pairwise_append.2 ⟨ha,hb,h⟩
theorem Srt.left {a b:List E} (h:Srt cmp (a ++ b)):Srt cmp a:=(List.pairwise_append.1 h).1
theorem Srt.right {a b:List E} (h:Srt cmp (a ++ b)):Srt cmp b:=(List.pairwise_append.1 h).2.1
theorem Srt.cross {a b:List E} (h:Srt cmp (a ++ b)) {x y:E} (hx:x∈a) (hy:y∈b):cmp x y≤0:=(List.pairwise_append.1 h).2.2 x hx y hy
theorem Srt.nth_le (hp:Pre cmp) [Inhabited E] {l:List E} (h:Srt cmp l) {i j:Nat} (hij:i≤j) (hj:j<l.length):cmp (nth l i) (nth l j)≤0:=by
 have e:∀ k (hk:k<l.length),nth l k=l[k]:=fun k hk=>by simp [nth,List.getD_eq_getElem?_getD,hk]
 rw [e i (by omega),e j hj]
 by_cases hh:i=j
 ·subst hh; have:=hp.rf l[i]; omega
 ·exact List.pairwise_iff_getElem.1 h i j (by omega) hj (by omega)
theorem mem_nth [Inhabited E] {l:List E} {x:E} (h:x∈l):∃ k,k<l.length∧nth l k=x:=by
 obtain ⟨k,hk,e⟩:=List.getElem_of_mem h
 exact ⟨k,hk,by simp [nth,List.getD_eq_getElem?_getD,hk,e]⟩
end
section
variable {E:Type} [Inhabited E]
theorem nth_app_l {a b:List E} {i:Nat} (h:i<a.length):nth (a ++ b) i=nth a i:=by simp [nth,List.getD_eq_getElem?_getD,List.getElem?_append,h]
theorem nth_app_r {a b:List E} {i:Nat} (h:a.length≤i):nth (a ++ b) i=nth b (i-a.length):=by simp [nth,List.getD_eq_getElem?_getD,List.getElem?_append,Nat.not_lt.2 h]
theorem nth_take {l:List E} {n i:Nat} (h:i<n):nth (l.take n) i=nth l i:=by simp [nth,List.getD_eq_getElem?_getD,List.getElem?_take,h]
end
open Go
theorem cb_sgn:∀ a b:List UInt8,Lib.compareBytes a b = - Lib.compareBytes b a
 | [],[]=>rfl
 | [],_ :: _=>by simp [Lib.compareBytes]
 | _ :: _,[]=>by simp [Lib.compareBytes]
 | x :: a,y :: b=>by
  simp only [Lib.compareBytes]
  have h1:∀ p q:UInt8,p<q↔p.toNat<q.toNat:=fun p q=>UInt8.lt_iff_toNat_lt
  by_cases c1:x<y
  ·have:¬ y<x:=by rw [h1] at *; omega
   simp [c1,this]
  ·by_cases c2:y<x
   ·simp [c1,c2]
   ·simp [c1,c2,cb_sgn a b]
theorem cb_eq:∀ a b:List UInt8,Lib.compareBytes a b=0↔a=b
 | [],[]=>by simp [Lib.compareBytes]
 | [],_ :: _=>by simp [Lib.compareBytes]
 | _ :: _,[]=>by simp [Lib.compareBytes]
 | x :: a,y :: b=>by
  simp only [Lib.compareBytes]
  have h1:∀ p q:UInt8,p<q↔p.toNat<q.toNat:=fun p q=>UInt8.lt_iff_toNat_lt
  by_cases c1:x<y
  ·rw [if_pos c1]
   constructor
   ·intro h; omega
   ·intro h; injection h with e _; subst e; rw [h1] at c1; omega
  ·rw [if_neg c1]
   by_cases c2:y<x
   ·rw [if_pos c2]
    constructor
    ·intro h; omega
    ·intro h; injection h with e _; subst e; rw [h1] at c2; omega
   ·rw [if_neg c2,cb_eq a b]
    have:x=y:=by
     apply UInt8.toNat.inj
     rw [h1] at c1 c2; omega
    subst this
    simp
theorem cb_tr:∀ a b c:List UInt8,Lib.compareBytes a b≤0→Lib.compareBytes b c≤0→Lib.compareBytes a c≤0
 | [],b,c,_,_=>by cases c <;> simp [Lib.compareBytes]
 | x :: a,[],c,h,_=>by simp [Lib.compareBytes] at h
 | x :: a,y :: b,[],_,h=>by simp [Lib.compareBytes] at h
 | x :: a,y :: b,z :: c,h,k=>by
  have h1:∀ p q:UInt8,p<q↔p.toNat<q.toNat:=fun p q=>UInt8.lt_iff_toNat_lt
  simp only [Lib.compareBytes,h1] at h k ⊢
  split at h
  ·split at k
   ·rw [if_pos (by omega)]; omega
   ·split at k
    ·omega
    ·rw [if_pos (by omega)]; omega
  ·split at h
   ·omega
   ·split at k
    ·rw [if_pos (by omega)]; omega
    ·split at k
     ·omega
     ·rw [if_neg (by omega),if_neg (by omega)]; exact cb_tr a b c h k
def cmpS (a b:ByteArray):Int:=Lib.compareBytes a.data.toList b.data.toList
theorem cmpS_eq (a b:ByteArray):cmpS a b=0↔a=b:=by
 unfold cmpS
 rw [cb_eq]
 constructor
 ·intro h; cases a; cases b; congr 1; exact Array.toList_inj.1 h
 ·intro h; rw [h]
theorem cmpS_sgn (a b:ByteArray):cmpS a b = - cmpS b a:=cb_sgn _ _
theorem cmpS_pre:Pre cmpS:=⟨fun a b=>by have:=cmpS_sgn a b; omega,fun a b c=>cb_tr _ _ _⟩
theorem bl_cb:∀ a b:List UInt8,Op.bytesLess a b=decide (Lib.compareBytes a b<0)
 | [],[]=>rfl
 | [],_ :: _=>rfl
 | _ :: _,[]=>rfl
 | x :: a,y :: b=>by
  simp only [Op.bytesLess,Lib.compareBytes]
  have h1:∀ p q:UInt8,p<q↔p.toNat<q.toNat:=fun p q=>UInt8.lt_iff_toNat_lt
  by_cases c1:x<y
  ·simp [c1]
  ·by_cases c2:y<x
   ·have:¬ x=y:=fun e=>by subst e; rw [h1] at c2; omega
    simp [c1,c2,this]
   ·have:x=y:=by apply UInt8.toNat.inj; rw [h1] at c1 c2; omega
    subst this
    simp [c1,bl_cb a b]
theorem strLt_eq (a b:ByteArray):strLt a b=decide (cmpS a b<0):=by
 unfold strLt cmpS
 have e:∀ x:ByteArray,x.toList=x.data.toList:=fun x=>ByteArray.toList_eq x
 rw [e,e]; exact bl_cb _ _
end Go.Aw
namespace Go.Aw.Try
open Go Go.Proofs Go.Aw
set_option maxRecDepth 100000
set_option maxHeartbeats 4000000
def G0:Gl:=fun _=>none
theorem hmix:prog.follows .mixedOrders=true:=Checked.mixed Tryz.checked
abbrev I (n:Int):V:=.c (.d (.v (.int .i64 n)))
abbrev Sx (n:ByteArray):V:=.c (.d (.v (.string n)))
structure Id where
 a:ByteArray
 n:Int
def Id.row (x:Id):List D:=[.v (.string x.a),.v (.int .i64 x.n)]
structure Edit where
 id:Id
 clock:Int
 floor:Int
 deps:List Id
 kind:Int
 node:Id
 parent:Id
 neg:Bool
 num:ByteArray
 den:ByteArray
 field:ByteArray
 value:ByteArray
 target:Id
 who:ByteArray
def Edit.row (e:Edit):List D:=[.v (.string e.id.a),.v (.int .i64 e.id.n),.v (.int .i64 e.clock),.v (.int .i64 e.floor),.sl (e.deps.map Id.row),.v (.int .i64 e.kind),.v (.string e.node.a),.v (.int .i64 e.node.n),.v (.string e.parent.a),.v (.int .i64 e.parent.n),.v (.bool e.neg),.v (.string e.num),.v (.string e.den),.v (.string e.field),.v (.string e.value),.v (.string e.target.a),.v (.int .i64 e.target.n),.v (.string e.who)]
theorem Edit.row_eq (e:Edit):e.row=[.v (.string e.id.a),.v (.int .i64 e.id.n),.v (.int .i64 e.clock),.v (.int .i64 e.floor),.sl (e.deps.map Id.row),.v (.int .i64 e.kind),.v (.string e.node.a),.v (.int .i64 e.node.n),.v (.string e.parent.a),.v (.int .i64 e.parent.n),.v (.bool e.neg),.v (.string e.num),.v (.string e.den),.v (.string e.field),.v (.string e.value),.v (.string e.target.a),.v (.int .i64 e.target.n),.v (.string e.who)]:=rfl
def cmpI (a b:Int):Int:=if a<b then -1 else if b<a then 1 else 0
def x48:XE:=⟨true,fun ps=>match ps with | [.c (.v (.int .i64 a)),.c (.v (.int .i64 b))]=>some (True,.int .i64 (cmpI a b)) | _=>none⟩
def intsOf:List (List D)→Option (List Int)
 | []=>some []
 | [.v (.int .i64 a)] :: r=>match intsOf r with | some l=>some (a :: l) | none=>none
 | _=>none
def orI:List Int→Int
 | []=>0
 | a :: r=>if a≠0 then a else orI r
theorem intsOf_get:∀ {xs:List (List D)} {l:List Int},intsOf xs=some l→xs=l.map fun n=>[.v (.int .i64 n)]
 | [],l,h=>by simp only [intsOf,Option.some.injEq] at h; subst h; rfl
 | [.v (.int .i64 a)] :: r,l,h=>by
  simp only [intsOf] at h
  split at h
  ·rename_i l' h'; injection h with h; subst h; rw [intsOf_get h']; rfl
  ·cases h
theorem k47 (l:List Int) (hl:l.length<4611686018427387904):ACalls prog G0 83 [.c (.d (.sl (l.map fun n=>[.v (.int .i64 n)])))] [] fun t H=>t = .int .i64 (orI l)∧H=[]:=by
 refine acallsX (X:=[]) trivial tab hmix func83 c47 (by rfl) fun hw=>?_
 simp [ir47,b47]
 refine loopX (fun k s=>∃ i,i≤l.length∧k=l.length-i∧orI l=orI (l.drop i)∧s=⟨ofL [(3,.int .i64 0),(6,.v (.c (.d (.sl (l.map fun n=>[.v (.int .i64 n)]))))),(7,.int .i64 l.length),(8,.int .i64 i)],[]⟩) ?_ ?_
 ·refine wk_nil [] [3,6,7,8] rfl ⟨_,0,Nat.zero_le _,rfl,rfl,?_⟩
  simp
 ·rintro k s ⟨i,hi,rfl,ho,rfl⟩
  by_cases hlt:i<l.length
  ·have hd:l.drop i=l[i] :: l.drop (i+1):=List.drop_eq_getElem_cons hlt
   simp (disch:=omega) [hlt,nth_map,nth_eq,wrap64]
   refine ⟨fun h0=>fin_nil ⟨by rw [ho,hd]; simp [orI,h0],rfl⟩,fun h0=>wk_nil [] [3,6,7,8] rfl ⟨l.length-(i+1),by omega,i+1,hlt,rfl,?_,?_⟩⟩
   ·rw [ho,hd]; simp [orI,h0]
   ·simp
  ·have hd:l.drop i=[]:=List.drop_eq_nil_of_le (by omega)
   simp [hlt,ho,hd,orI]
   exact fin_nil ⟨rfl,rfl⟩
end Go.Aw.Try
namespace Go.Aw
section
variable {E:Type} [Inhabited E] {cmp:E→E→Int}
def insP (cmp:E→E→Int) (es:List E) (a:Nat) (v:E):Nat→Nat
 | 0=>0
 | j+1=>if a<j+1∧cmp v (nth es j)<0 then insP cmp es a v j else j+1
def insN (cmp:E→E→Int) (a:Nat):Nat→Nat→List E→List E
 | 0,i,es=>es
 | n+1,i,es=>insN cmp a n (i+1) (mv es i (insP cmp es a (nth es i) i))
theorem insP_spec {P s S:List E} {v:E}:∀ k,k≤s.length→(∀ x∈s.drop k,cmp v x<0) →
  ∃ k',k'≤k∧insP cmp (P ++ s ++ S) P.length v (P.length+k)=P.length+k'∧(∀ x∈s.drop k',cmp v x<0)∧(∀ h:0<k',¬ cmp v (nth s (k'-1))<0)
 | 0,hk,hd=>⟨0,Nat.le_refl _,by
   show insP cmp _ P.length v P.length=P.length
   cases h:P.length with
   | zero=>rfl
   | succ n=>simp only [insP]; rw [if_neg (by omega)],hd,fun h=>absurd h (by omega)⟩
 | k+1,hk,hd=>by
  have e:nth (P ++ s ++ S) (P.length+k)=nth s k:=by
   rw [List.append_assoc,nth_app_r (by omega),nth_app_l (by omega)]; congr 1; omega
  show ∃ k',k'≤k+1∧insP cmp (P ++ s ++ S) P.length v (P.length+k+1)=_∧_
  simp only [insP,e]
  by_cases hc:cmp v (nth s k)<0
  ·rw [if_pos ⟨by omega,hc⟩]
   obtain ⟨k',h1,h2,h3,h4⟩:=insP_spec (P:=P) (s:=s) (S:=S) (v:=v) k (by omega) (fun x hx=>by
    have:s.drop k=nth s k :: s.drop (k+1):=by rw [List.drop_eq_getElem_cons (by omega)]; congr 1; simp [nth,List.getD_eq_getElem?_getD,show k<s.length by omega]
    rw [this] at hx
    rcases List.mem_cons.1 hx with e | e
    ·subst e; exact hc
    ·exact hd x e)
   exact ⟨k',by omega,h2,h3,h4⟩
  ·rw [if_neg fun q=>hc q.2]
   exact ⟨k+1,Nat.le_refl _,by omega,hd,fun _=>by simpa using hc⟩
theorem mv_app {P s1 s2 S:List E} {v:E}:mv (P ++ (s1 ++ s2) ++ v :: S) (P.length+(s1 ++ s2).length) (P.length+s1.length)=P ++ (s1 ++ v :: s2) ++ S:=by
 unfold mv
 have e0:P ++ (s1 ++ s2) ++ v :: S=(P ++ s1) ++ (s2 ++ v :: S):=by simp
 have e1:nth (P ++ (s1 ++ s2) ++ v :: S) (P.length+(s1 ++ s2).length)=v:=by
  rw [nth_app_r (by simp)]; simp [nth]
 rw [e1,e0,List.take_left' (by simp),List.drop_left' (by simp)]
 have e2:(s2 ++ v :: S).take (P.length+(s1 ++ s2).length-(P.length+s1.length))=s2:=List.take_left' (by simp; omega)
 have e3:(P ++ s1 ++ (s2 ++ v :: S)).drop (P.length+(s1 ++ s2).length+1)=S:=by
  have:P ++ s1 ++ (s2 ++ v :: S)=(P ++ s1 ++ s2 ++ [v]) ++ S:=by simp
  rw [this]; exact List.drop_left' (by simp; omega)
 rw [e2,e3]; simp
theorem ins_step (hp:Pre cmp) {P s S:List E} {v:E} (hs:Srt cmp s) :
  ∃ w,mv (P ++ s ++ v :: S) (P.length+s.length) (insP cmp (P ++ s ++ v :: S) P.length v (P.length+s.length))=P ++ w ++ S∧Srt cmp w∧Flt cmp w (s ++ [v])∧w.length=s.length+1:=by
 obtain ⟨k,h1,h2,h3,h4⟩:=insP_spec (P:=P) (s:=s) (S:=v :: S) (v:=v) (cmp:=cmp) s.length (Nat.le_refl _) (by simp)
 rw [h2]
 have hsp:s=s.take k ++ s.drop k:=(List.take_append_drop k s).symm
 have hl:(s.take k).length=k:=by simp; omega
 have:=mv_app (P:=P) (s1:=s.take k) (s2:=s.drop k) (S:=S) (v:=v)
 rw [← hsp,hl] at this
 refine ⟨s.take k ++ v :: s.drop k,this,?_,?_,by simp; omega⟩
 ·have h5:∀ x∈s.take k,cmp x v≤0:=fun x hx=>by
   by_cases hk:k=0
   ·subst hk; simp at hx
   obtain ⟨i,hi,e⟩:=mem_nth hx
   rw [hl] at hi
   rw [nth_take hi] at e
   have h6:=hp.le_of_not (h4 (by omega))
   have h7:=hs.nth_le hp (show i≤k-1 by omega) (by omega)
   rw [e] at h7
   exact hp.tr _ _ _ h7 h6
  refine Srt.app (by rw [hsp] at hs; exact hs.left) (List.pairwise_cons.2 ⟨fun x hx=>by have:=h3 x hx; omega,by rw [hsp] at hs; exact hs.right⟩) fun x hx y hy=>?_
  rcases List.mem_cons.1 hy with e | e
  ·subst e; exact h5 x hx
  ·rw [hsp] at hs; exact hs.cross hx e
 ·rw [show s ++ [v]=s.take k ++ (s.drop k ++ [v]) by rw [← List.append_assoc,← hsp]]
  refine (Flt.refl _).app ?_
  have:=Flt.swap hp (u:=s.drop k) (v:=[v]) (fun y hy x hx=>by simp at hy; subst hy; exact h3 x hx)
  simpa using this
theorem insN_spec (hp:Pre cmp) {P S:List E}:∀ (t s:List E),Srt cmp s →
  ∃ w,insN cmp P.length t.length (P.length+s.length) (P ++ s ++ (t ++ S))=P ++ w ++ S∧Srt cmp w∧Flt cmp w (s ++ t)∧w.length=s.length+t.length
 | [],s,hs=>⟨s,by simp [insN],hs,by simpa using Flt.refl _,by simp⟩
 | v :: t,s,hs=>by
  have e1:nth (P ++ s ++ (v :: t ++ S)) (P.length+s.length)=v:=by rw [nth_app_r (by simp)]; simp [nth]
  obtain ⟨w,h1,h2,h3,h4⟩:=ins_step (P:=P) (S:=t ++ S) (v:=v) hp hs
  have h1':mv (P ++ s ++ (v :: t ++ S)) (P.length+s.length) (insP cmp (P ++ s ++ (v :: t ++ S)) P.length v (P.length+s.length))=P ++ w ++ (t ++ S):=h1
  simp only [List.length_cons,insN,e1,h1']
  obtain ⟨w',g1,g2,g3,g4⟩:=insN_spec (P:=P) (S:=S) hp t w h2
  rw [show P.length+s.length+1=P.length+w.length by omega,g1]
  refine ⟨w',rfl,g2,g3.trans ?_,by omega⟩
  have:=h3.app (Flt.refl (cmp:=cmp) t)
  simpa using this
theorem ins_sorts (hp:Pre cmp) {P u S:List E}:∃ w,insN cmp P.length (P.length+u.length-(P.length+1)) (P.length+1) (P ++ u ++ S)=P ++ w ++ S∧Srt cmp w∧Flt cmp w u∧w.length=u.length:=by
 cases u with
 | nil=>exact ⟨[],by rw [show P.length+([]:List E).length-(P.length+1)=0 by simp]; rfl,List.Pairwise.nil,Flt.refl _,rfl⟩
 | cons x t =>
  obtain ⟨w,h1,h2,h3,h4⟩:=insN_spec (P:=P) (S:=S) hp t [x] (by simp [Srt])
  have e:P.length+(x :: t).length-(P.length+1)=t.length:=by simp; omega
  rw [e]
  simp only [List.length_singleton] at h1
  refine ⟨w,by rw [← h1]; simp,h2,by simpa using h3,by simp at h4 ⊢; omega⟩
def swap2 (l:List E) (p q:Nat):List E:=(l.set p (nth l q)).set q (nth l p)
def swp (es:List E) (a b:Nat):Nat→List E
 | 0=>es
 | i+1=>swap2 (swp es a b i) (a+i) (b+i)
theorem swp_len (es:List E) (a b:Nat):∀ i,(swp es a b i).length=es.length
 | 0=>rfl
 | i+1=>by simp [swp,swap2,swp_len es a b i]
theorem swap2_get {l:List E} {p q:Nat} (hp:p<l.length) (hq:q<l.length) (k:Nat):(swap2 l p q)[k]? = if k=q then l[p]? else if k=p then l[q]? else l[k]? := by
 unfold swap2
 rw [List.getElem?_set,List.getElem?_set,List.length_set,get_nth hp,get_nth hq]
 (repeat' split) <;> first | rfl | omega
theorem swp_get {es:List E} {a b:Nat}:∀ {n:Nat},a+n≤b→b+n≤es.length→∀ k,
  (swp es a b n)[k]? = if a≤k∧k<a+n then es[k-a+b]? else if b≤k∧k<b+n then es[k-b+a]? else es[k]?
 | 0,h1,h2,k=>by rw [if_neg (by omega),if_neg (by omega)]; rfl
 | n+1,h1,h2,k=>by
  have hl:=swp_len es a b n
  have ih:=swp_get (es:=es) (a:=a) (b:=b) (n:=n) (by omega) (by omega)
  simp only [swp]
  rw [swap2_get (by omega) (by omega),ih,ih,ih]
  (repeat' split) <;> first | rfl | omega | (congr 1; omega)
theorem swp_app {Q x y z T:List E} {n a b:Nat} (hx:x.length=n) (hz:z.length=n) (ha:a=Q.length) (hb:b=Q.length+x.length+y.length) :
  swp (Q ++ (x ++ (y ++ (z ++ T)))) a b n=Q ++ (z ++ (y ++ (x ++ T))):=by
 apply List.ext_getElem?
 intro k
 rw [swp_get (by omega) (by simp; omega)]
 subst ha; subst hb
 simp only [List.getElem?_append]
 repeat' split
 all_goals first | omega | rfl | (congr 1; omega)
def rotN (m:Nat):Nat→Nat→Nat→List E→List E
 | 0,i,j,es=>es
 | n+1,i,j,es=>if i=j then swp es (m-i) m i else if j<i then rotN m n (i-j) j (swp es (m-i) m j) else rotN m n i (j-i) (swp es (m-i) (m+j-i) i)
theorem rotN_more (m:Nat):∀ (n n' i j:Nat) (es:List E),0<i→0<j→i+j≤n→i+j≤n'→rotN m n i j es=rotN m n' i j es
 | 0,n',i,j,es,hi,hj,h,h'=>by omega
 | n+1,0,i,j,es,hi,hj,h,h'=>by omega
 | n+1,n'+1,i,j,es,hi,hj,h,h'=>by
  simp only [rotN]
  by_cases e:i=j
  ·rw [if_pos e,if_pos e]
  ·rw [if_neg e,if_neg e]
   by_cases e2:j<i
   ·rw [if_pos e2,if_pos e2]; exact rotN_more m n n' _ _ _ (by omega) hj (by omega) (by omega)
   ·rw [if_neg e2,if_neg e2]; exact rotN_more m n n' _ _ _ hi (by omega) (by omega) (by omega)
theorem rotN_app {m:Nat}:∀ (n:Nat) {i j:Nat} {Q u v T:List E},i=u.length→j=v.length→m=Q.length+u.length→0<i→0<j→i+j≤n →
  rotN m n i j (Q ++ (u ++ (v ++ T)))=Q ++ (v ++ (u ++ T))
 | 0,i,j,Q,u,v,T,hu,hv,hm,hi,hj,hn=>by omega
 | n+1,i,j,Q,u,v,T,hu,hv,hm,hi,hj,hn=>by
  simp only [rotN]
  by_cases e:i=j
  ·rw [if_pos e]
   have:=swp_app (Q:=Q) (x:=u) (y:=[]) (z:=v) (T:=T) (n:=i) (a:=m-i) (b:=m) (by omega) (by omega) (by omega) (by simp; omega)
   simpa using this
  ·rw [if_neg e]
   by_cases e2:j<i
   ·rw [if_pos e2]
    have hs:u=u.take j ++ u.drop j:=(List.take_append_drop j u).symm
    have hl:(u.take j).length=j:=by simp; omega
    have hl2:(u.drop j).length=i-j:=by simp; omega
    generalize u.take j=x at hs hl
    generalize u.drop j=y at hs hl2
    subst hs
    have:=swp_app (Q:=Q) (x:=x) (y:=y) (z:=v) (T:=T) (n:=j) (a:=m-i) (b:=m) hl (by omega) (by omega) (by simp at hm; omega)
    rw [List.append_assoc x y,this]
    have:=rotN_app n (m:=m) (i:=i-j) (j:=j) (Q:=Q ++ v) (u:=y) (v:=x) (T:=T) (by omega) (by omega) (by simp at hm ⊢; omega) (by omega) hj (by omega)
    simpa using this
   ·rw [if_neg e2]
    have hs:v=v.take (j-i) ++ v.drop (j-i):=(List.take_append_drop (j-i) v).symm
    have hl:(v.take (j-i)).length=j-i:=by simp; omega
    have hl2:(v.drop (j-i)).length=i:=by simp; omega
    generalize v.take (j-i)=x at hs hl
    generalize v.drop (j-i)=y at hs hl2
    subst hs
    have:=swp_app (Q:=Q) (x:=u) (y:=x) (z:=y) (T:=T) (n:=i) (a:=m-i) (b:=m+j-i) (by omega) hl2 (by omega) (by omega)
    rw [List.append_assoc x y,this]
    have:=rotN_app n (m:=m) (i:=i) (j:=j-i) (Q:=Q) (u:=y) (v:=x) (T:=u ++ T) (by omega) (by omega) (by omega) hi (by omega) (by omega)
    rw [this]; simp
def Merged (cmp:E→E→Int) (u w:List E):Prop:=Srt cmp w∧Flt cmp w u∧w.length=u.length
theorem merge_split (hp:Pre cmp) {u1 u2 v1 v2 w1 w2:List E} (hu:Srt cmp (u1 ++ u2)) (hv:Srt cmp (v1 ++ v2))
  (h1:∀ x∈v1,∀ y∈u2,cmp x y<0) (h2:∀ x∈u1,∀ y∈v2,cmp x y≤0) (k1:Merged cmp (u1 ++ v1) w1) (k2:Merged cmp (u2 ++ v2) w2) :
  Merged cmp ((u1 ++ u2) ++ (v1 ++ v2)) (w1 ++ w2):=by
 refine ⟨k1.1.app k2.1 fun x hx y hy=>?_,?_,by have:=k1.2.2; have:=k2.2.2; simp at *; omega⟩
 ·have hx:=(k1.2.1.mem hp).1 hx
  have hy:=(k2.2.1.mem hp).1 hy
  rcases List.mem_append.1 hx with hx | hx <;> rcases List.mem_append.1 hy with hy | hy
  ·exact hu.cross hx hy
  ·exact h2 x hx y hy
  ·have:=h1 x hx y hy; omega
  ·exact hv.cross hx hy
 ·have e1:=k1.2.1.app k2.2.1
  refine e1.trans ?_
  have:=((Flt.refl (cmp:=cmp) u1).app (Flt.swap hp h1)).app (Flt.refl (cmp:=cmp) v2)
  simpa using this
end
end Go.Aw
namespace Go.Aw.Try
open Go Go.Proofs Go.Aw
set_option maxRecDepth 100000
set_option maxHeartbeats 4000000
section
variable {E:Type} [Inhabited E]
theorem k77 (row:E→List D) (hrow:∀ e,RowOk 8 (row e)) (cmp:E→E→Int) (f:Nat) (xf:XE) (hx:Contract prog G0 f xf) (hsc:xf.sc=true)
  (hxg:∀ a b,xf.g [.agg (row a),.agg (row b)]=some (True,.int .i64 (cmp a b))) (es:List E) (a b:Nat) (hab:a≤b) (hb:b≤es.length) (hl:es.length<4611686018427387904)
  (H:List O) (r:Nat) (hr:r<H.length) :
  ACalls prog G0 117 [.c (.os r 8 0 es.length),I a,I b,.c (.fn f [])] (H.set r (.row 8 (es.map row))) fun t H'=>t = .tup []∧H'=H.set r (.row 8 ((insN cmp a (b-(a+1)) (a+1) es).map row)):=by
 refine acallsX (X:=[(f,xf)]) ⟨hx,trivial⟩ tab hmix func117 c77 (by rfl) fun hw=>?_
 simp -implicitDefEqProofs (disch:=omega) [gz,ir77,b77,wrap64]
 refine loopX (fun k s=>∃ i es',a<i∧(i≤b∨i=a+1)∧k=b-i∧es'.length=es.length∧insN cmp a (b-i) i es'=insN cmp a (b-(a+1)) (a+1) es ∧
  s=⟨ofL [(0,.v (.c (.os r 8 0 es.length))),(1,.int .i64 a),(2,.int .i64 b),(3,.v (.c (.fn f []))),(8,.int .i64 i)],H.set r (.row 8 (es'.map row))⟩) ?_ ?_
 ·refine wk_keep [0,1,2,3,8] ⟨_,a+1,es,by omega,by omega,rfl,rfl,rfl,?_⟩
  simp
 ·rintro k s ⟨i,es',hai,hib,rfl,hle,hins,rfl⟩
  by_cases hlt:i<b
  ·simp -implicitDefEqProofs (disch:=omega) [gz,hlt,wrap64]
   refine loopX (fun k s=>∃ j,a≤j∧j≤i∧k=j∧insP cmp es' a (nth es' i) i=insP cmp es' a (nth es' i) j ∧
    s=⟨ofL [(0,.v (.c (.os r 8 0 es.length))),(1,.int .i64 a),(2,.int .i64 b),(3,.v (.c (.fn f []))),(8,.int .i64 i),(9,.int .i64 j)],H.set r (.row 8 ((mv es' i j).map row))⟩) ?_ ?_
   ·refine wk_keep [0,1,2,3,8,9] ⟨_,i,by omega,by omega,rfl,rfl,?_⟩
    simp [mv_self es' (show i<es'.length by omega)]
   ·rintro j s ⟨_,haj,hji,rfl,hp,rfl⟩
    by_cases hj:a<j
    ·have hil:i<es'.length:=by omega
     have hml:=mv_len es' hji hil
     have hjl:j<(mv es' i j).length:=by omega
     have hjl':j-1<(mv es' i j).length:=by omega
     have e1:=mv_at es' hji hil
     have e2:=mv_pred es' hji hil (by omega)
     have eN:((j:Int)-1).toNat=j-1:=by omega
     simp -implicitDefEqProofs (disch:=omega) [gz,hj,wrap64,hr,nth_map,hjl,hjl',e1,e2,eN,(hrow _).len,take_of_len,(hrow _).mapO,(hrow _).tk,(hrow _).nrm,borRow,(hrow _).cl,borV_map,osR_map,frz_map,nth_set_ne,(hrow _).spl (hrow _),hsc,hxg]
     have hcast:((j-1:Nat):Int)=(j:Int)-1:=by omega
     have hsw:(((mv es' i j).map row).set j (row (nth es' (j-1)))).set (j-1) (row (nth es' i))=(mv es' i (j-1)).map row:=by
      rw [← List.map_set,← List.map_set,mv_swap es' hji hil (by omega)]
     refine ⟨by kernel_rfl,by omega,by omega,fun hc=>?_,fun hc=>?_⟩
     ·repeat' apply And.intro
      all_goals first | omega | kernel_rfl | skip
      refine wk_keep [0,1,2,3,8,9] ⟨j-1,by omega,j-1,by omega,by omega,rfl,?_,?_⟩
      ·rw [hp]
       obtain ⟨m,rfl⟩:∃ m,j=m+1:=⟨j-1,by omega⟩
       simp only [insP]
       rw [if_pos ⟨hj,by simpa using hc⟩]; rfl
      ·simp [hcast,hsw]
     ·have hpj:insP cmp es' a (nth es' i) i=j:=by
       rw [hp]
       obtain ⟨m,rfl⟩:∃ m,j=m+1:=⟨j-1,by omega⟩
       simp only [insP]
       rw [if_neg (fun q=>absurd q.2 (by simpa using hc))]
      have e3:b-i=(b-(i+1))+1:=by omega
      refine wk_keep [0,1,2,3,8] ⟨b-(i+1),by omega,i+1,by omega,by omega,rfl,mv es' i j,by omega,?_,?_⟩
      ·rw [← hins,e3]; simp only [insN,hpj]
      ·simp
    ·have hil:i<es'.length:=by omega
     have hml:=mv_len es' hji hil
     simp -implicitDefEqProofs (disch:=omega) [gz,hj,wrap64]
     have hpj:insP cmp es' a (nth es' i) i=j:=by
      rw [hp]
      cases j with
      | zero=>rfl
      | succ m=>simp only [insP]; rw [if_neg (fun q=>hj q.1)]
     have e3:b-i=(b-(i+1))+1:=by omega
     refine ⟨by kernel_rfl,?_⟩
     refine wk_keep [0,1,2,3,8] ⟨b-(i+1),by omega,i+1,by omega,by omega,rfl,mv es' i j,by omega,?_,?_⟩
     ·rw [← hins,e3]; simp only [insN,hpj]
     ·simp
  ·simp -implicitDefEqProofs (disch:=omega) [gz,hlt,wrap64]
   have e:b-i=0:=by omega
   rw [e] at hins
   simp only [insN] at hins
   exact fin_here (by simp) ⟨rfl,by rw [hins]⟩
end
section
variable {E:Type} [Inhabited E]
theorem k103 (row:E→List D) (hrow:∀ e,RowOk 8 (row e)) (es:List E) (a b n:Nat) (hab:a+n≤b) (hb:b+n≤es.length) (hl:es.length<4611686018427387904) (f:Nat)
  (H:List O) (r:Nat) (hr:r<H.length) :
  ACalls prog G0 171 [.c (.os r 8 0 es.length),I a,I b,I n,.c (.fn f [])] (H.set r (.row 8 (es.map row))) fun t H'=>t = .tup []∧H'=H.set r (.row 8 ((swp es a b n).map row)):=by
 refine acallsX (X:=[]) trivial tab hmix func171 c103 (by rfl) fun hw=>?_
 simp -implicitDefEqProofs (disch:=omega) [gz,ir103,b103,wrap64]
 refine loopX (fun k s=>∃ i,i≤n∧k=n-i ∧
  s=⟨ofL [(0,.v (.c (.os r 8 0 es.length))),(1,.int .i64 a),(2,.int .i64 b),(3,.int .i64 n),(10,.int .i64 i)],H.set r (.row 8 ((swp es a b i).map row))⟩) ?_ ?_
 ·refine wk_keep [0,1,2,3,10] ⟨_,0,by omega,rfl,?_⟩
  simp [swp]
 ·rintro k s ⟨i,hi,rfl,rfl⟩
  have hsl:=swp_len es a b i
  by_cases hlt:i<n
  ·have n1:((a:Int)+i).toNat=a+i:=by omega
   have n2:((b:Int)+i).toNat=b+i:=by omega
   simp -implicitDefEqProofs (disch:=omega) [gz,hlt,wrap64,hr,nth_map,hsl,n1,n2,(hrow _).len,take_of_len,(hrow _).mapO,(hrow _).tk,(hrow _).nrm,borRow,(hrow _).cl,borV_map,osR_map,frz_map,nth_set_ne,(hrow _).spl (hrow _)]
   repeat' apply And.intro
   all_goals first | omega | kernel_rfl | skip
   refine wk_keep [0,1,2,3,10] ⟨n-(i+1),by omega,i+1,by omega,rfl,?_⟩
   simp [swp,swap2,List.map_set]
  ·have:i=n:=by omega
   subst this
   simp -implicitDefEqProofs (disch:=omega) [gz,hlt,wrap64]
   exact fin_here (by simp) ⟨rfl,rfl⟩
end
section
variable {E:Type} [Inhabited E]
theorem k95 (row:E→List D) (hrow:∀ e,RowOk 8 (row e)) (es:List E) (a m b:Nat) (ham:a<m) (hmb:m<b) (hb:b≤es.length) (hl:es.length<4611686018427387904) (f:Nat)
  (H:List O) (r:Nat) (hr:r<H.length) :
  ACalls prog G0 166 [.c (.os r 8 0 es.length),I a,I m,I b,.c (.fn f [])] (H.set r (.row 8 (es.map row))) fun t H'=>t = .tup []∧H'=H.set r (.row 8 ((rotN m (b-a) (m-a) (b-m) es).map row)):=by
 refine acallsX (X:=[]) trivial tab hmix func166 c95 (by rfl) fun hw=>?_
 simp -implicitDefEqProofs (disch:=omega) [gz,ir95,b95,wrap64]
 refine loopG (fun k s=>∃ i j es',0<i∧0<j∧i≤m-a∧j≤b-m∧k=i+j∧es'.length=es.length∧rotN m (b-a) i j es'=rotN m (b-a) (m-a) (b-m) es ∧
  s=⟨ofL [(0,.v (.c (.os r 8 0 es.length))),(2,.int .i64 m),(4,.v (.c (.fn f []))),(10,.int .i64 i),(11,.int .i64 j)],H.set r (.row 8 (es'.map row))⟩) ?_ ?_
 ·have c1:((m-a:Nat):Int)=m-a:=by omega
  have c2:((b-m:Nat):Int)=b-m:=by omega
  refine wk_keep [0,2,4,10,11] ⟨_,m-a,b-m,es,by omega,by omega,by omega,by omega,rfl,rfl,rfl,?_⟩
  simp [c1,c2]
 ·rintro J hJ k s ⟨i,j,es',hi,hj,hia,hjb,rfl,hle,hrot,rfl⟩
  obtain ⟨n0,hn0⟩:∃ n0,b-a=n0+1:=⟨b-a-1,by omega⟩
  have ci:((m-i:Nat):Int)=m-i:=by omega
  by_cases he:i=j
  ·subst he
   simp -implicitDefEqProofs (disch:=omega) [gz,wrap64]
   have hc:=k103 row hrow es' (m-i) m i (by omega) (by omega) (by omega) f H r hr
   rw [hle,ci] at hc
   refine hc.mono ?_
   rintro t H' ⟨rfl,rfl⟩
   simp only [callK]
   refine fin_here (by simp) ⟨rfl,?_⟩
   rw [← hrot,hn0]; simp only [rotN,if_true]
  ·have hec:¬ (i:Int)=j:=by omega
   by_cases hlt:j<i
   ·simp -implicitDefEqProofs (disch:=omega) [gz,hec,hlt,wrap64]
    have hc:=k103 row hrow es' (m-i) m j (by omega) (by omega) (by omega) f H r hr
    rw [hle,ci] at hc
    refine hc.mono ?_
    rintro t H' ⟨rfl,rfl⟩
    simp -implicitDefEqProofs (disch:=omega) [callK,List.getElem?_cons_zero,wrap64]
    have cij:((i-j:Nat):Int)=i-j:=by omega
    subst hJ
    refine wk_keep [0,2,4,10,11] ⟨i-j+j,by omega,i-j,j,swp es' (m-i) m j,by omega,by omega,by omega,by omega,rfl,by rw [swp_len]; exact hle,?_,?_⟩
    ·have e:rotN m (b-a) i j es'=rotN m n0 (i-j) j (swp es' (m-i) m j):=by rw [hn0]; simp only [rotN,if_neg he,if_pos hlt]
     rw [← hrot,e]
     exact rotN_more m (b-a) n0 (i-j) j _ (by omega) hj (by omega) (by omega)
    ·simp [cij]
   ·simp -implicitDefEqProofs (disch:=omega) [gz,hec,hlt,wrap64]
    have cm:((m+j-i:Nat):Int)=m+j-i:=by omega
    have hc:=k103 row hrow es' (m-i) (m+j-i) i (by omega) (by omega) (by omega) f H r hr
    rw [hle,ci,cm] at hc
    refine hc.mono ?_
    rintro t H' ⟨rfl,rfl⟩
    have cij:((j-i:Nat):Int)=j-i:=by omega
    simp -implicitDefEqProofs (disch:=omega) [callK,List.getElem?_cons_zero,wrap64]
    subst hJ
    refine wk_keep [0,2,4,10,11] ⟨i+(j-i),by omega,i,j-i,swp es' (m-i) (m+j-i) i,by omega,by omega,by omega,by omega,rfl,by rw [swp_len]; exact hle,?_,?_⟩
    ·have e:rotN m (b-a) i j es'=rotN m n0 i (j-i) (swp es' (m-i) (m+j-i) i):=by rw [hn0]; simp only [rotN,if_neg he,if_neg hlt]
     rw [← hrot,e]
     exact rotN_more m (b-a) n0 i (j-i) _ hi (by omega) (by omega) (by omega)
    ·simp [cij]
end
end Go.Aw.Try
namespace Go.Aw
theorem wrapU64 {n:Int} (h1:0≤n) (h2:n≤18446744073709551615):IntKind.u64.wrap n=n:=by
 simp [IntKind.wrap,IntKind.bits,IntKind.signed]; omega
theorem half (i j:Nat):Int.fdiv ((i:Int)+j) (2^min 1 IntKind.u64.bits)=(((i+j) / 2:Nat):Int):=by
 show Int.fdiv ((i:Int)+j) 2=_
 rw [Int.fdiv_eq_ediv_of_nonneg _ (by omega)]; omega
theorem seq_assoc {P:Program} {G:Gl} {X:XT} {N0:Nat} {a b c:AC} {st:St} {Q:Qt}:wcodeX P G X N0 (.seq a (.seq b c)) st Q=wcodeX P G X N0 (.seq (.seq a b) c) st Q:=by
 show wcodeX P G X N0 a st (thenQ (wcodeX P G X N0 (.seq b c)) Q)=wcodeX P G X N0 a st (thenQ (wcodeX P G X N0 b) (thenQ (wcodeX P G X N0 c) Q))
 congr 1
 funext e s
 cases e <;> rfl
section
variable {E:Type}
theorem swap_adj {P A T:List E} {x y:E} {q:Nat} (hq:q=P.length+A.length):((P ++ (A ++ (x :: (y :: T)))).set q y).set (q+1) x=P ++ ((A ++ [y]) ++ (x :: T)):=by
 subst hq
 rw [← List.append_assoc P A,← List.length_append,List.set_append_right _ _ (by omega),Nat.sub_self,List.set_cons_zero,List.set_append_right _ _ (by omega),Nat.add_sub_cancel_left]
 simp
theorem swap_adj2 {P U A T:List E} {z y:E} {q:Nat} (hq:q=P.length+U.length+A.length+1):((P ++ (U ++ ((A ++ [z]) ++ (y :: T)))).set q z).set (q-1) y=P ++ (U ++ (A ++ (y :: (z :: T)))):=by
 subst hq
 have e:P ++ (U ++ ((A ++ [z]) ++ (y :: T)))=(P ++ U ++ A) ++ (z :: y :: T):=by simp
 have l:P.length+U.length+A.length=(P ++ U ++ A).length:=by simp; omega
 rw [e,l,Nat.add_sub_cancel,List.set_append_right _ _ (by omega),Nat.add_sub_cancel_left,List.set_cons_succ,List.set_cons_zero,List.set_append_right _ _ (by omega),Nat.sub_self]
 simp
theorem split_at (l:List E) {n:Nat} (h:n≤l.length):∃ x y,l=x ++ y∧x.length=n:=⟨l.take n,l.drop n,(List.take_append_drop n l).symm,by simp; omega⟩
end
structure Mg {E:Type} [Inhabited E] (cmp:E→E→Int) (P u v S es:List E) (a m b:Nat):Prop where
 hes:es=P ++ (u ++ (v ++ S))
 ha:a=P.length
 hm:m=P.length+u.length
 hb:b=P.length+u.length+v.length
 hul:0<u.length
 hvl:0<v.length
 hus:Srt cmp u
 hvs:Srt cmp v
 heL:es.length=b+S.length
 nu:∀ c,a≤c→c<m→nth es c=nth u (c-a)
 nv:∀ c,m≤c→c<b→nth es c=nth v (c-m)
 mu:∀ c c',a≤c→c≤c'→c'<m→cmp (nth es c) (nth es c')≤0
 mv:∀ c c',m≤c→c≤c'→c'<b→cmp (nth es c) (nth es c')≤0
theorem Mg.mk' {E:Type} [Inhabited E] {cmp:E→E→Int} (hp:Pre cmp) {P u v S:List E} (hu0:u≠[]) (hv0:v≠[]) (hus:Srt cmp u) (hvs:Srt cmp v) :
  Mg cmp P u v S (P ++ (u ++ (v ++ S))) P.length (P.length+u.length) (P.length+u.length+v.length):=by
 obtain ⟨es,hes⟩:∃ es,es=P ++ (u ++ (v ++ S)):=⟨_,rfl⟩
 obtain ⟨a,ha⟩:∃ a,a=P.length:=⟨_,rfl⟩
 obtain ⟨m,hm⟩:∃ m,m=P.length+u.length:=⟨_,rfl⟩
 obtain ⟨b,hb⟩:∃ b,b=P.length+u.length+v.length:=⟨_,rfl⟩
 have hul:0<u.length:=List.length_pos_iff.2 hu0
 have hvl:0<v.length:=List.length_pos_iff.2 hv0
 have heL:es.length=b+S.length:=by rw [hes,hb]; simp; omega
 have nu:∀ c,a≤c→c<m→nth es c=nth u (c-a):=fun c h1 h2=>by
  rw [hes,nth_app_r (by omega),nth_app_l (by omega),ha]
 have nv:∀ c,m≤c→c<b→nth es c=nth v (c-m):=fun c h1 h2=>by
  rw [hes,nth_app_r (by omega),nth_app_r (by omega),nth_app_l (by omega)]; congr 1; omega
 have mu:∀ c c',a≤c→c≤c'→c'<m→cmp (nth es c) (nth es c')≤0:=fun c c' h1 h2 h3=>by
  rw [nu c h1 (by omega),nu c' (by omega) h3]; exact hus.nth_le hp (by omega) (by omega)
 have mv:∀ c c',m≤c→c≤c'→c'<b→cmp (nth es c) (nth es c')≤0:=fun c c' h1 h2 h3=>by
  rw [nv c h1 (by omega),nv c' (by omega) h3]; exact hvs.nth_le hp (by omega) (by omega)
 rw [← hes,← hb,← hm,← ha]
 exact ⟨hes,ha,hm,hb,hul,hvl,hus,hvs,heL,nu,nv,mu,mv⟩
end Go.Aw
namespace Go.Aw.Try
open Go Go.Proofs Go.Aw
set_option maxRecDepth 100000
set_option maxHeartbeats 4000000
section
variable {E:Type} [Inhabited E]
theorem k78_p0 (row:E→List D) (hrow:∀ e,RowOk 8 (row e)) (cmp:E→E→Int) (hp:Pre cmp) (f:Nat) (xf:XE) (hsc:xf.sc=true) (hf1:f≠166) (hf2:f≠154)
  (hxg:∀ a b,xf.g [.agg (row a),.agg (row b)]=some (True,.int .i64 (cmp a b))) (H:List O) (r:Nat) (hr:r<H.length) {P u v S es:List E} {a m b:Nat} (M:Mg cmp P u v S es a m b) (hlen:es.length<4611686018427387904) (hw:Wf (H.set r (.row 8 (es.map row)))) :
  wcodeX prog G0 [(f,xf)] (H.set r (.row 8 (es.map row))).length b78_0 ⟨argSl [.c (.os r 8 0 es.length),I a,I m,I b,.c (.fn f [])],(H.set r (.row 8 (es.map row)))⟩ (cutQ (fun s=>m≠a+1∧AtS [(0,.v (.c (.os r 8 0 es.length))),(1,.int .i64 a),(2,.int .i64 m),(3,.int .i64 b),(4,.v (.c (.fn f [])))] (H.set r (.row 8 (es.map row))) s) (retQ prog (H.set r (.row 8 (es.map row))).length ir78.res (fun t H'=>t = .tup []∧∃ w,Merged cmp (u ++ v) w∧H'=H.set r (.row 8 ((P ++ (w ++ S)).map row))))):=by
 obtain ⟨hes,ha,hm,hb,hul,hvl,hus,hvs,heL,nu,nv,mu,mv⟩:=M
 obtain ⟨n,hn⟩:∃ n,u.length+v.length=n:=⟨_,rfl⟩
 generalize hJJ:(fun s=>m≠a+1∧AtS [(0,.v (.c (.os r 8 0 es.length))),(1,.int .i64 a),(2,.int .i64 m),(3,.int .i64 b),(4,.v (.c (.fn f [])))] (H.set r (.row 8 (es.map row))) s)=JJ
 by_cases h1:m=a+1
 ·have h1':(m:Int)-a=1:=by omega
  simp -implicitDefEqProofs (disch:=omega) [gz,b78_0,wrap64,h1']
  refine loopE (fun k s=>∃ i j,m≤i∧i≤j∧j≤b∧k=j-i∧(∀ c,m≤c→c<i→cmp (nth es c) (nth es a)<0)∧(∀ c,j≤c→c<b→¬ cmp (nth es c) (nth es a)<0) ∧
   s=⟨ofL [(0,.v (.c (.os r 8 0 es.length))),(1,.int .i64 a),(4,.v (.c (.fn f []))),(10,.int .i64 i),(11,.int .i64 j)],H.set r (.row 8 (es.map row))⟩)
   (fun s=>∃ i:Nat,m≤i∧i≤b∧(∀ c,m≤c→c<i→cmp (nth es c) (nth es a)<0)∧(∀ c,i≤c→c<b→¬ cmp (nth es c) (nth es a)<0)∧AtS [(0,.v (.c (.os r 8 0 es.length))),(1,.int .i64 a),(10,.int .i64 i)] (H.set r (.row 8 (es.map row))) s) ?_ ?_ ?_
  ·refine wk_keep [0,1,4,10,11] ⟨_,m,b,Nat.le_refl _,by omega,Nat.le_refl _,rfl,fun c h1 h2=>by omega,fun c h1 h2=>by omega,?_⟩
   simp
  ·rintro J L hJ hL k s ⟨i,j,hmi,hij,hjb,rfl,hlo,hhi,rfl⟩
   by_cases hlt:i<j
   ·have n1:(((i+j) / 2:Nat):Int).toNat=(i+j) / 2:=by omega
    have c1:(((i+j) / 2:Nat):Int)+1=(((i+j) / 2+1:Nat):Int):=by omega
    obtain ⟨c,hc⟩:∃ c,c=(i+j) / 2:=⟨_,rfl⟩
    simp -implicitDefEqProofs (disch:=omega) [gz,hlt,wrap64,wrapU64,half,← hc,hr,nth_map,(hrow _).len,take_of_len,(hrow _).mapO,(hrow _).tk,(hrow _).nrm,borRow,(hrow _).cl,borV_map,osR_map,frz_map,nth_set_ne,(hrow _).spl (hrow _),hsc,hxg]
    repeat' apply And.intro
    all_goals first | omega | kernel_rfl | skip
    ·intro h
     subst hJ
     refine wk_keep [0,1,4,10,11] ⟨j-(c+1),by omega,c+1,j,by omega,by omega,by omega,rfl,fun c' q1 q2=>hp.le_lt (mv c' c q1 (by omega) (by omega)) h,hhi,?_⟩
     simp
    ·intro h
     subst hJ
     refine wk_keep [0,1,4,10,11] ⟨c-i,by omega,i,c,by omega,by omega,by omega,rfl,hlo,fun c' q1 q2 q=>?_,?_⟩
     ·have:=hp.le_lt (mv c c' (by omega) q1 (by omega)) q
      omega
     ·simp
   ·simp -implicitDefEqProofs (disch:=omega) [gz,hlt]
    subst hL
    have:i=j:=by omega
    subst this
    exact ⟨i,hmi,hjb,hlo,hhi,at_mk (by simp) rfl⟩
  ·rintro _ ⟨i,hmi,hib,hlo,hhi,sl,rfl⟩
   simp -implicitDefEqProofs (disch:=omega) [gz,wrap64]
   obtain ⟨x,rfl⟩:∃ x,u=[x]:=List.length_eq_one_iff.1 (by omega)
   obtain ⟨V1,V2,rfl,hV⟩:=split_at v (n:=i-m) (by omega)
   have hx0:nth es a=x:=by rw [nu a (by omega) (by omega),Nat.sub_self]; rfl
   simp only [List.length_append,List.length_singleton] at hm hb hn hvl
   have hV1:∀ y∈V1,cmp y x<0:=fun y hy=>by
    obtain ⟨k,hk,e⟩:=mem_nth hy
    have:=hlo (m+k) (by omega) (by omega)
    rw [hx0,nv _ (by omega) (by omega),Nat.add_sub_cancel_left,nth_app_l hk,e] at this; exact this
   have hV2:∀ y∈V2,cmp x y≤0:=fun y hy=>by
    obtain ⟨k,hk,e⟩:=mem_nth hy
    have:=hhi (i+k) (by omega) (by omega)
    rw [hx0,nv _ (by omega) (by omega),nth_app_r (by omega),show i+k-m-V1.length=k by omega,e] at this; exact hp.le_of_not this
   refine loopG (fun k s=>∃ A B q,V1=A ++ B∧k=B.length∧q=a+A.length∧s=⟨ofL [(0,.v (.c (.os r 8 0 es.length))),(10,.int .i64 i),(13,.int .i64 q)],H.set r (.row 8 ((P ++ (A ++ (x :: (B ++ (V2 ++ S))))).map row))⟩) ?_ ?_
   ·refine wk_keep [0,10,13] ⟨_,[],V1,a,rfl,rfl,rfl,?_⟩
    simp [hes]
   ·rintro J hJ k s ⟨A,B,q,rfl,rfl,hq,rfl⟩
    simp only [List.length_append] at hV hb hn
    cases B with
    | nil =>
     have hlt:¬ (q:Int)<(i:Int)-1:=by simp at hV; omega
     simp -implicitDefEqProofs (disch:=omega) [gz,hlt,wrap64]
     refine fin_here (by simp) ⟨rfl,(A ++ []) ++ ([x] ++ V2),?_,by simp⟩
     have:=merge_split hp (u1:=[]) (u2:=[x]) (v1:=A ++ []) (v2:=V2) (w1:=A ++ []) (w2:=[x] ++ V2) hus hvs (fun y hy z hz=>by simp at hz; subst hz; exact hV1 y hy) (by simp)
      ⟨hvs.left,Flt.refl _,rfl⟩ ⟨(by simpa using hus:Srt cmp [x]).app hvs.right fun y hy z hz=>by simp at hy; subst hy; exact hV2 z hz,Flt.refl _,rfl⟩
     simpa using this
    | cons y B =>
     simp only [List.length_cons] at hV hb hn
     have hlt:(q:Int)<(i:Int)-1:=by omega
     obtain ⟨es',he'⟩:∃ es',es'=P ++ (A ++ (x :: (y :: (B ++ (V2 ++ S))))):=⟨_,rfl⟩
     have hl':es'.length=es.length:=by rw [he',hes]; simp; omega
     have e1:nth es' q=x:=by rw [he',nth_app_r (by omega),nth_app_r (by omega),show q-P.length-A.length=0 by omega]; rfl
     have e2:nth es' (q+1)=y:=by rw [he',nth_app_r (by omega),nth_app_r (by omega),show q+1-P.length-A.length=1 by omega]; rfl
     have n1:((q:Int)+1).toNat=q+1:=by omega
     have hd:P ++ (A ++ (x :: (y :: B ++ (V2 ++ S))))=es':=by rw [he']; simp
     rw [hd]
     have hsw:(((es'.map row).set q (row y)).set (q+1) (row x))=((P ++ ((A ++ [y]) ++ (x :: (B ++ (V2 ++ S))))).map row):=by
      rw [← List.map_set,← List.map_set,he',swap_adj (by omega)]
     simp -implicitDefEqProofs (disch:=omega) [gz,hlt,wrap64,n1,e1,e2,hl',hr,nth_map,(hrow _).len,take_of_len,(hrow _).mapO,(hrow _).tk,(hrow _).nrm,borRow,(hrow _).cl,borV_map,osR_map,frz_map,nth_set_ne,(hrow _).spl (hrow _),hsc,hxg]
     repeat' apply And.intro
     all_goals first | omega | kernel_rfl | skip
     subst hJ
     refine wk_keep [0,10,13] ⟨B.length,by simp,A ++ [y],B,q+1,by simp,rfl,by simp; omega,?_⟩
     rw [hsw]
     simp
 ·have h1':¬ (m:Int)-a=1:=by omega
  simp -implicitDefEqProofs (disch:=omega) [gz,b78_0,wrap64,h1']
  subst JJ
  exact ⟨h1,at_mk (by simp) rfl⟩
end
section
variable {E:Type} [Inhabited E]
theorem k78_p1 (row:E→List D) (hrow:∀ e,RowOk 8 (row e)) (cmp:E→E→Int) (hp:Pre cmp) (f:Nat) (xf:XE) (hsc:xf.sc=true) (hf1:f≠166) (hf2:f≠154)
  (hxg:∀ a b,xf.g [.agg (row a),.agg (row b)]=some (True,.int .i64 (cmp a b))) (H:List O) (r:Nat) (hr:r<H.length) {P u v S es:List E} {a m b:Nat} (M:Mg cmp P u v S es a m b) (hlen:es.length<4611686018427387904) (hma:m≠a+1) (sl:Nat→T) :
  wcodeX prog G0 [(f,xf)] (H.set r (.row 8 (es.map row))).length b78_1 ⟨ofLr [(0,.v (.c (.os r 8 0 es.length))),(1,.int .i64 a),(2,.int .i64 m),(3,.int .i64 b),(4,.v (.c (.fn f [])))] sl,(H.set r (.row 8 (es.map row)))⟩ (cutQ (fun s=>b≠m+1∧AtS [(0,.v (.c (.os r 8 0 es.length))),(1,.int .i64 a),(2,.int .i64 m),(3,.int .i64 b),(4,.v (.c (.fn f [])))] (H.set r (.row 8 (es.map row))) s) (retQ prog (H.set r (.row 8 (es.map row))).length ir78.res (fun t H'=>t = .tup []∧∃ w,Merged cmp (u ++ v) w∧H'=H.set r (.row 8 ((P ++ (w ++ S)).map row))))):=by
 obtain ⟨hes,ha,hm,hb,hul,hvl,hus,hvs,heL,nu,nv,mu,mv⟩:=M
 obtain ⟨n,hn⟩:∃ n,u.length+v.length=n:=⟨_,rfl⟩
 generalize hJJ:(fun s=>b≠m+1∧AtS [(0,.v (.c (.os r 8 0 es.length))),(1,.int .i64 a),(2,.int .i64 m),(3,.int .i64 b),(4,.v (.c (.fn f [])))] (H.set r (.row 8 (es.map row))) s)=JJ
 by_cases h1:b=m+1
 ·have h1':(b:Int)-m=1:=by omega
  simp -implicitDefEqProofs (disch:=omega) [gz,b78_1,wrap64,h1']
  refine loopE (fun k s=>∃ i j,a≤i∧i≤j∧j≤m∧k=j-i∧(∀ c,a≤c→c<i→¬ cmp (nth es m) (nth es c)<0)∧(∀ c,j≤c→c<m→cmp (nth es m) (nth es c)<0) ∧
   s=⟨ofL [(0,.v (.c (.os r 8 0 es.length))),(2,.int .i64 m),(4,.v (.c (.fn f []))),(14,.int .i64 i),(15,.int .i64 j)],H.set r (.row 8 (es.map row))⟩)
   (fun s=>∃ i:Nat,a≤i∧i≤m∧(∀ c,a≤c→c<i→¬ cmp (nth es m) (nth es c)<0)∧(∀ c,i≤c→c<m→cmp (nth es m) (nth es c)<0)∧AtS [(0,.v (.c (.os r 8 0 es.length))),(2,.int .i64 m),(14,.int .i64 i)] (H.set r (.row 8 (es.map row))) s) ?_ ?_ ?_
  ·refine wk_keep [0,2,4,14,15] ⟨_,a,m,Nat.le_refl _,by omega,Nat.le_refl _,rfl,fun c h1 h2=>by omega,fun c h1 h2=>by omega,?_⟩
   simp
  ·rintro J L hJ hL k s ⟨i,j,hmi,hij,hjb,rfl,hlo,hhi,rfl⟩
   by_cases hlt:i<j
   ·obtain ⟨c,hc⟩:∃ c,c=(i+j) / 2:=⟨_,rfl⟩
    simp -implicitDefEqProofs (disch:=omega) [gz,hlt,wrap64,wrapU64,half,← hc,hr,nth_map,(hrow _).len,take_of_len,(hrow _).mapO,(hrow _).tk,(hrow _).nrm,borRow,(hrow _).cl,borV_map,osR_map,frz_map,nth_set_ne,(hrow _).spl (hrow _),hsc,hxg]
    repeat' apply And.intro
    all_goals first | omega | kernel_rfl | skip
    ·intro h
     subst hJ
     refine wk_keep [0,2,4,14,15] ⟨j-(c+1),by omega,c+1,j,by omega,by omega,by omega,rfl,fun c' q1 q2 q=>?_,hhi,?_⟩
     ·have:=hp.lt_le q (mu c' c q1 (by omega) (by omega)); omega
     ·simp
    ·intro h
     subst hJ
     refine wk_keep [0,2,4,14,15] ⟨c-i,by omega,i,c,by omega,by omega,by omega,rfl,hlo,fun c' q1 q2=>hp.lt_le h (mu c c' (by omega) q1 (by omega)),?_⟩
     simp
   ·simp -implicitDefEqProofs (disch:=omega) [gz,hlt]
    subst hL
    have:i=j:=by omega
    subst this
    exact ⟨i,hmi,hjb,hlo,hhi,at_mk (by simp) rfl⟩
  ·rintro _ ⟨i,hmi,hib,hlo,hhi,sl,rfl⟩
   simp -implicitDefEqProofs (disch:=omega) [gz,wrap64]
   obtain ⟨y,rfl⟩:∃ y,v=[y]:=List.length_eq_one_iff.1 (by omega)
   obtain ⟨U1,U2,rfl,hU⟩:=split_at u (n:=i-a) (by omega)
   have hy0:nth es m=y:=by rw [nv m (by omega) (by omega),Nat.sub_self]; rfl
   simp only [List.length_append,List.length_singleton] at hm hb hn hul
   have hU1:∀ x∈U1,cmp x y≤0:=fun x hx=>by
    obtain ⟨k,hk,e⟩:=mem_nth hx
    have:=hlo (a+k) (by omega) (by omega)
    rw [hy0,nu _ (by omega) (by omega),Nat.add_sub_cancel_left,nth_app_l hk,e] at this; exact hp.le_of_not this
   have hU2:∀ x∈U2,cmp y x<0:=fun x hx=>by
    obtain ⟨k,hk,e⟩:=mem_nth hx
    have:=hhi (i+k) (by omega) (by omega)
    rw [hy0,nu _ (by omega) (by omega),nth_app_r (by omega),show i+k-a-U1.length=k by omega,e] at this; exact this
   refine loopG (fun k s=>∃ A B q,U2=A ++ B∧k=A.length∧q=i+A.length∧s=⟨ofL [(0,.v (.c (.os r 8 0 es.length))),(14,.int .i64 i),(17,.int .i64 q)],H.set r (.row 8 ((P ++ (U1 ++ (A ++ (y :: (B ++ S))))).map row))⟩) ?_ ?_
   ·refine wk_keep [0,14,17] ⟨_,U2,[],m,by simp,rfl,by omega,?_⟩
    simp [hes]
   ·rintro J hJ k s ⟨A,B,q,rfl,rfl,hq,rfl⟩
    rcases List.eq_nil_or_concat A with rfl | ⟨A,z,rfl⟩
    ·have hlt:¬ i<q:=by simp at hq; omega
     simp -implicitDefEqProofs (disch:=omega) [gz,hlt,wrap64]
     refine fin_here (by simp) ⟨rfl,(U1 ++ [y]) ++ B,?_,by simp⟩
     have:=merge_split hp (u1:=U1) (u2:=[] ++ B) (v1:=[y]) (v2:=[]) (w1:=U1 ++ [y]) (w2:=B) hus (by simpa using hvs) (fun x hx z hz=>by simp at hx; subst hx; exact hU2 z hz) (by simp)
      ⟨hus.left.app hvs fun x hx z hz=>by simp at hz; subst hz; exact hU1 x hx,Flt.refl _,rfl⟩ ⟨by have:=hus.right; simpa using this,by simpa using Flt.refl _,by simp⟩
     simpa using this
    ·simp only [List.concat_eq_append,List.length_append,List.length_singleton] at *
     have hlt:i<q:=by omega
     obtain ⟨es',he'⟩:∃ es',es'=P ++ (U1 ++ ((A ++ [z]) ++ (y :: (B ++ S)))):=⟨_,rfl⟩
     have hl':es'.length=es.length:=by rw [he',hes]; simp; omega
     have e1:nth es' q=y:=by rw [he',nth_app_r (by omega),nth_app_r (by omega),nth_app_r (by simp; omega),show q-P.length-U1.length-(A ++ [z]).length=0 by simp; omega]; rfl
     have e2:nth es' (q-1)=z:=by rw [he',nth_app_r (by omega),nth_app_r (by omega),nth_app_l (by simp; omega),nth_app_r (by omega),show q-1-P.length-U1.length-A.length=0 by omega]; rfl
     have n1:((q:Int)-1).toNat=q-1:=by omega
     have c1:((q-1:Nat):Int)=(q:Int)-1:=by omega
     rw [← he']
     have hsw:(((es'.map row).set q (row z)).set (q-1) (row y))=((P ++ (U1 ++ (A ++ (y :: (z :: (B ++ S)))))).map row):=by
      rw [← List.map_set,← List.map_set,he',swap_adj2 (by omega)]
     simp -implicitDefEqProofs (disch:=omega) [gz,hlt,wrap64,n1,e1,e2,hl',hr,nth_map,(hrow _).len,take_of_len,(hrow _).mapO,(hrow _).tk,(hrow _).nrm,borRow,(hrow _).cl,borV_map,osR_map,frz_map,nth_set_ne,(hrow _).spl (hrow _),hsc,hxg]
     repeat' apply And.intro
     all_goals first | omega | kernel_rfl | skip
     subst hJ
     refine wk_keep [0,14,17] ⟨A.length,by simp,A,z :: B,q-1,by simp,rfl,by omega,?_⟩
     rw [hsw,c1]
     simp
 ·have h1':¬ (b:Int)-m=1:=by omega
  simp -implicitDefEqProofs (disch:=omega) [gz,b78_1,wrap64,h1']
  subst JJ
  exact ⟨h1,at_mk (by simp) rfl⟩
end
section
variable {E:Type} [Inhabited E]
theorem k78_p2 (row:E→List D) (hrow:∀ e,RowOk 8 (row e)) (cmp:E→E→Int) (hp:Pre cmp) (f:Nat) (xf:XE) (hsc:xf.sc=true) (hf1:f≠166) (hf2:f≠154)
  (hxg:∀ a b,xf.g [.agg (row a),.agg (row b)]=some (True,.int .i64 (cmp a b))) (H:List O) (r:Nat) (hr:r<H.length) {P u v S es:List E} {a m b:Nat} (M:Mg cmp P u v S es a m b) (hlen:es.length<4611686018427387904) (R:T→List O→Prop) (sl:Nat→T) (mid:Nat) (hmid:mid=(a+b) / 2) :
  wcodeX prog G0 [(f,xf)] (H.set r (.row 8 (es.map row))).length (.seq (.seq (.seq b78_2 b78_3) b78_4) b78_5) ⟨ofLr [(0,.v (.c (.os r 8 0 es.length))),(1,.int .i64 a),(2,.int .i64 m),(3,.int .i64 b),(4,.v (.c (.fn f [])))] sl,(H.set r (.row 8 (es.map row)))⟩ (cutQ (fun s=>∃ lo hi:Nat,(mid<m→lo+b=mid+m∧hi=mid)∧(¬ mid<m→lo=a∧hi=m)∧AtS [(0,.v (.c (.os r 8 0 es.length))),(1,.int .i64 a),(2,.int .i64 m),(3,.int .i64 b),(4,.v (.c (.fn f []))),(18,.int .i64 mid),(19,.int .i64 (mid+m:Nat)),(20,.int .i64 lo),(21,.int .i64 hi)] (H.set r (.row 8 (es.map row))) s) (retQ prog (H.set r (.row 8 (es.map row))).length ir78.res R)):=by
 obtain ⟨hes,ha,hm,hb,hul,hvl,hus,hvs,heL,nu,nv,mu,mv⟩:=M
 generalize hJJ:(fun s=>∃ lo hi:Nat,(mid<m→lo+b=mid+m∧hi=mid)∧(¬ mid<m→lo=a∧hi=m)∧AtS [(0,.v (.c (.os r 8 0 es.length))),(1,.int .i64 a),(2,.int .i64 m),(3,.int .i64 b),(4,.v (.c (.fn f []))),(18,.int .i64 mid),(19,.int .i64 (mid+m:Nat)),(20,.int .i64 lo),(21,.int .i64 hi)] (H.set r (.row 8 (es.map row))) s)=JJ
 by_cases hc:mid<m
 ·simp -implicitDefEqProofs (disch:=omega) [gz,b78_2,b78_3,b78_4,b78_5,wrap64,wrapU64,half,← hmid,hc]
  subst JJ
  exact ⟨mid+m-b,mid,fun _=>⟨by omega,rfl⟩,fun h=>absurd hc h,at_mk (by simp; omega) rfl⟩
 ·simp -implicitDefEqProofs (disch:=omega) [gz,b78_2,b78_3,b78_4,b78_5,wrap64,wrapU64,half,← hmid,hc]
  subst JJ
  exact ⟨a,m,fun h=>absurd h hc,fun _=>⟨rfl,rfl⟩,at_mk (by simp) rfl⟩
theorem k78_p3 (row:E→List D) (hrow:∀ e,RowOk 8 (row e)) (cmp:E→E→Int) (hp:Pre cmp) (f:Nat) (xf:XE) (hsc:xf.sc=true) (hf1:f≠166) (hf2:f≠154)
  (hxg:∀ a b,xf.g [.agg (row a),.agg (row b)]=some (True,.int .i64 (cmp a b))) (H:List O) (r:Nat) (hr:r<H.length) {P u v S es:List E} {a m b:Nat} (M:Mg cmp P u v S es a m b) (hlen:es.length<4611686018427387904) (R:T→List O→Prop) (sl:Nat→T) (mid N lo hi:Nat) (hmid:mid=(a+b) / 2) (hN:N=mid+m) (k1:a≤lo) (k2:lo≤hi) (k3:hi≤m) (k4:hi≤mid) (k5:N≤lo+b) :
  wcodeX prog G0 [(f,xf)] (H.set r (.row 8 (es.map row))).length (.seq b78_6 b78_7) ⟨ofLr [(0,.v (.c (.os r 8 0 es.length))),(1,.int .i64 a),(2,.int .i64 m),(3,.int .i64 b),(4,.v (.c (.fn f []))),(18,.int .i64 mid),(19,.int .i64 N),(20,.int .i64 lo),(21,.int .i64 hi)] sl,(H.set r (.row 8 (es.map row)))⟩ (cutQ (fun s=>∃ st:Nat,lo≤st∧st≤hi∧(∀ c,lo≤c→c<st→¬ cmp (nth es (N-1-c)) (nth es c)<0)∧(∀ c,st≤c→c<hi→cmp (nth es (N-1-c)) (nth es c)<0)∧AtS [(0,.v (.c (.os r 8 0 es.length))),(1,.int .i64 a),(2,.int .i64 m),(3,.int .i64 b),(4,.v (.c (.fn f []))),(18,.int .i64 mid),(19,.int .i64 N),(20,.int .i64 st)] (H.set r (.row 8 (es.map row))) s) (retQ prog (H.set r (.row 8 (es.map row))).length ir78.res R)):=by
 obtain ⟨hes,ha,hm,hb,hul,hvl,hus,hvs,heL,nu,nv,mu,mv⟩:=M
 generalize hJJ:(fun s=>∃ st:Nat,lo≤st∧st≤hi∧(∀ c,lo≤c→c<st→¬ cmp (nth es (N-1-c)) (nth es c)<0)∧(∀ c,st≤c→c<hi→cmp (nth es (N-1-c)) (nth es c)<0)∧AtS [(0,.v (.c (.os r 8 0 es.length))),(1,.int .i64 a),(2,.int .i64 m),(3,.int .i64 b),(4,.v (.c (.fn f []))),(18,.int .i64 mid),(19,.int .i64 N),(20,.int .i64 st)] (H.set r (.row 8 (es.map row))) s)=JJ
 simp -implicitDefEqProofs (disch:=omega) [gz,b78_6,b78_7,wrap64]
 refine loopE (fun k s=>∃ i j,lo≤i∧i≤j∧j≤hi∧k=j-i∧(∀ c,lo≤c→c<i→¬ cmp (nth es (N-1-c)) (nth es c)<0)∧(∀ c,j≤c→c<hi→cmp (nth es (N-1-c)) (nth es c)<0) ∧
  s=⟨ofL [(0,.v (.c (.os r 8 0 es.length))),(1,.int .i64 a),(2,.int .i64 m),(3,.int .i64 b),(4,.v (.c (.fn f []))),(18,.int .i64 mid),(19,.int .i64 N),(20,.int .i64 i),(21,.int .i64 j),(22,.int .i64 (N-1))],(H.set r (.row 8 (es.map row)))⟩)
  JJ ?_ ?_ ?_
 ·refine wk_keep [0,1,2,3,4,18,19,20,21,22] ⟨_,lo,hi,Nat.le_refl _,by omega,Nat.le_refl _,rfl,fun c h1 h2=>by omega,fun c h1 h2=>by omega,?_⟩
  simp
 ·rintro J L hJ hL k s ⟨i,j,hmi,hij,hjb,rfl,hlo,hhi,rfl⟩
  by_cases hlt:i<j
  ·obtain ⟨c,hc⟩:∃ c,c=(i+j) / 2:=⟨_,rfl⟩
   have n1:((N:Int)-1-c).toNat=N-1-c:=by omega
   simp -implicitDefEqProofs (disch:=omega) [gz,hlt,wrap64,wrapU64,half,← hc,n1,hr,nth_map,(hrow _).len,take_of_len,(hrow _).mapO,(hrow _).tk,(hrow _).nrm,borRow,(hrow _).cl,borV_map,osR_map,frz_map,nth_set_ne,(hrow _).spl (hrow _),hsc,hxg]
   repeat' apply And.intro
   all_goals first | omega | kernel_rfl | skip
   ·intro h
    subst hJ
    refine wk_keep [0,1,2,3,4,18,19,20,21,22] ⟨j-(c+1),by omega,c+1,j,by omega,by omega,by omega,rfl,fun c' q1 q2 q=>?_,hhi,?_⟩
    ·have e1:=mu c' c (by omega) (by omega) (by omega)
     have e2:=mv (N-1-c) (N-1-c') (by omega) (by omega) (by omega)
     have:=hp.le_lt e2 (hp.lt_le q e1); omega
    ·simp
   ·intro h
    subst hJ
    refine wk_keep [0,1,2,3,4,18,19,20,21,22] ⟨c-i,by omega,i,c,by omega,by omega,by omega,rfl,hlo,fun c' q1 q2=>?_,?_⟩
    ·have e1:=mu c c' (by omega) (by omega) (by omega)
     have e2:=mv (N-1-c') (N-1-c) (by omega) (by omega) (by omega)
     exact hp.le_lt e2 (hp.lt_le h e1)
    ·simp
  ·simp -implicitDefEqProofs (disch:=omega) [gz,hlt]
   subst JJ
   subst hL
   have:i=j:=by omega
   subst this
   exact ⟨i,hmi,hjb,hlo,hhi,at_mk (by simp) rfl⟩
 ·intro s hs
  exact hs
end
section
variable {E:Type} [Inhabited E]
theorem k78_p4 (row:E→List D) (hrow:∀ e,RowOk 8 (row e)) (cmp:E→E→Int) (hp:Pre cmp) (f:Nat) (xf:XE) (hsc:xf.sc=true) (hf1:f≠166) (hf2:f≠154)
  (hxg:∀ a b,xf.g [.agg (row a),.agg (row b)]=some (True,.int .i64 (cmp a b))) (H:List O) (r:Nat) (hr:r<H.length) {P u v S es:List E} {a m b:Nat} (M:Mg cmp P u v S es a m b) (hlen:es.length<4611686018427387904) (R:T→List O→Prop) (sl:Nat→T) (mid N st en:Nat) (k1:a≤st) (k2:st≤m) (k3:m≤en) (k4:en≤b) (hen:N=st+en) {u1 u2 v1 v2:List E} (hu:u=u1 ++ u2) (hv:v=v1 ++ v2) (hU:u1.length=st-a) (hV:v1.length=en-m) :
  wcodeX prog G0 [(f,xf)] (H.set r (.row 8 (es.map row))).length (.seq b78_8 b78_9) ⟨ofLr [(0,.v (.c (.os r 8 0 es.length))),(1,.int .i64 a),(2,.int .i64 m),(3,.int .i64 b),(4,.v (.c (.fn f []))),(18,.int .i64 mid),(19,.int .i64 N),(20,.int .i64 st)] sl,(H.set r (.row 8 (es.map row)))⟩ (cutQ (fun s=>AtS [(0,.v (.c (.os r 8 0 es.length))),(1,.int .i64 a),(3,.int .i64 b),(4,.v (.c (.fn f []))),(18,.int .i64 mid),(20,.int .i64 st),(24,.int .i64 en)] (H.set r (.row 8 ((P ++ (u1 ++ (v1 ++ (u2 ++ (v2 ++ S))))).map row))) s) (retQ prog (H.set r (.row 8 (es.map row))).length ir78.res R)):=by
 obtain ⟨hes,ha,hm,hb,hul,hvl,hus,hvs,heL,nu,nv,mu,mv⟩:=M
 have cen:(N:Int)-st=en:=by omega
 subst hu
 subst hv
 simp only [List.length_append] at hm hb hul hvl
 have hf1':¬ f=166:=hf1
 generalize hJJ:(fun s=>AtS [(0,.v (.c (.os r 8 0 es.length))),(1,.int .i64 a),(3,.int .i64 b),(4,.v (.c (.fn f []))),(18,.int .i64 mid),(20,.int .i64 st),(24,.int .i64 en)] (H.set r (.row 8 ((P ++ (u1 ++ (v1 ++ (u2 ++ (v2 ++ S))))).map row))) s)=JJ
 by_cases c1:st<m
 ·by_cases c2:m<en
  ·simp -implicitDefEqProofs (disch:=omega) [gz,b78_8,b78_9,wrap64,cen,c1,c2,hf1']
   have hc:=k95 row hrow es st m en c1 c2 (by omega) hlen f H r hr
   refine hc.mono ?_
   rintro t H' ⟨rfl,rfl⟩
   simp only [callK]
   have:=rotN_app (m:=m) (en-st) (i:=m-st) (j:=en-m) (Q:=P ++ u1) (u:=u2) (v:=v1) (T:=v2 ++ S) (by omega) (by omega) (by simp; omega) (by omega) (by omega) (by omega)
   simp only [List.append_assoc] at this hes
   subst JJ
   exact at_mk (by simp) (by rw [hes,this])
  ·have hv:v1=[]:=List.length_eq_zero_iff.1 (by omega)
   subst hv
   simp -implicitDefEqProofs (disch:=omega) [gz,b78_8,b78_9,wrap64,cen,c1,c2,hf1']
   subst JJ
   exact at_mk (by simp) (by rw [hes]; simp)
 ·have hu:u2=[]:=List.length_eq_zero_iff.1 (by omega)
  subst hu
  simp -implicitDefEqProofs (disch:=omega) [gz,b78_8,b78_9,wrap64,cen,c1,hf1']
  subst JJ
  exact at_mk (by simp) (by rw [hes]; simp)
end
section
variable {E:Type} [Inhabited E]
theorem k78_p5 (row:E→List D) (hrow:∀ e,RowOk 8 (row e)) (cmp:E→E→Int) (hp:Pre cmp) (f:Nat) (xf:XE) (hsc:xf.sc=true) (hf1:f≠166) (hf2:f≠154)
  (hxg:∀ a b,xf.g [.agg (row a),.agg (row b)]=some (True,.int .i64 (cmp a b))) (H:List O) (r:Nat) (hr:r<H.length) {P u v S es:List E} {a m b:Nat} (M:Mg cmp P u v S es a m b) (hlen:es.length<4611686018427387904) (ih:∀ P' u' v' S':List E,u'.length+v'.length<u.length+v.length→u'≠[]→v'≠[]→Srt cmp u'→Srt cmp v'→(P' ++ (u' ++ (v' ++ S'))).length<4611686018427387904→ACalls prog G0 154 [.c (.os r 8 0 (P' ++ (u' ++ (v' ++ S'))).length),I P'.length,I (P'.length+u'.length:Nat),I (P'.length+u'.length+v'.length:Nat),.c (.fn f [])] (H.set r (.row 8 ((P' ++ (u' ++ (v' ++ S'))).map row))) fun t H'=>t = .tup []∧∃ w,Merged cmp (u' ++ v') w∧H'=H.set r (.row 8 ((P' ++ (w ++ S')).map row))) (R:T→List O→Prop) (sl:Nat→T) (mid st en:Nat) (hmid:mid=(a+b) / 2) (k1:a≤st) (k2:st≤m) (k3:m≤en) (k4:en≤b) (hen:mid+m=st+en) (k5:1<u.length) (k6:1<v.length) {u1 u2 v1 v2:List E} (hu:u=u1 ++ u2) (hv:v=v1 ++ v2) (hU:u1.length=st-a) (hV:v1.length=en-m) :
  wcodeX prog G0 [(f,xf)] (H.set r (.row 8 (es.map row))).length b78_10 ⟨ofLr [(0,.v (.c (.os r 8 0 es.length))),(1,.int .i64 a),(3,.int .i64 b),(4,.v (.c (.fn f []))),(18,.int .i64 mid),(20,.int .i64 st),(24,.int .i64 en)] sl,(H.set r (.row 8 ((P ++ (u1 ++ (v1 ++ (u2 ++ (v2 ++ S))))).map row)))⟩ (cutQ (fun s=>∃ w1,Merged cmp (u1 ++ v1) w1∧AtS [(0,.v (.c (.os r 8 0 es.length))),(3,.int .i64 b),(4,.v (.c (.fn f []))),(18,.int .i64 mid),(24,.int .i64 en)] (H.set r (.row 8 ((P ++ (w1 ++ (u2 ++ (v2 ++ S)))).map row))) s) (retQ prog (H.set r (.row 8 (es.map row))).length ir78.res R)):=by
 obtain ⟨hes,ha,hm,hb,hul,hvl,hus,hvs,heL,nu,nv,mu,mv⟩:=M
 subst hu
 subst hv
 simp only [List.length_append] at hm hb hul hvl k5 k6 ih
 have hf2':¬ f=154:=hf2
 generalize hJJ:(fun s=>∃ w1,Merged cmp (u1 ++ v1) w1∧AtS [(0,.v (.c (.os r 8 0 es.length))),(3,.int .i64 b),(4,.v (.c (.fn f []))),(18,.int .i64 mid),(24,.int .i64 en)] (H.set r (.row 8 ((P ++ (w1 ++ (u2 ++ (v2 ++ S)))).map row))) s)=JJ
 by_cases c1:a<st
 ·by_cases c2:st<mid
  ·simp -implicitDefEqProofs (disch:=omega) [gz,b78_10,wrap64,c1,c2,hf2']
   have hc:=ih P u1 v1 (u2 ++ (v2 ++ S)) (by omega) (fun e=>by subst e; simp at hU; omega) (fun e=>by subst e; simp at hV; omega) hus.left hvs.left (by rw [hes] at hlen; simp at hlen ⊢; omega)
   have el:P.length+(u1.length+(v1.length+(u2 ++ (v2 ++ S)).length))=es.length:=by rw [hes]; simp; omega
   rw [el,show P.length+u1.length+v1.length=mid by omega,show P.length+u1.length=st by omega,← ha] at hc
   simp only [List.map_append] at hc ⊢
   refine hc.mono ?_
   rintro t H' ⟨rfl,w1,hw1,rfl⟩
   simp only [callK]
   subst JJ
   exact ⟨w1,hw1,at_mk (by simp) (by simp)⟩
  ·have hv:v1=[]:=List.length_eq_zero_iff.1 (by omega)
   subst hv
   simp -implicitDefEqProofs (disch:=omega) [gz,b78_10,wrap64,c1,c2,hf2']
   subst JJ
   exact ⟨u1,⟨hus.left,by simpa using Flt.refl _,by simp⟩,at_mk (by simp) (by simp)⟩
 ·have hu:u1=[]:=List.length_eq_zero_iff.1 (by omega)
  subst hu
  simp -implicitDefEqProofs (disch:=omega) [gz,b78_10,wrap64,c1,hf2']
  subst JJ
  exact ⟨v1,⟨hvs.left,Flt.refl _,rfl⟩,at_mk (by simp) (by simp)⟩
theorem k78_p6 (row:E→List D) (hrow:∀ e,RowOk 8 (row e)) (cmp:E→E→Int) (hp:Pre cmp) (f:Nat) (xf:XE) (hsc:xf.sc=true) (hf1:f≠166) (hf2:f≠154)
  (hxg:∀ a b,xf.g [.agg (row a),.agg (row b)]=some (True,.int .i64 (cmp a b))) (H:List O) (r:Nat) (hr:r<H.length) {P u v S es:List E} {a m b:Nat} (M:Mg cmp P u v S es a m b) (hlen:es.length<4611686018427387904) (ih:∀ P' u' v' S':List E,u'.length+v'.length<u.length+v.length→u'≠[]→v'≠[]→Srt cmp u'→Srt cmp v'→(P' ++ (u' ++ (v' ++ S'))).length<4611686018427387904→ACalls prog G0 154 [.c (.os r 8 0 (P' ++ (u' ++ (v' ++ S'))).length),I P'.length,I (P'.length+u'.length:Nat),I (P'.length+u'.length+v'.length:Nat),.c (.fn f [])] (H.set r (.row 8 ((P' ++ (u' ++ (v' ++ S'))).map row))) fun t H'=>t = .tup []∧∃ w,Merged cmp (u' ++ v') w∧H'=H.set r (.row 8 ((P' ++ (w ++ S')).map row))) (sl:Nat→T) (mid st en:Nat) (hmid:mid=(a+b) / 2) (k1:a≤st) (k2:st≤m) (k3:m≤en) (k4:en≤b) (hen:mid+m=st+en) (k5:1<u.length) (k6:1<v.length) {u1 u2 v1 v2:List E} (hu:u=u1 ++ u2) (hv:v=v1 ++ v2) (hU:u1.length=st-a) (hV:v1.length=en-m) (R:T→List O→Prop) (hR:∀ w,Merged cmp (u ++ v) w→R (T.tup []) (H.set r (.row 8 ((P ++ (w ++ S)).map row)))) (w1:List E) (hw1:Merged cmp (u1 ++ v1) w1) (g1:∀ x∈v1,∀ y∈u2,cmp x y<0) (g2:∀ x∈u1,∀ y∈v2,cmp x y≤0) :
  wcodeX prog G0 [(f,xf)] (H.set r (.row 8 (es.map row))).length (.seq b78_11 b78_12) ⟨ofLr [(0,.v (.c (.os r 8 0 es.length))),(3,.int .i64 b),(4,.v (.c (.fn f []))),(18,.int .i64 mid),(24,.int .i64 en)] sl,(H.set r (.row 8 ((P ++ (w1 ++ (u2 ++ (v2 ++ S)))).map row)))⟩ (retQ prog (H.set r (.row 8 (es.map row))).length ir78.res R):=by
 obtain ⟨hes,ha,hm,hb,hul,hvl,hus,hvs,heL,nu,nv,mu,mv⟩:=M
 have hl1:=hw1.2.2
 have fin:∀ w2,Merged cmp (u2 ++ v2) w2→∃ w,Merged cmp (u ++ v) w∧P ++ (w1 ++ (w2 ++ S))=P ++ (w ++ S):=fun w2 h=>⟨w1 ++ w2,by rw [hu,hv] at *; exact merge_split hp hus hvs g1 g2 hw1 h,by simp⟩
 have fin2:∀ w2,Merged cmp (u2 ++ v2) w2→R (T.tup []) (H.set r (.row 8 ((P ++ (w1 ++ (w2 ++ S))).map row))):=fun w2 h=>by
  obtain ⟨w,q1,q2⟩:=fin w2 h
  rw [q2]; exact hR w q1
 have ul:=congrArg List.length hu
 have vl:=congrArg List.length hv
 rw [hu] at hus
 rw [hv] at hvs
 simp only [List.length_append] at hl1 ul vl
 have hf2':¬ f=154:=hf2
 by_cases c1:mid<en
 ·by_cases c2:en<b
  ·simp -implicitDefEqProofs (disch:=omega) [gz,b78_11,b78_12,ir78,wrap64,c1,c2,hf2']
   have hc:=ih (P ++ w1) u2 v2 S (by omega) (fun e=>by subst e; simp at ul; omega) (fun e=>by subst e; simp at vl; omega) hus.right hvs.right (by rw [hes] at hlen; simp at hlen ⊢; omega)
   have el:(P ++ w1 ++ (u2 ++ (v2 ++ S))).length=es.length:=by rw [hes]; simp; omega
   rw [el,show (P ++ w1).length+u2.length+v2.length=b by simp; omega,show (P ++ w1).length+u2.length=en by simp; omega,show (P ++ w1).length=mid by simp; omega] at hc
   simp only [List.map_append,List.append_assoc] at hc ⊢
   refine hc.mono ?_
   rintro t H' ⟨rfl,w2,hw2,rfl⟩
   simp only [callK]
   have:=fin2 w2 hw2
   exact fin_here (by simp) (by simpa using this)
  ·have hv:v2=[]:=List.length_eq_zero_iff.1 (by omega)
   subst hv
   simp -implicitDefEqProofs (disch:=omega) [gz,b78_11,b78_12,ir78,wrap64,c1,c2,hf2']
   have:=fin2 u2 ⟨hus.right,by simpa using Flt.refl _,by simp⟩
   exact fin_here (by simp) (by simpa using this)
 ·have hu:u2=[]:=List.length_eq_zero_iff.1 (by omega)
  subst hu
  simp -implicitDefEqProofs (disch:=omega) [gz,b78_11,b78_12,ir78,wrap64,c1,hf2']
  have:=fin2 v2 ⟨hvs.right,Flt.refl _,rfl⟩
  exact fin_here (by simp) (by simpa using this)
end
section
variable {E:Type} [Inhabited E]
theorem k78 (row:E→List D) (hrow:∀ e,RowOk 8 (row e)) (cmp:E→E→Int) (hp:Pre cmp) (f:Nat) (xf:XE) (hx:Contract prog G0 f xf) (hsc:xf.sc=true) (hf1:f≠166) (hf2:f≠154)
  (hxg:∀ a b,xf.g [.agg (row a),.agg (row b)]=some (True,.int .i64 (cmp a b))) (H:List O) (r:Nat) (hr:r<H.length):∀ (n:Nat) (P u v S:List E),u.length+v.length=n→u≠[]→v≠[]→Srt cmp u→Srt cmp v →
  (P ++ (u ++ (v ++ S))).length<4611686018427387904 →
  ACalls prog G0 154 [.c (.os r 8 0 (P ++ (u ++ (v ++ S))).length),I P.length,I (P.length+u.length:Nat),I (P.length+u.length+v.length:Nat),.c (.fn f [])] (H.set r (.row 8 ((P ++ (u ++ (v ++ S))).map row)))
   fun t H'=>t = .tup []∧∃ w,Merged cmp (u ++ v) w∧H'=H.set r (.row 8 ((P ++ (w ++ S)).map row)):=by
 intro n
 induction n using Nat.strongRecOn with
 | _ n ih =>
 intro P u v S hn hu0 hv0 hus hvs hlen
 have M:=Mg.mk' hp (P:=P) (S:=S) hu0 hv0 hus hvs
 obtain ⟨es,hes⟩:∃ es,es=P ++ (u ++ (v ++ S)):=⟨_,rfl⟩
 obtain ⟨a,ha⟩:∃ a,a=P.length:=⟨_,rfl⟩
 obtain ⟨m,hm⟩:∃ m,m=P.length+u.length:=⟨_,rfl⟩
 obtain ⟨b,hb⟩:∃ b,b=P.length+u.length+v.length:=⟨_,rfl⟩
 rw [← hes,← hb,← hm,← ha] at M
 rw [← hes,← hb,← hm,← ha]
 rw [← hes] at hlen
 have hul:=M.hul
 have hvl:=M.hvl
 obtain ⟨mid,hmid⟩:∃ mid,mid=(a+b) / 2:=⟨_,rfl⟩
 refine acallsX (X:=[(f,xf)]) ⟨hx,trivial⟩ tab hmix func154 c78 (by rfl) fun hw=>?_
 show wcodeX _ _ _ _ b78 _ _
 unfold b78
 refine seqX _ (k78_p0 row hrow cmp hp f xf hsc hf1 hf2 hxg H r hr M hlen hw) ?_
 rintro _ ⟨hma,sl,rfl⟩
 refine seqX _ (k78_p1 row hrow cmp hp f xf hsc hf1 hf2 hxg H r hr M hlen hma sl) ?_
 rintro _ ⟨hbm,sl,rfl⟩
 rw [seq_assoc,seq_assoc,seq_assoc]
 refine seqX _ (k78_p2 row hrow cmp hp f xf hsc hf1 hf2 hxg H r hr M hlen _ sl mid hmid) ?_
 rintro _ ⟨lo,hi,hc1,hc2,sl,rfl⟩
 obtain ⟨N,hN⟩:∃ N,N=mid+m:=⟨_,rfl⟩
 rw [← hN]
 have hall:a≤lo∧lo≤hi∧hi≤m∧hi≤mid∧N≤lo+b∧(lo=a∨lo+b=N)∧(hi=m∨hi=mid)∧a<mid∧mid<b:=by
  by_cases hc:mid<m
  ·have:=hc1 hc; omega
  ·have:=hc2 hc; omega
 obtain ⟨k1,k2,k3,k4,k5,k6,k7,k8,k9⟩:=hall
 rw [seq_assoc]
 refine seqX _ (k78_p3 row hrow cmp hp f xf hsc hf1 hf2 hxg H r hr M hlen _ sl mid N lo hi hmid hN k1 k2 k3 k4 k5) ?_
 rintro _ ⟨st,hmi,hib,hlo,hhi,sl,rfl⟩
 obtain ⟨en,hen⟩:∃ en,en=N-st:=⟨_,rfl⟩
 obtain ⟨u1,u2,hu,hU⟩:=split_at u (n:=st-a) (by omega)
 obtain ⟨v1,v2,hv,hV⟩:=split_at v (n:=en-m) (by omega)
 have ul:=congrArg List.length hu
 have vl:=congrArg List.length hv
 simp only [List.length_append] at ul vl
 have eu1:∀ x∈u1,∃ c,a≤c∧c<st∧nth es c=x:=fun x hx=>by
  obtain ⟨k,hk,e⟩:=mem_nth hx
  exact ⟨a+k,by omega,by omega,by rw [M.nu _ (by omega) (by omega),Nat.add_sub_cancel_left,hu,nth_app_l hk,e]⟩
 have eu2:∀ x∈u2,∃ c,st≤c∧c<m∧nth es c=x:=fun x hx=>by
  obtain ⟨k,hk,e⟩:=mem_nth hx
  exact ⟨st+k,by omega,by omega,by rw [M.nu _ (by omega) (by omega),hu,nth_app_r (by omega),show st+k-a-u1.length=k by omega,e]⟩
 have ev1:∀ x∈v1,∃ c,m≤c∧c<en∧nth es c=x:=fun x hx=>by
  obtain ⟨k,hk,e⟩:=mem_nth hx
  exact ⟨m+k,by omega,by omega,by rw [M.nv _ (by omega) (by omega),Nat.add_sub_cancel_left,hv,nth_app_l hk,e]⟩
 have ev2:∀ x∈v2,∃ c,en≤c∧c<b∧nth es c=x:=fun x hx=>by
  obtain ⟨k,hk,e⟩:=mem_nth hx
  exact ⟨en+k,by omega,by omega,by rw [M.nv _ (by omega) (by omega),hv,nth_app_r (by omega),show en+k-m-v1.length=k by omega,e]⟩
 have g1:∀ x∈v1,∀ y∈u2,cmp x y<0:=fun x hx y hy=>by
  obtain ⟨c,q1,q2,rfl⟩:=ev1 x hx
  obtain ⟨c',q3,q4,rfl⟩:=eu2 y hy
  have:=hhi st (Nat.le_refl _) (by omega)
  rw [show N-1-st=en-1 by omega] at this
  exact hp.le_lt (M.mv c (en-1) q1 (by omega) (by omega)) (hp.lt_le this (M.mu st c' (by omega) q3 q4))
 have g2:∀ x∈u1,∀ y∈v2,cmp x y≤0:=fun x hx y hy=>by
  obtain ⟨c,q1,q2,rfl⟩:=eu1 x hx
  obtain ⟨c',q3,q4,rfl⟩:=ev2 y hy
  have:=hlo (st-1) (by omega) (by omega)
  rw [show N-1-(st-1)=en by omega] at this
  exact hp.tr _ _ _ (M.mu c (st-1) q1 (by omega) (by omega)) (hp.tr _ _ _ (hp.le_of_not this) (M.mv en c' (by omega) q3 q4))
 rw [seq_assoc]
 refine seqX _ (k78_p4 row hrow cmp hp f xf hsc hf1 hf2 hxg H r hr M hlen _ sl mid N st en (by omega) (by omega) (by omega) (by omega) (by omega) hu hv hU hV) ?_
 rintro _ ⟨sl,rfl⟩
 have ih':∀ P' u' v' S':List E,u'.length+v'.length<u.length+v.length→_:=fun P' u' v' S' h=>ih _ (by omega) P' u' v' S' rfl
 refine seqX _ (k78_p5 row hrow cmp hp f xf hsc hf1 hf2 hxg H r hr M hlen ih' _ sl mid st en hmid (by omega) (by omega) (by omega) (by omega) (by omega) (by omega) (by omega) hu hv hU hV) ?_
 rintro _ ⟨w1,hw1,sl,rfl⟩
 exact k78_p6 row hrow cmp hp f xf hsc hf1 hf2 hxg H r hr M hlen ih' sl mid st en hmid (by omega) (by omega) (by omega) (by omega) (by omega) (by omega) (by omega) hu hv hU hV _ (fun w hw=>⟨rfl,w,hw,rfl⟩) w1 hw1 g1 g2
end
end Go.Aw.Try
namespace Go.Aw
section
variable {E:Type}
def flat (W:List (List E)):List E:=W.flatten
@[simp] theorem flat_nil:flat ([]:List (List E))=[]:=rfl
@[simp] theorem flat_cons {w:List E} {W:List (List E)}:flat (w :: W)=w ++ flat W:=rfl
@[simp] theorem flat_app {W V:List (List E)}:flat (W ++ V)=flat W ++ flat V:=List.flatten_append
theorem flat_len {k:Nat}:∀ {W:List (List E)},(∀ w∈W,w.length=k)→(flat W).length=W.length*k
 | [],_=>by simp
 | w :: W,h=>by
  have:=flat_len (W:=W) fun w hw=>h w (List.mem_cons_of_mem _ hw)
  have:=h w List.mem_cons_self
  simp only [flat_cons,List.length_append,List.length_cons,Nat.succ_mul]; omega
end
end Go.Aw
namespace Go.Aw.Try
open Go Go.Proofs Go.Aw
set_option maxRecDepth 100000
set_option maxHeartbeats 4000000
section
variable {E:Type} [Inhabited E]
theorem k64 (row:E→List D) (hrow:∀ e,RowOk 8 (row e)) (cmp:E→E→Int) (hp:Pre cmp) (f:Nat) (xf:XE) (hx:Contract prog G0 f xf) (hsc:xf.sc=true) (hf1:f≠166) (hf2:f≠154)
  (hxg:∀ a b,xf.g [.agg (row a),.agg (row b)]=some (True,.int .i64 (cmp a b))) (H:List O) (r:Nat) (hr:r<H.length) (es:List E) (hl:es.length<1152921504606846976) :
  ACalls prog G0 129 [.c (.os r 8 0 es.length),I es.length,.c (.fn f [])] (H.set r (.row 8 (es.map row)))
   fun t H'=>t = .tup []∧H'=H.set r (.row 8 ((ssort cmp es).map row)):=by
 refine acallsX (X:=[]) trivial tab hmix func129 c64 (by rfl) fun hw=>?_
 obtain ⟨n,hn⟩:∃ n,n=es.length:=⟨_,rfl⟩
 rw [← hn]
 simp -implicitDefEqProofs (disch:=omega) [gz,ir64,b64,b64_0,b64_1,b64_2,wrap64]
 refine loopE (fun k s=>∃ (W:List (List E)) (R:List E) (a b:Nat),(∀ w∈W,w.length=20∧Srt cmp w)∧Flt cmp ((flat W) ++ R) es∧(flat W).length+R.length=n∧a=(flat W).length∧b=a+20∧k=n-a ∧
  s=⟨ofL [(0,.v (.c (.os r 8 0 n))),(1,.int .i64 n),(2,.v (.c (.fn f []))),(6,.int .i64 20),(7,.int .i64 a),(8,.int .i64 b)],H.set r (.row 8 (((flat W) ++ R).map row))⟩)
  (fun s=>∃ (W:List (List E)) (R:List E) (a:Nat),(∀ w∈W,w.length=20∧Srt cmp w)∧Flt cmp ((flat W) ++ R) es∧(flat W).length+R.length=n∧a=(flat W).length∧R.length<20 ∧
   AtS [(0,.v (.c (.os r 8 0 n))),(1,.int .i64 n),(2,.v (.c (.fn f []))),(6,.int .i64 20),(7,.int .i64 a)] (H.set r (.row 8 (((flat W) ++ R).map row))) s) ?_ ?_ ?_
 ·refine wk_keep [0,1,2,6,7,8] ⟨_,[],es,0,20,by simp,by simpa using Flt.refl _,by simp; omega,rfl,rfl,rfl,?_⟩
  simp
 ·rintro J L hJ hL k s ⟨W,R,a,b,hW,hF,hlen,ha,hb,rfl,rfl⟩
  by_cases hlt:b≤n
  ·obtain ⟨R1,R2,rfl,hR1⟩:=split_at R (n:=20) (by omega)
   simp only [List.length_append] at hlen
   have hc:=k77 row hrow cmp f xf hx hsc hxg ((flat W) ++ (R1 ++ R2)) a b (by omega) (by simp; omega) (by simp; omega) H r hr
   have el:((flat W) ++ (R1 ++ R2)).length=n:=by simp; omega
   obtain ⟨w,q1,q2,q3,q4⟩:=ins_sorts (P:=(flat W)) (u:=R1) (S:=R2) hp
   rw [List.append_assoc,← ha,show a+R1.length=b by omega] at q1
   rw [el,q1] at hc
   simp -implicitDefEqProofs (disch:=omega) [gz,hlt,wrap64]
   simp only [List.map_append] at hc
   refine hc.mono ?_
   rintro t H' ⟨rfl,rfl⟩
   simp -implicitDefEqProofs (disch:=omega) [gz,callK,wrap64]
   subst hJ
   refine wk_keep [0,1,2,6,7,8] ⟨n-b,by omega,W ++ [w],R2,b,b+20,?_,?_,?_,?_,rfl,rfl,?_⟩
   ·intro x hx
    rcases List.mem_append.1 hx with hx | hx
    ·exact hW x hx
    ·simp at hx; subst hx; exact ⟨by omega,q2⟩
   ·refine Flt.trans ?_ hF
    have:=((Flt.refl (cmp:=cmp) (flat W)).app q3).app (Flt.refl (cmp:=cmp) R2)
    simpa using this
   ·simp; omega
   ·simp; omega
   ·simp
  ·simp -implicitDefEqProofs (disch:=omega) [gz,hlt]
   subst hL
   refine ⟨W,R,a,hW,hF,hlen,ha,by omega,at_mk (by simp) (by simp)⟩
 ·rintro _ ⟨W,R,a,hW,hF,hlen,ha,hR,sl,rfl⟩
  have hc:=k77 row hrow cmp f xf hx hsc hxg ((flat W) ++ R) a n (by omega) (by simp; omega) (by simp; omega) H r hr
  have el:((flat W) ++ R).length=n:=by simp; omega
  obtain ⟨w,q1,q2,q3,q4⟩:=ins_sorts (P:=(flat W)) (u:=R) (S:=[]) hp
  rw [List.append_nil,List.append_nil,← ha,show a+R.length=n by omega] at q1
  rw [el,q1] at hc
  simp -implicitDefEqProofs (disch:=omega) [gz,b64_3,b64_4,wrap64]
  simp only [List.map_append] at hc
  refine hc.mono ?_
  rintro t H' ⟨rfl,rfl⟩
  simp -implicitDefEqProofs (disch:=omega) [gz,callK,wrap64]
  refine loopG (fun k s=>∃ (W:List (List E)) (l:List E) (bs a b:Nat),0<bs∧(∀ w∈W,w.length=bs∧Srt cmp w)∧l.length<bs∧Srt cmp l∧Flt cmp ((flat W) ++ l) es∧(flat W).length+l.length=n∧k=n-bs ∧
   s=⟨ofL [(0,.v (.c (.os r 8 0 n))),(1,.int .i64 n),(2,.v (.c (.fn f []))),(6,.int .i64 bs)],H.set r (.row 8 (((flat W) ++ l).map row))⟩) ?_ ?_
  ·refine wk_keep [0,1,2,6] ⟨_,W,w,20,0,0,by omega,hW,by omega,q2,?_,by omega,rfl,?_⟩
   ·exact ((Flt.refl (cmp:=cmp) (flat W)).app q3).trans hF
   ·simp
  ·rintro J hJ k s ⟨W,l,bs,a,b,hbs,hW,hl1,hl2,hF,hlen,rfl,rfl⟩
   have hfl:=flat_len fun w hw=>(hW w hw).1
   by_cases hlt:bs<n
   ·simp -implicitDefEqProofs (disch:=omega) [gz,hlt,wrap64]
    refine loopE (fun k s=>∃ (W2 W1:List (List E)) (a b:Nat),(∀ w∈W2,w.length=2*bs∧Srt cmp w)∧(∀ w∈W1,w.length=bs∧Srt cmp w)∧Flt cmp ((flat W2) ++ ((flat W1) ++ l)) es∧(flat W2).length+((flat W1).length+l.length)=n ∧
      a=(flat W2).length∧b=a+2*bs∧k=n-a ∧
      s=⟨ofL [(0,.v (.c (.os r 8 0 n))),(1,.int .i64 n),(2,.v (.c (.fn f []))),(6,.int .i64 bs),(7,.int .i64 a),(8,.int .i64 b)],H.set r (.row 8 (((flat W2) ++ ((flat W1) ++ l)).map row))⟩)
     (fun s=>∃ (W2 W1:List (List E)) (a:Nat),(∀ w∈W2,w.length=2*bs∧Srt cmp w)∧(∀ w∈W1,w.length=bs∧Srt cmp w)∧Flt cmp ((flat W2) ++ ((flat W1) ++ l)) es∧(flat W2).length+((flat W1).length+l.length)=n ∧
      a=(flat W2).length∧n<a+2*bs∧AtS [(0,.v (.c (.os r 8 0 n))),(1,.int .i64 n),(2,.v (.c (.fn f []))),(6,.int .i64 bs),(7,.int .i64 a)] (H.set r (.row 8 (((flat W2) ++ ((flat W1) ++ l)).map row))) s) ?_ ?_ ?_
    ·refine wk_keep [0,1,2,6,7,8] ⟨_,[],W,0,2*bs,by simp,hW,by simpa using hF,by simp; omega,rfl,by omega,rfl,?_⟩
     simp
    ·rintro J2 L2 hJ2 hL2 k s ⟨W2,W1,a,b,hW2,hW1,hF,hlen,ha,hb,rfl,rfl⟩
     have hfl1:=flat_len fun w hw=>(hW1 w hw).1
     by_cases hlt2:b≤n
     ·match W1 with
      | []=>simp at hlen hfl1; omega
      | [w1]=>simp at hlen hfl1; omega
      | w1 :: w2 :: W1 =>
       have h1:=hW1 w1 (by simp)
       have h2:=hW1 w2 (by simp)
       have hc:=k78 row hrow cmp hp f xf hx hsc hf1 hf2 hxg H r hr _ (flat W2) w1 w2 ((flat W1) ++ l) rfl (fun e=>by subst e; simp at h1; omega) (fun e=>by subst e; simp at h2; omega) h1.2 h2.2 (by simp at hlen ⊢; omega)
       have el:((flat W2) ++ (w1 ++ (w2 ++ ((flat W1) ++ l)))).length=n:=by simp at hlen ⊢; omega
       rw [el,show (flat W2).length+w1.length+w2.length=b by omega,h1.1,← ha] at hc
       have c1:((a+bs:Nat):Int)=(a:Int)+bs:=by omega
       rw [c1] at hc
       simp -implicitDefEqProofs (disch:=omega) [gz,hlt2,wrap64]
       simp only [List.map_append] at hc
       refine hc.mono ?_
       rintro t H' ⟨rfl,w,hw,rfl⟩
       simp -implicitDefEqProofs (disch:=omega) [gz,callK,wrap64]
       subst hJ2
       have hwl:=hw.2.2
       simp only [List.length_append] at hwl
       refine wk_keep [0,1,2,6,7,8] ⟨n-b,by omega,W2 ++ [w],W1,b,b+2*bs,?_,fun x hx=>hW1 x (by simp [hx]),?_,?_,?_,rfl,rfl,?_⟩
       ·intro x hx
        rcases List.mem_append.1 hx with hx | hx
        ·exact hW2 x hx
        ·simp at hx; subst hx; exact ⟨by omega,hw.1⟩
       ·refine Flt.trans ?_ hF
        have:=((Flt.refl (cmp:=cmp) (flat W2)).app hw.2.1).app (Flt.refl (cmp:=cmp) ((flat W1) ++ l))
        simpa using this
       ·simp at hlen ⊢; omega
       ·simp; omega
       ·simp
     ·simp -implicitDefEqProofs (disch:=omega) [gz,hlt2]
      subst hL2
      exact ⟨W2,W1,a,hW2,hW1,hF,hlen,ha,by omega,at_mk (by simp) (by simp)⟩
    ·rintro _ ⟨W2,W1,a,hW2,hW1,hF,hlen,ha,hnb,sl,rfl⟩
     have hfl1:=flat_len fun w hw=>(hW1 w hw).1
     by_cases hm:a+bs<n
     ·match W1 with
      | []=>simp at hlen hfl1; omega
      | w1 :: w2 :: W1=>simp [Nat.succ_mul] at hlen hfl1; omega
      | [w1] =>
       have h1:=hW1 w1 (by simp)
       simp only [flat_cons,flat_nil,List.append_nil] at hlen hF ⊢
       have hc:=k78 row hrow cmp hp f xf hx hsc hf1 hf2 hxg H r hr _ (flat W2) w1 l [] rfl (fun e=>by subst e; simp at h1; omega) (fun e=>by subst e; simp at hlen; omega) h1.2 hl2 (by simp at hlen ⊢; omega)
       have el:((flat W2) ++ (w1 ++ (l ++ []))).length=n:=by simp at hlen ⊢; omega
       rw [el,show (flat W2).length+w1.length+l.length=n by omega,h1.1,← ha] at hc
       have c1:((a+bs:Nat):Int)=(a:Int)+bs:=by omega
       rw [c1] at hc
       have hm':(a:Int)+bs<n:=by omega
       simp -implicitDefEqProofs (disch:=omega) [gz,hm',wrap64]
       simp only [List.map_append,List.append_nil] at hc
       refine hc.mono ?_
       rintro t H' ⟨rfl,w,hw,rfl⟩
       simp -implicitDefEqProofs (disch:=omega) [gz,callK,wrap64]
       subst hJ
       have hwl:=hw.2.2
       simp only [List.length_append] at hwl
       refine wk_keep [0,1,2,6] ⟨n-2*bs,by omega,W2,w,2*bs,0,0,by omega,hW2,by omega,hw.1,?_,by omega,rfl,?_⟩
       ·exact ((Flt.refl (cmp:=cmp) (flat W2)).app hw.2.1).trans hF
       ·have c2:((2*bs:Nat):Int)=(bs:Int)*2:=by omega
        simp [c2]
     ·have hm':¬ (a:Int)+bs<n:=by omega
      simp -implicitDefEqProofs (disch:=omega) [gz,hm',wrap64]
      subst hJ
      have c2:((2*bs:Nat):Int)=(bs:Int)*2:=by omega
      match W1 with
      | [] =>
       simp only [flat_nil,List.nil_append,List.length_nil,Nat.zero_add] at hlen hF
       refine wk_keep [0,1,2,6] ⟨n-2*bs,by omega,W2,l,2*bs,0,0,by omega,hW2,by omega,hl2,hF,by omega,rfl,?_⟩
       simp [c2]
      | w1 :: w2 :: W1=>simp [Nat.succ_mul] at hlen hfl1; omega
      | [w1] =>
       have h1:=hW1 w1 (by simp)
       simp only [flat_cons,flat_nil,List.append_nil] at hlen hF
       have:l=[]:=List.length_eq_zero_iff.1 (by omega)
       subst this
       refine wk_keep [0,1,2,6] ⟨n-2*bs,by omega,W2,w1,2*bs,0,0,by omega,hW2,by omega,h1.2,by simpa using hF,by simpa using hlen,rfl,?_⟩
       simp [c2]
   ·simp -implicitDefEqProofs (disch:=omega) [gz,hlt]
    have hs:(flat W) ++ l=ssort cmp es:=by
     refine ssort_of hp ?_ hF
     match W with
     | []=>simpa using hl2
     | [w1] =>
      have h1:=hW w1 (by simp)
      simp at hlen
      have:l=[]:=List.length_eq_zero_iff.1 (by omega)
      subst this
      simpa using h1.2
     | w1 :: w2 :: W1=>simp [Nat.succ_mul] at hlen hfl; omega
    rw [← hs]
    exact fin_here (by simp) ⟨rfl,by simp⟩
theorem k44 (row:E→List D) (hrow:∀ e,RowOk 8 (row e)) (cmp:E→E→Int) (hp:Pre cmp) (f:Nat) (xf:XE) (hx:Contract prog G0 f xf) (hsc:xf.sc=true) (hf1:f≠166) (hf2:f≠154)
  (hxg:∀ a b,xf.g [.agg (row a),.agg (row b)]=some (True,.int .i64 (cmp a b))) (H:List O) (r:Nat) (hr:r<H.length) (es:List E) (hl:es.length<1152921504606846976) :
  ACalls prog G0 86 [.c (.os r 8 0 es.length),.c (.fn f [])] (H.set r (.row 8 (es.map row)))
   fun t H'=>t = .tup []∧H'=H.set r (.row 8 ((ssort cmp es).map row)):=by
 refine acallsX (X:=[]) trivial tab hmix func86 c44 (by rfl) fun hw=>?_
 simp -implicitDefEqProofs (disch:=omega) [gz,ir44,b44,wrap64]
 refine (k64 row hrow cmp hp f xf hx hsc hf1 hf2 hxg H r hr es hl).mono ?_
 rintro t H' ⟨rfl,rfl⟩
 simp only [callK]
 exact fin_here (by simp) ⟨rfl,rfl⟩
end
end Go.Aw.Try
namespace Go.Aw
open Go
theorem contract_sc {P:Program} {G:Gl} {f:Nat} {g:List PV→Option (Prop×T)} (h:∀ ps ob t,g ps=some (ob,t)→ob→scT t=true∧ACalls P G f (ps.map PV.toV) [] (fun t' H'=>t'=t∧H'=[])):Contract P G f ⟨true,g⟩:=by
 intro ps ob t hg ho
 exact h ps ob t hg ho
end Go.Aw
namespace Go.Aw.Try
open Go Go.Proofs Go.Aw
set_option maxRecDepth 100000
set_option maxHeartbeats 4000000
theorem k65 (a:Int):ACalls prog G0 128 [I a] [] fun t H=>t = .bool false∧H=[]:=by
 refine acallsX (X:=[]) trivial tab hmix func128 c65 (by rfl) fun hw=>?_
 simp -implicitDefEqProofs (disch:=omega) [gz,ir65,b65]
 exact fin_nil ⟨rfl,rfl⟩
def x65:XE:=⟨true,fun ps=>match ps with | [.c (.v (.int .i64 _))]=>some (True,.bool false) | _=>none⟩
theorem kx65:Contract prog G0 128 x65:=contract_sc fun ps ob t h _=>by
 split at h
 ·rename_i a
  injection h with h; injection h with h1 h2; subst h2
  exact ⟨rfl,k65 a⟩
 ·cases h
theorem k48 (a b:Int):ACalls prog G0 85 [I a,I b] [] fun t H=>t = .int .i64 (cmpI a b)∧H=[]:=by
 refine acallsX (X:=[(128,x65)]) ⟨kx65,trivial⟩ tab hmix func85 c48 (by rfl) fun hw=>?_
 by_cases h1:a<b
 ·simp -implicitDefEqProofs (disch:=omega) [gz,ir48,b48,x65,h1]
  exact fin_nil ⟨by simp [cmpI,h1],rfl⟩
 ·by_cases h2:b<a
  ·simp -implicitDefEqProofs (disch:=omega) [gz,ir48,b48,x65,h1,h2]
   exact fin_nil ⟨by simp [cmpI,h1,h2],rfl⟩
  ·simp -implicitDefEqProofs (disch:=omega) [gz,ir48,b48,x65,h1,h2]
   exact fin_nil ⟨by simp [cmpI,h1,h2],rfl⟩
theorem kx48:Contract prog G0 85 x48:=contract_sc fun ps ob t h _=>by
 split at h
 ·rename_i a b
  injection h with h; injection h with h1 h2; subst h2
  exact ⟨rfl,k48 a b⟩
 ·cases h
def x47':XE:=⟨true,fun ps=>match ps with | [.c (.sl xs)]=>(match intsOf xs with | some l=>some (xs.length<4611686018427387904,.int .i64 (orI l)) | none=>none) | _=>none⟩
theorem kx47:Contract prog G0 83 x47':=contract_sc fun ps ob t h ho=>by
 split at h
 ·rename_i xs
  split at h
  ·rename_i l hl
   injection h with h; injection h with h1 h2; subst h2; subst h1
   have:=intsOf_get hl
   subst this
   exact ⟨rfl,k47 l (by simpa using ho)⟩
  ·cases h
 ·cases h
def cmpE (a b:Edit):Int:=orI [cmpI a.clock b.clock,cmpS a.id.a b.id.a,cmpI a.id.n b.id.n]
end Go.Aw.Try
namespace Go.Aw
section
variable {E:Type} [Inhabited E]
theorem take_nth {l:List E} {k:Nat} (h:k<l.length):l.take (k+1)=l.take k ++ [nth l k]:=by
 rw [List.take_add_one,get_nth h]; rfl
end
end Go.Aw
namespace Go.Aw.Try
open Go Go.Proofs Go.Aw
set_option maxRecDepth 100000
set_option maxHeartbeats 4000000
section
variable {E:Type} [Inhabited E]
end
instance:Inhabited Edit:=⟨⟨⟨⟨#[]⟩,0⟩,0,0,[],0,⟨⟨#[]⟩,0⟩,⟨⟨#[]⟩,0⟩,false,⟨#[]⟩,⟨#[]⟩,⟨#[]⟩,⟨#[]⟩,⟨⟨#[]⟩,0⟩,⟨#[]⟩⟩⟩
theorem cmpI_pre:Pre cmpI:=⟨fun a b=>by unfold cmpI; (repeat' split) <;> omega,fun a b c=>by unfold cmpI; (repeat' split) <;> omega⟩
structure Cutoff where
 who:ByteArray
 n:Int
 err:Int
def Cutoff.row (c:Cutoff):List D:=[.v (.string c.who),.v (.int .i64 c.n),.v (.int .i64 c.err)]
instance:Inhabited Cutoff:=⟨⟨⟨#[]⟩,0,0⟩⟩
end Go.Aw.Try
namespace Go.Aw
section
variable {E:Type} {cmp:E→E→Int}
end
end Go.Aw
namespace Go.Aw.Try
open Go Go.Proofs Go.Aw
set_option maxRecDepth 100000
set_option maxHeartbeats 4000000
theorem Id.row_inj {a b:Id} (h:a.row=b.row):a=b:=by
 cases a; cases b; simp [Id.row] at h; simp [h]
theorem map_inj {α β:Type} {f:α→β} (hf:∀ a b,f a=f b→a=b):∀ {l l':List α},l.map f=l'.map f→l=l'
 | [],[],_=>rfl
 | [],_ :: _,h=>by simp at h
 | _ :: _,[],h=>by simp at h
 | a :: l,b :: l',h=>by
  simp only [List.map_cons,List.cons.injEq] at h
  rw [hf _ _ h.1,map_inj hf h.2]
theorem Edit.row_inj {a b:Edit} (h:a.row=b.row):a=b:=by
 obtain ⟨⟨_,_⟩,_,_,d1,_,⟨_,_⟩,⟨_,_⟩,_,_,_,_,_,⟨_,_⟩,_⟩:=a
 obtain ⟨⟨_,_⟩,_,_,d2,_,⟨_,_⟩,⟨_,_⟩,_,_,_,_,_,⟨_,_⟩,_⟩:=b
 simp [Edit.row] at h
 obtain ⟨h1,h2,h3,h4,h5,h6,h7,h8,h9,h10,h11,h12,h13,h14,h15,h16,h17,h18⟩:=h
 have:=map_inj (fun _ _=>Id.row_inj) h5
 subst this
 simp [*]
theorem rows_inj {l l':List Edit} (h:l.map Edit.row=l'.map Edit.row):l=l':=map_inj (fun _ _=>Edit.row_inj) h
instance:DecidableEq Id:=fun x y=>decidable_of_iff (x.a=y.a∧x.n=y.n) ⟨fun h=>by cases x; cases y; simp at h; simp [h],fun h=>by subst h; exact ⟨rfl,rfl⟩⟩
instance:DecidableEq Edit:=fun x y=>decidable_of_iff (x.deps=y.deps∧(x.id=y.id∧x.clock=y.clock∧x.floor=y.floor∧x.kind=y.kind∧x.node=y.node∧x.parent=y.parent∧(x.neg=y.neg∧x.num=y.num∧x.den=y.den)∧x.field=y.field∧x.value=y.value∧x.target=y.target∧x.who=y.who))
 ⟨fun h=>by cases x; cases y; simp at h; simp [h],fun h=>by subst h; simp⟩
instance:Inhabited Id:=⟨⟨⟨#[]⟩,0⟩⟩
theorem nth_mem {α:Type} [Inhabited α] {l:List α} {i:Nat} (h:i<l.length):nth l i∈l:=by rw [nth_eq h]; exact List.getElem_mem h
end Go.Aw.Try
namespace Go.Aw
open Go Go.Proofs Go.Sort
def lb (l:List UInt8):ByteArray:=⟨l.toArray⟩
section
variable {P:Program} {G:Gl}
end
open Go
section
variable {P:Program} {G:Gl} {N0:Nat}
theorem nil_row_le {ρ:Nat→Option Nat} {H:List O} {w:World} {sz:Nat} (hsz:0<sz) (hH:HRel P ρ H w):HRel P ρ (H ++ [.row sz []]) w∧(ctx ρ H w).le (ctx ρ (H ++ [.row sz []]) w):=by
 have hρ:ρ H.length=none:=by
  cases h:ρ H.length with
  | none=>rfl
  | some b=>have:=(hH.small _ _ h).1; omega
 have hst:∀ b,stab ρ H w b↔stab ρ (H ++ [.row sz []]) w b:=fun b=>by
  constructor
  ·rintro ⟨h1,h2⟩
   refine ⟨h1,fun r o hr hl=>?_⟩
   rw [List.getElem?_append] at hr
   split at hr
   ·exact h2 r o hr hl
   ·have:r=H.length:=by
     have:=(List.getElem?_eq_some_iff.1 hr).1; simp at this; omega
    subst this; rw [hρ]; simp
  ·rintro ⟨h1,h2⟩
   refine ⟨h1,fun r o hr hl=>h2 r o ?_ hl⟩
   rw [List.getElem?_append,if_pos (List.getElem?_eq_some_iff.1 hr).1]; exact hr
 have hle:(ctx ρ H w).le (ctx ρ (H ++ [.row sz []]) w):=⟨fun _ _ h=>h,by simp [ctx],⟨fun b hb=>(hst b).1 hb,fun _ _=>rfl,Nat.le_refl _,fun _ _ _ h=>h,rfl,rfl,rfl⟩⟩
 refine ⟨⟨?_,?_,?_⟩,hle⟩
 ·intro r o hr
  rw [List.getElem?_append] at hr
  split at hr
  ·exact (hH.objs r o hr).mono hle fun _ a ha=>rfl
  ·have:r=H.length:=by
    have:=(List.getElem?_eq_some_iff.1 hr).1; simp at this; omega
   subst this
   simp at hr; subst hr
   exact ⟨hsz,.inl ⟨hρ,rfl⟩⟩
 ·intro r r' o o' b hr hr' hl hl' h1 h2
  have lt:∀ r b,ρ r=some b→r<H.length:=fun r b h=>(hH.small r b h).1
  rw [List.getElem?_append,if_pos (lt _ _ h1)] at hr
  rw [List.getElem?_append,if_pos (lt _ _ h2)] at hr'
  exact hH.inj r r' o o' b hr hr' hl hl' h1 h2
 ·intro r b h
  have:=hH.small r b h
  exact ⟨by simp; omega,this.2⟩
theorem wk_nil_os {sl:Nat→T} {H:List O} {K:St→Prop} (t sz:Nat) (hsz:0<sz) (ht:sl t = .v (.c (.d (.v (.slice none 0 0))))) (h:wk P G N0 ⟨putS sl t (.v (.c (.os H.length sz 0 0))),H ++ [.row sz []]⟩ K):wk P G N0 ⟨sl,H⟩ K:=by
 refine wk_weak ?_ h
 intro n b ρ a w hb1 hb2 hs
 obtain ⟨g1,g2⟩:=nil_row_le hsz hs.heap
 refine ⟨ρ,g1,hs.size,hs.defers,fun i=>?_,hs.glob.mono g2.step,hs.le.trans g2⟩
 show TRel P _ (putS sl t _ i) _
 unfold putS
 split
 ·rename_i e
  subst e
  have:=hs.slots i
  show TRel P _ _ _
  have h2:TRel P (ctx ρ H w) (.v (.c (.d (.v (.slice none 0 0))))) (a.tmps.getD i undef):=by
   have h3:TRel P (ctx ρ H w) (sl i) (a.tmps.getD i undef):=this
   rw [ht] at h3; exact h3
  rw [trel_val h2]
  exact ⟨by simp [ctx],.inl ⟨rfl,none,rfl⟩⟩
 ·exact (hs.slots i).mono g2
end
section
variable {P:Program} {G:Gl} {N0:Nat}
theorem setB_again {w:World} {b:Nat} {o:Obj} (h:w.heap[b]? = some o):setB w b o=w:=by
 have:w.heap.setIfInBounds b o=w.heap:=by
  apply Array.ext_getElem?
  intro i
  by_cases q:b=i
  ·subst q
   rw [Array.getElem?_setIfInBounds_self_of_lt (Array.getElem?_eq_some_iff.1 h).1,h]
  ·rw [Array.getElem?_setIfInBounds_ne q]
 show { w with heap:=w.heap.setIfInBounds b o }=w
 rw [this]
theorem HRel.seen {ρ:Nat→Option Nat} {H:List O} {w:World} {r:Nat} {cs cs':List C} (hH:HRel P ρ H w) (hr:H[r]? = some (.cells cs)) (h:∀ vs,CsRel P (ctx ρ H w) cs vs→CsRel P (ctx ρ H w) cs' vs) :
  HRel P ρ (H.set r (.cells cs')) w∧(ctx ρ H w).le (ctx ρ (H.set r (.cells cs')) w):=by
 obtain ⟨a,c,e,h1,h2,h3⟩:=hH.objs r _ hr
 have h2:w.heap[a]? = some (.cells c e (0,0)):=h2
 have le:=HRel.le_setB (ρ:=ρ) (w:=w) hr rfl h1 h2 rfl (.cells cs') rfl
 rw [setB_again h2] at le
 have h4:=(h c h3).mono le
 have g:=hH.setB hr rfl h1 h2 rfl (.cells cs') rfl ⟨a,c,e,rfl,by rw [setB_again h2]; exact h2,by rw [setB_again h2]; exact h4⟩
 rw [setB_again h2] at g
 exact ⟨g,le⟩
theorem CsRel.set {k:K} {cs:List C} {vs:Array Value} (h:CsRel P k cs vs) {j:Nat} {c c':C} (hj:cs[j]? = some c) (hc:∀ v,CRel P k c v→CRel P k c' v):CsRel P k (cs.set j c') vs:=by
 refine ⟨by rw [List.length_set]; exact h.1,fun i d v hd hv=>?_⟩
 rw [List.getElem?_set] at hd
 by_cases e:j=i
 ·subst e
  rw [if_pos rfl] at hd
  split at hd
  ·injection hd with hd; subst hd; exact hc v (h.2 j c v hj hv)
  ·cases hd
 ·rw [if_neg e] at hd; exact h.2 i d v hd hv
end
end Go.Aw
namespace Go.Aw.Try
open Go Go.Proofs Go.Aw
set_option maxRecDepth 100000
set_option maxHeartbeats 4000000
def prA (a:ByteArray) (x:Id):Bool:=decide (x.a=a)
def hasN (v:List Id) (a:ByteArray):Int:=match v.find? (prA a) with | some x=>x.n | none=>0
def AscI (v:List Id):Prop:=v.Pairwise fun x y=>cmpS x.a y.a<0
def lowB (v:List Id) (a:ByteArray):Nat:=(v.takeWhile fun x=>decide (cmpS x.a a<0)).length
def conI (v:List Id) (x:Id):Bool:=decide (1≤x.n) && decide (x.n≤hasN v x.a)
def byt (s:ByteArray) (i:Nat):Int:=((s.data[i]?.getD 0).toNat:Int)
def badA (s:ByteArray) (i:Nat):Bool:=!(decide (97≤byt s i) && decide (byt s i≤122)) && (decide (i=0) || (decide (byt s i<48) || decide (57<byt s i)))
def authB (s:ByteArray):Bool:=decide (∀ j,j<s.size→badA s j=false) && (decide (0<s.size) && decide (s.size≤24))
theorem k526 (s:ByteArray) (hs:s.size<4611686018427387904):ACalls prog G0 46 [Sx s] [] fun t H=>t = .bool (authB s)∧H=[]:=by
 refine acallsX (X:=[]) trivial tab hmix func46 c526 (by rfl) fun hw=>?_
 simp -implicitDefEqProofs (disch:=omega) [gz,ir526,b526,wrap64]
 refine loopE (fun k st=>∃ i,i≤s.size∧k=s.size-i∧(∀ j,j<i→badA s j=false) ∧
   st=⟨ofL [(0,.v (.c (.d (.v (.string s))))),(3,.int .i64 i)],[]⟩)
  (fun st=>(∀ j,j<s.size→badA s j=false)∧AtS [(0,.v (.c (.d (.v (.string s)))))] [] st) ?_ ?_ ?_
 ·refine wk_keep [0,3] ⟨_,0,by omega,rfl,fun j hj=>by omega,?_⟩
  simp
 ·rintro J L hJ hL k st ⟨i,hi,rfl,hb,rfl⟩
  by_cases hlt:i<s.size
  ·have hby:((s.data[i]?.getD 0).toNat:Int)=byt s i:=rfl
   obtain ⟨b,hbb⟩:∃ b,b=byt s i:=⟨_,rfl⟩
   have hbad:badA s i=(!(decide (97≤b) && decide (b≤122)) && (decide (i=0) || (decide (b<48) || decide (57<b)))):=by rw [hbb]; rfl
   rw [← hbb] at hby
   by_cases c1:97≤b
   ·have c1':¬ b<97:=by omega
    by_cases c2:b≤122
    ·have c2':¬ 122<b:=by omega
     simp -implicitDefEqProofs (disch:=omega) [gz,hlt,wrap64,hby,c1,c1',c2,c2']
     subst hJ
     refine wk_keep [0,3] ⟨s.size-(i+1),by omega,i+1,by omega,rfl,fun j hj=>?_,?_⟩
     ·by_cases e1:j=i
      ·subst e1; rw [hbad]; simp [c1,c1',c2,c2']
      ·exact hb j (by omega)
     ·simp
    ·have c2':122<b:=by omega
     by_cases c3:i=0
     ·subst c3
      rw [show authB s=false from by unfold authB; rw [decide_eq_false (fun h=>by have:=h 0 hlt; rw [hbad] at this; simp [c1,c1',c2,c2'] at this),Bool.false_and]]
      simp -implicitDefEqProofs (disch:=omega) [gz,hlt,wrap64,hby,c1,c1',c2,c2']
      exact fin_nil ⟨rfl,rfl⟩
     ·have c4:¬ b<48:=by omega
      have c4':48≤b:=by omega
      have c5:57<b:=by omega
      rw [show authB s=false from by unfold authB; rw [decide_eq_false (fun h=>by have:=h i hlt; rw [hbad] at this; simp [c1,c1',c2,c2',c3,c4,c4',c5] at this),Bool.false_and]]
      simp -implicitDefEqProofs (disch:=omega) [gz,hlt,wrap64,hby,c1,c1',c2,c2',c3,c4,c4',c5]
      exact fin_nil ⟨rfl,rfl⟩
   ·have c1':b<97:=by omega
    by_cases c3:i=0
    ·subst c3
     rw [show authB s=false from by unfold authB; rw [decide_eq_false (fun h=>by have:=h 0 hlt; rw [hbad] at this; simp [c1,c1'] at this),Bool.false_and]]
     simp -implicitDefEqProofs (disch:=omega) [gz,hlt,wrap64,hby,c1,c1']
     exact fin_nil ⟨rfl,rfl⟩
    ·by_cases c4:b<48
     ·have c4':¬ 48≤b:=by omega
      rw [show authB s=false from by unfold authB; rw [decide_eq_false (fun h=>by have:=h i hlt; rw [hbad] at this; simp [c1,c1',c3,c4,c4'] at this),Bool.false_and]]
      simp -implicitDefEqProofs (disch:=omega) [gz,hlt,wrap64,hby,c1,c1',c3,c4,c4']
      exact fin_nil ⟨rfl,rfl⟩
     ·have c4':48≤b:=by omega
      by_cases c5:57<b
      ·have c5':¬ b≤57:=by omega
       rw [show authB s=false from by unfold authB; rw [decide_eq_false (fun h=>by have:=h i hlt; rw [hbad] at this; simp [c1,c1',c3,c4,c4',c5,c5'] at this),Bool.false_and]]
       simp -implicitDefEqProofs (disch:=omega) [gz,hlt,wrap64,hby,c1,c1',c3,c4,c4',c5,c5']
       exact fin_nil ⟨rfl,rfl⟩
      ·have c5':b≤57:=by omega
       simp -implicitDefEqProofs (disch:=omega) [gz,hlt,wrap64,hby,c1,c1',c3,c4,c4',c5,c5']
       subst hJ
       refine wk_keep [0,3] ⟨s.size-(i+1),by omega,i+1,by omega,rfl,fun j hj=>?_,?_⟩
       ·by_cases e1:j=i
        ·subst e1; rw [hbad]; simp [c1,c1',c3,c4,c4',c5,c5']
        ·exact hb j (by omega)
       ·simp
  ·have:i=s.size:=by omega
   subst this
   simp -implicitDefEqProofs (disch:=omega) [gz,hlt]
   subst hL
   exact ⟨hb,at_mk (by simp) rfl⟩
 ·rintro _ ⟨hb,sl,rfl⟩
  simp -implicitDefEqProofs (disch:=omega) [gz,wrap64]
  have ha:authB s=(decide (0<s.size) && decide (s.size≤24)):=by unfold authB; rw [decide_eq_true hb,Bool.true_and]
  refine ⟨fun h=>fin_nil ⟨?_,rfl⟩,fun h=>fin_nil ⟨?_,rfl⟩⟩
  ·rw [ha,decide_eq_true h,Bool.true_and]
   have:decide ((s.size:Int)≤24)=decide (s.size≤24):=by
    by_cases q:s.size≤24
    ·rw [decide_eq_true q,decide_eq_true (by omega)]
    ·rw [decide_eq_false q,decide_eq_false (by omega)]
   rw [this]; rfl
  ·rw [ha,h]; rfl
def x526:XE:=mkX true (fun (s:ByteArray)=>[.c (.v (.string s))]) (fun s=>s.size<4611686018427387904) (fun s=>.bool (authB s))
theorem kx526:Contract prog G0 46 x526:=mkX_scal (fun _=>rfl) fun s h=>k526 s h
theorem xg526 (s:ByteArray) (h:s.size<4611686018427387904):x526.g [.c (.v (.string s))]=some (True,.bool (authB s)):=mkX_g (fun a b h=>by simp at h; exact h) s h
theorem cmpS_trans {a b c:ByteArray} (h1:cmpS a b<0) (h2:cmpS b c<0):cmpS a c<0:=by
 have h3:=cmpS_pre.tr a b c (by omega) (by omega)
 by_cases h:cmpS a c=0
 ·have:=(cmpS_eq a c).1 h
  subst this
  have:=cmpS_sgn a b
  omega
 ·omega
theorem nodup_len {α:Type} [DecidableEq α]:∀ {M A:List α},M.Nodup→(∀ x∈M,x∈A)→M.length≤A.length
 | [],_,_,_=>Nat.zero_le _
 | x :: r,A,hn,hs=>by
  obtain ⟨h1,h2⟩:=List.nodup_cons.1 hn
  have hx:x∈A:=hs x (List.mem_cons_self ..)
  have:=nodup_len (A:=A.erase x) h2 fun y hy=>(List.mem_erase_of_ne (fun e=>h1 (by rw [← e]; exact hy))).2 (hs y (List.mem_cons_of_mem _ hy))
  rw [List.length_erase_of_mem hx] at this
  have:0<A.length:=List.length_pos_of_mem hx
  simp only [List.length_cons]; omega
theorem pw_ext {α:Type} {R:α→α→Prop} (asy:∀ a b,R a b→¬ R b a) (ir:∀ a,¬ R a a):∀ {l l':List α},l.Pairwise R→l'.Pairwise R→(∀ x,x∈l↔x∈l')→l=l'
 | [],[],_,_,_=>rfl
 | [],y :: l',_,_,h=>by have:=(h y).2 List.mem_cons_self; cases this
 | x :: l,[],_,_,h=>by have:=(h x).1 List.mem_cons_self; cases this
 | x :: l,y :: l',h1,h2,h=>by
  obtain ⟨a1,a2⟩:=List.pairwise_cons.1 h1
  obtain ⟨b1,b2⟩:=List.pairwise_cons.1 h2
  have exy:x=y:=by
   rcases List.mem_cons.1 ((h x).1 List.mem_cons_self) with e | hx
   ·exact e
   ·rcases List.mem_cons.1 ((h y).2 List.mem_cons_self) with e | hy
    ·exact e.symm
    ·exact absurd (b1 x hx) (asy _ _ (a1 y hy))
  subst exy
  rw [pw_ext asy ir a2 b2 fun z=>?_]
  constructor
  ·intro hz
   rcases List.mem_cons.1 ((h z).1 (List.mem_cons_of_mem _ hz)) with e | hz'
   ·subst e; exact absurd (a1 z hz) (ir z)
   ·exact hz'
  ·intro hz
   rcases List.mem_cons.1 ((h z).2 (List.mem_cons_of_mem _ hz)) with e | hz'
   ·subst e; exact absurd (b1 z hz) (ir z)
   ·exact hz'
theorem bool_ext {a b:Bool} (h:a=true↔b=true):a=b:=by
 cases a <;> cases b <;> simp at h ⊢
end Go.Aw.Try
namespace Go.Aw
open Go
section
variable {P:Program} {G:Gl} {N0:Nat}
theorem ACalls.gm {f:Nat} {args:List V} {H:List O} {R:T→List O→Prop} (h:ACalls P Try.G0 f args H R):ACalls P G f args H R :=
 ⟨h.1,fun ρ w vs a _ c=>h.2 ρ w vs a (fun g cs hg=>(nomatch hg)) c⟩
theorem Contract.gm {f:Nat} {x:XE} (h:Contract P Try.G0 f x):Contract P G f x:=by
 intro ps ob t hg ho
 have:=h ps ob t hg ho
 split at this
 ·rename_i hs
  rw [if_pos hs]; exact ⟨this.1,this.2.gm⟩
 ·rename_i hs
  rw [if_neg hs]; exact fun H=>(this H).gm
theorem wk_tell {sl:Nat→T} {H:List O} {K:St→Prop} (t:Nat) {u:V} {p:PV} (ht:sl t = .v u) (hp:toPV H u=some p) (h:wk P G N0 ⟨putS sl t (.v p.toV),frz H u.cells⟩ K):wk P G N0 ⟨sl,H⟩ K:=by
 refine wk_weak ?_ h
 intro n b ρ a w hb1 hb2 hs
 obtain ⟨h1,l1⟩:=frz_rel u.cells hs.heap
 refine ⟨ρ,h1,hs.size,hs.defers,fun i=>?_,hs.glob.mono l1.step,hs.le.trans l1⟩
 show TRel P _ (putS sl t _ i) _
 unfold putS
 split
 ·rename_i e
  subst e
  have h3:TRel P (ctx ρ H w) (sl i) (a.tmps.getD i undef):=hs.slots i
  rw [ht] at h3
  exact pv_rel (P:=P) (k:=ctx ρ (frz H u.cells) w) (topv_rel hs.heap hp h3)
 ·exact (hs.slots i).mono l1
end
end Go.Aw
namespace Go.Nv
def valB:List UInt8→Nat
 | []=>0
 | b :: r=>b.toNat+256*valB r
def natV (s:ByteArray):Nat:=valB s.data.toList
def digs (n:Nat):List UInt8:=if h:n=0 then [] else UInt8.ofNat (n % 256) :: digs (n / 256)
termination_by n
decreasing_by omega
def natB (n:Nat):ByteArray:=⟨(digs n).toArray⟩
theorem digs_zero:digs 0=[]:=by rw [digs]; simp
theorem digs_pos {n:Nat} (h:n≠0):digs n=UInt8.ofNat (n % 256) :: digs (n / 256):=by rw [digs]; simp [h]
theorem toNat_of {n:Nat} (h:n<256):(UInt8.ofNat n).toNat=n:=by simp [UInt8.toNat_ofNat']; omega
theorem valB_digs (n:Nat):valB (digs n)=n:=by
 induction n using Nat.strongRecOn with
 | _ n ih =>
  by_cases h:n=0
  ·subst h; rw [digs_zero]; rfl
  ·rw [digs_pos h,valB,toNat_of (by omega),ih (n / 256) (by omega)]; omega
theorem natV_natB (n:Nat):natV (natB n)=n:=valB_digs n
def trimZ:List UInt8→List UInt8
 | []=>[]
 | b :: r=>if trimZ r=[]∧b=0 then [] else b :: trimZ r
theorem valB_trim:∀ l,valB (trimZ l)=valB l
 | []=>rfl
 | b :: r=>by
  have ih:=valB_trim r
  unfold trimZ
  split
  ·rename_i h
   rw [h.1] at ih
   simp only [valB] at ih ⊢
   rw [← ih,h.2]; rfl
  ·simp only [valB,ih]
theorem valB_zero:∀ {l},trimZ l=[]→valB l=0
 | l,h=>by rw [← valB_trim,h]; rfl
theorem trim_zero:∀ {l},valB l=0→trimZ l=[]
 | [],_=>rfl
 | b :: r,h=>by
  simp only [valB] at h
  unfold trimZ
  rw [if_pos]
  refine ⟨trim_zero (by omega),?_⟩
  apply UInt8.toNat_inj.1
  show b.toNat=0; omega
theorem digs_valB:∀ l,digs (valB l)=trimZ l
 | []=>digs_zero
 | b :: r=>by
  have ih:=digs_valB r
  have hb:=b.toNat_lt
  by_cases h:valB (b :: r)=0
  ·rw [h,digs_zero,trim_zero h]
  ·rw [digs_pos h]
   have e1:valB (b :: r) % 256=b.toNat:=by simp only [valB]; omega
   have e2:valB (b :: r) / 256=valB r:=by simp only [valB]; omega
   rw [e1,e2,ih,UInt8.ofNat_toNat]
   rw [trimZ,if_neg]
   rintro ⟨q1,q2⟩
   exact h (by simp only [valB]; rw [valB_zero q1,q2]; rfl)
theorem valB_lt:∀ l:List UInt8,valB l<256^l.length
 | []=>by simp [valB]
 | b :: r=>by
  have ih:=valB_lt r
  have hb:=b.toNat_lt
  simp only [valB,List.length_cons,Nat.pow_succ]; omega
theorem trim_le:∀ l:List UInt8,(trimZ l).length≤l.length
 | []=>Nat.le_refl _
 | b :: r=>by
  have:=trim_le r
  unfold trimZ; split <;> simp <;> omega
theorem digs_len_le {n k:Nat} (h:n<256^k):(digs n).length≤k:=by
 induction k generalizing n with
 | zero=>simp at h; subst h; rw [digs_zero]; simp
 | succ k ih =>
  by_cases h0:n=0
  ·subst h0; rw [digs_zero]; simp
  ·rw [digs_pos h0,List.length_cons]
   have:=ih (n:=n / 256) (by rw [Nat.pow_succ] at h; omega)
   omega
theorem digs_len_gt {n k:Nat} (h:(digs n).length≤k):n<256^k:=by
 have:=valB_lt (digs n)
 rw [valB_digs] at this
 exact Nat.lt_of_lt_of_le this (Nat.pow_le_pow_right (by omega) h)
theorem natB_inj {a b:Nat} (h:natB a=natB b):a=b:=by
 have:=congrArg natV h
 rwa [natV_natB,natV_natB] at this
def BL:Nat:=4294967296
theorem BL_eq:BL=4294967296:=rfl
theorem BL_pos:0<BL:=by rw [BL_eq]; omega
def valL:List Nat→Nat
 | []=>0
 | x :: r=>x+BL*valL r
theorem valL_app:∀ (a b:List Nat),valL (a ++ b)=valL a+BL^a.length*valL b
 | [],b=>by simp [valL]
 | x :: a,b=>by
  have:=valL_app a b
  simp only [List.cons_append,valL,this,List.length_cons,Nat.pow_succ]; grind
theorem valL_take {l:List Nat} {i:Nat} (h:i<l.length):valL (l.take (i+1))=valL (l.take i)+BL^i*l[i]:=by
 rw [List.take_succ_eq_append_getElem h,valL_app]
 simp [valL,Nat.min_eq_left (Nat.le_of_lt h)]
def Lim (l:List Nat):Prop:=∀ x∈l,x<BL
theorem valL_lt:∀ {l:List Nat},Lim l→valL l<BL^l.length
 | [],_=>by simp [valL]
 | x :: r,h=>by
  have h1:=h x (List.mem_cons_self ..)
  have h2:=valL_lt (l:=r) fun y hy=>h y (List.mem_cons_of_mem _ hy)
  simp only [valL,List.length_cons,Nat.pow_succ]
  have:valL r+1≤BL^r.length:=h2
  have:=Nat.mul_le_mul_left BL this
  grind
theorem valL_split (l:List Nat) (i:Nat) (h:i≤l.length):valL l=valL (l.take i)+BL^i*valL (l.drop i):=by
 conv=>lhs; rw [← List.take_append_drop i l,valL_app]
 rw [List.length_take,Nat.min_eq_left h]
structure Win (U D P top nxt front u2:Nat):Prop where
 hP:0<P
 half:BL≤2*top
 topl:top<BL
 nxtl:nxt<BL
 u2l:u2<BL
 D1:(top*BL+nxt)*P≤D
 D2:D<(top*BL+nxt+1)*P
 U1:(front*BL+u2)*P≤U
 U2:U<(front*BL+u2+1)*P
 small:U<D*BL
theorem Win.front_le {U D P top nxt front u2:Nat} (h:Win U D P top nxt front u2):front<(top+1)*BL:=by
 have h1:=h.U1
 have h2:=h.small
 have h3:=h.D2
 apply Classical.byContradiction
 intro hc
 have hc:(top+1)*BL≤front:=by omega
 have a1:(top+1)*BL*BL*P≤(front*BL+u2)*P:=by
  apply Nat.mul_le_mul_right
  have:=Nat.mul_le_mul_right BL hc
  omega
 have a2:D*BL<(top*BL+nxt+1)*P*BL:=Nat.mul_lt_mul_of_pos_right h3 BL_pos
 have a3:(top*BL+nxt+1)*P*BL≤(top+1)*BL*BL*P:=by
  have:top*BL+nxt+1≤(top+1)*BL:=by have:=h.nxtl; rw [Nat.add_mul]; omega
  calc (top*BL+nxt+1)*P*BL≤((top+1)*BL)*P*BL:=Nat.mul_le_mul_right _ (Nat.mul_le_mul_right _ this)
   _=(top+1)*BL*BL*P:=by grind
 omega
theorem Win.ge {U D P top nxt front u2 q r:Nat} (h:Win U D P top nxt front u2) (hqr:q*top+r=front) (hr:q*nxt≤r*BL+u2) (hq:q<BL):(q-1)*D≤U:=by
 by_cases q0:q=0
 ·subst q0; simp
 ·have e1:q*(top*BL+nxt)≤front*BL+u2:=by
   rw [← hqr]
   have:q*(top*BL+nxt)=q*top*BL+q*nxt:=by grind
   rw [this,Nat.add_mul]; omega
  have e2:q*D≤q*((top*BL+nxt+1)*P):=Nat.mul_le_mul_left _ (Nat.le_of_lt h.D2)
  have e3:q*((top*BL+nxt+1)*P)=q*(top*BL+nxt)*P+q*P:=by grind
  have e4:q*(top*BL+nxt)*P≤(front*BL+u2)*P:=Nat.mul_le_mul_right _ e1
  have e5:q*P≤D:=by
   have:q*P≤BL*P:=Nat.mul_le_mul_right _ (Nat.le_of_lt hq)
   have h2:BL*P≤(top*BL+nxt)*P:=by
    apply Nat.mul_le_mul_right
    have:1*BL≤top*BL:=Nat.mul_le_mul_right _ (by have:=h.half; omega)
    omega
   have:=h.D1; omega
  have e6:q*D=(q-1)*D+D:=by
   obtain ⟨k,rfl⟩:∃ k,q=k+1:=⟨q-1,by omega⟩
   rw [Nat.add_sub_cancel,Nat.add_mul,Nat.one_mul]
  have:=h.U1
  omega
theorem Win.le0 {U D P top nxt front u2 q:Nat} (h:Win U D P top nxt front u2) (hq:q*D≤U):q≤front / top:=by
 have ht:0<top:=by have:=h.half; have:=BL_pos; omega
 rw [Nat.le_div_iff_mul_le ht]
 have h1:=h.D1
 have h2:=h.U2
 apply Classical.byContradiction
 intro hc
 have hc:front+1≤q*top:=by omega
 have a1:q*((top*BL+nxt)*P)≤q*D:=Nat.mul_le_mul_left _ h1
 have a2:(front+1)*BL*P≤q*top*BL*P:=Nat.mul_le_mul_right _ (Nat.mul_le_mul_right _ hc)
 have a3:q*top*BL*P≤q*((top*BL+nxt)*P):=by
  have:q*((top*BL+nxt)*P)=q*top*BL*P+q*nxt*P:=by grind
  omega
 have a4:(front*BL+u2+1)*P≤(front+1)*BL*P:=by
  apply Nat.mul_le_mul_right
  have:=h.u2l; rw [Nat.add_mul]; omega
 omega
theorem Win.le {U D P top nxt front u2 q r k:Nat} (h:Win U D P top nxt front u2) (hqr:q*top+r=front) (hk:k*D≤U) (hkq:k≤q) (hr:BL≤q∨r*BL+u2<q*nxt):k≤q-1:=by
 apply Classical.byContradiction
 intro hc
 have hkq2:k=q:=by omega
 subst hkq2
 rcases hr with hr | hr
 ·have h1:BL*D≤k*D:=Nat.mul_le_mul_right _ hr
  have h2:=h.small
  rw [Nat.mul_comm D] at h2; omega
 ·have e1:front*BL+u2+1≤k*(top*BL+nxt):=by
   rw [← hqr]
   have:k*(top*BL+nxt)=k*top*BL+k*nxt:=by grind
   rw [this,Nat.add_mul]; omega
  have e2:(front*BL+u2+1)*P≤k*(top*BL+nxt)*P:=Nat.mul_le_mul_right _ e1
  have e3:k*(top*BL+nxt)*P≤k*D:=by
   rw [Nat.mul_assoc]; exact Nat.mul_le_mul_left _ h.D1
  have:=h.U2
  omega
theorem Win.big {U D P top nxt front u2 q r:Nat} (h:Win U D P top nxt front u2) (hqr:q*top+r=front) (hr:BL≤r):q<BL∧q*nxt≤r*BL+u2:=by
 have hf:=h.front_le
 have hq:q<BL:=by
  apply Classical.byContradiction
  intro hc
  have:BL*top≤q*top:=Nat.mul_le_mul_right _ (by omega)
  rw [Nat.add_mul,Nat.mul_comm top] at hf
  omega
 refine ⟨hq,?_⟩
 have h1:q*nxt≤BL*BL:=Nat.mul_le_mul (by omega) (by have:=h.nxtl; omega)
 have h2:BL*BL≤r*BL:=Nat.mul_le_mul_right _ hr
 omega
theorem Win.digit {U D P top nxt front u2 q r:Nat} (h:Win U D P top nxt front u2) (hD:0<D) (hqr:q*top+r=front) (hk:U / D≤q) (hp:(q<BL∧q*nxt≤r*BL+u2)∨BL≤r):q<BL∧(q=U / D∨q=U / D+1):=by
 have hp2:q<BL∧q*nxt≤r*BL+u2:=by
  rcases hp with hp | hp
  ·exact hp
  ·exact h.big hqr hp
 refine ⟨hp2.1,?_⟩
 have:=h.ge hqr hp2.2 hp2.1
 have h2:q-1≤U / D:=by rw [Nat.le_div_iff_mul_le hD]; exact this
 omega
end Go.Nv
namespace Go.Nv
structure Rt where
 neg:Bool
 num:ByteArray
 den:ByteArray
def bE:ByteArray:=⟨#[]⟩
theorem natV_E:natV bE=0:=rfl
theorem natB_0:natB 0=bE:=by unfold natB; rw [digs_zero]; rfl
def denV (d:ByteArray):Nat:=if natV d=0 then 1 else natV d
theorem denV_pos (d:ByteArray):0<denV d:=by unfold denV; split <;> omega
def mkR (neg:Bool) (a b:Nat):Rt:=if a=0 then ⟨false,bE,bE⟩ else ⟨neg,natB (a / a.gcd b),if b / a.gcd b=1 then bE else natB (b / a.gcd b)⟩
def normR (x:Rt):Rt:=mkR x.neg (natV x.num) (denV x.den)
theorem mkR_num {neg:Bool} {a b:Nat}:natV (mkR neg a b).num=a / a.gcd b:=by
 unfold mkR
 split
 ·rename_i h; subst h; simp [natV_E]
 ·exact natV_natB _
theorem mkR_den {neg:Bool} {a b:Nat} (hb:0<b):denV (mkR neg a b).den=b / a.gcd b:=by
 unfold mkR
 split
 ·rename_i h; subst h
  have:(0:Nat).gcd b=b:=Nat.gcd_zero_left b
  rw [this,Nat.div_self hb]; rfl
 ·rename_i h
  have hg:0<a.gcd b:=Nat.gcd_pos_of_pos_right _ hb
  have hp:0<b / a.gcd b:=Nat.div_pos (Nat.gcd_le_right _ hb) hg
  by_cases h1:b / a.gcd b=1
  ·rw [if_pos h1,h1]; rfl
  ·simp only [if_neg h1]
   unfold denV
   rw [natV_natB,if_neg (by omega)]
theorem mkR_neg {neg:Bool} {a b:Nat} (h:a≠0):(mkR neg a b).neg=neg:=by unfold mkR; rw [if_neg h]
theorem mkR_zero (neg:Bool) (b:Nat):mkR neg 0 b=⟨false,bE,bE⟩:=by unfold mkR; rw [if_pos rfl]
theorem norm_mk {neg:Bool} {a b:Nat} (hb:0<b):normR (mkR neg a b)=mkR neg a b:=by
 unfold normR
 rw [mkR_num,mkR_den hb]
 by_cases h:a=0
 ·subst h; rw [mkR_zero]; simp [mkR_zero]
 ·have hg:0<a.gcd b:=Nat.gcd_pos_of_pos_right _ hb
  have ha:0<a / a.gcd b:=Nat.div_pos (Nat.gcd_le_left _ (by omega)) hg
  have hc:(a / a.gcd b).gcd (b / a.gcd b)=1:=Nat.coprime_div_gcd_div_gcd hg
  rw [mkR_neg h]
  show (if a / a.gcd b=0 then _ else _)=_
  rw [if_neg (by omega),hc,Nat.div_one,Nat.div_one]
  unfold mkR
  rw [if_neg h]
theorem mkR_eq {neg:Bool} {a b c d:Nat} (hb:0<b) (hd:0<d) (h:a*d=c*b):mkR neg a b=mkR neg c d:=by
 by_cases ha:a=0
 ·subst ha
  have:c=0:=by
   have h2:c*b=0:=by rw [← h]; simp
   rcases Nat.mul_eq_zero.1 h2 with q | q
   ·exact q
   ·omega
  subst this
  rw [mkR_zero,mkR_zero]
 ·have hc:c≠0:=fun q=>by
   subst q
   rw [Nat.zero_mul] at h
   rcases Nat.mul_eq_zero.1 h with q | q <;> omega
  have hg1:0<a.gcd b:=Nat.gcd_pos_of_pos_right _ hb
  have hg2:0<c.gcd d:=Nat.gcd_pos_of_pos_right _ hd
  have e1:a*c.gcd d=c*a.gcd b:=by
   rw [← Nat.gcd_mul_left,← Nat.gcd_mul_left,h,Nat.mul_comm a c]
  have e2:b*c.gcd d=d*a.gcd b:=by
   have x1:b*c.gcd d=(b*c).gcd (b*d):=(Nat.gcd_mul_left b c d).symm
   have x2:d*a.gcd b=(d*a).gcd (d*b):=(Nat.gcd_mul_left d a b).symm
   rw [x1,x2,Nat.mul_comm d a,h,Nat.mul_comm b c,Nat.mul_comm b d]
  have q1:a / a.gcd b=c / c.gcd d:=by
   obtain ⟨k,hk⟩:=Nat.gcd_dvd_left a b
   obtain ⟨m,hm⟩:=Nat.gcd_dvd_left c d
   have:a.gcd b*k*c.gcd d=c.gcd d*m*a.gcd b:=by rw [← hk,← hm]; exact e1
   have hkm:k=m:=by
    have h3:(a.gcd b*c.gcd d)*k=(a.gcd b*c.gcd d)*m:=by
     rw [Nat.mul_right_comm,this,Nat.mul_comm (c.gcd d*m),Nat.mul_assoc]
    exact Nat.eq_of_mul_eq_mul_left (Nat.mul_pos hg1 hg2) h3
   have a1:a / a.gcd b=k:=Nat.div_eq_of_eq_mul_right hg1 hk
   have a2:c / c.gcd d=m:=Nat.div_eq_of_eq_mul_right hg2 hm
   rw [a1,a2,hkm]
  have q2:b / a.gcd b=d / c.gcd d:=by
   obtain ⟨k,hk⟩:=Nat.gcd_dvd_right a b
   obtain ⟨m,hm⟩:=Nat.gcd_dvd_right c d
   have:a.gcd b*k*c.gcd d=c.gcd d*m*a.gcd b:=by rw [← hk,← hm]; exact e2
   have hkm:k=m:=by
    have h3:(a.gcd b*c.gcd d)*k=(a.gcd b*c.gcd d)*m:=by
     rw [Nat.mul_right_comm,this,Nat.mul_comm (c.gcd d*m),Nat.mul_assoc]
    exact Nat.eq_of_mul_eq_mul_left (Nat.mul_pos hg1 hg2) h3
   have a1:b / a.gcd b=k:=Nat.div_eq_of_eq_mul_right hg1 hk
   have a2:d / c.gcd d=m:=Nat.div_eq_of_eq_mul_right hg2 hm
   rw [a1,a2,hkm]
  unfold mkR
  rw [if_neg ha,if_neg hc,q1,q2]
end Go.Nv
namespace Go.Nv
def mkI (z:Int) (b:Nat):Rt:=mkR (decide (z<0)) z.natAbs b
def sgn (neg:Bool) (a:Nat):Int:=if neg then -(a:Int) else (a:Int)
theorem sgn_abs (neg:Bool) (a:Nat):(sgn neg a).natAbs=a:=by
 unfold sgn; split <;> omega
theorem mkI_sgn (neg:Bool) (a b:Nat):mkI (sgn neg a) b=mkR neg a b:=by
 unfold mkI
 rw [sgn_abs]
 by_cases h:a=0
 ·subst h; rw [mkR_zero,mkR_zero]
 ·have:decide (sgn neg a<0)=neg:=by
   unfold sgn
   cases neg
   ·simp
   ·simp; omega
  rw [this]
theorem mkI_eq {z y:Int} {b d:Nat} (hb:0<b) (hd:0<d) (h:z*d=y*b):mkI z b=mkI y d:=by
 unfold mkI
 have hn:z.natAbs*d=y.natAbs*b:=by
  have:=congrArg Int.natAbs h
  rw [Int.natAbs_mul,Int.natAbs_mul] at this
  simpa using this
 have hs:(z<0)↔(y<0):=by
  have hb':(0:Int)<b:=by omega
  have hd':(0:Int)<d:=by omega
  constructor
  ·intro q
   have:=Int.mul_neg_of_neg_of_pos q hd'
   rw [h] at this
   rcases Int.lt_or_le y 0 with w | w
   ·exact w
   ·have:=Int.mul_nonneg w (Int.le_of_lt hb'); omega
  ·intro q
   have:=Int.mul_neg_of_neg_of_pos q hb'
   rw [← h] at this
   rcases Int.lt_or_le z 0 with w | w
   ·exact w
   ·have:=Int.mul_nonneg w (Int.le_of_lt hd'); omega
 rw [show decide (z<0)=decide (y<0) from decide_eq_decide.2 hs]
 exact mkR_eq hb hd hn
def numI (x:Rt):Int:=sgn x.neg (natV x.num)
theorem norm_mkI (x:Rt):normR x=mkI (numI x) (denV x.den):=(mkI_sgn _ _ _).symm
theorem numI_mk {z:Int} {b:Nat} (hb:0<b):numI (mkI z b)*b=z*denV (mkI z b).den:=by
 have hg:0<z.natAbs.gcd b:=Nat.gcd_pos_of_pos_right _ hb
 unfold numI
 rw [show natV (mkI z b).num=z.natAbs / z.natAbs.gcd b from mkR_num,show denV (mkI z b).den=b / z.natAbs.gcd b from mkR_den hb]
 obtain ⟨k,hk⟩:=Nat.gcd_dvd_left z.natAbs b
 obtain ⟨m,hm⟩:=Nat.gcd_dvd_right z.natAbs b
 generalize z.natAbs.gcd b=g at *
 have e1:z.natAbs / g=k:=by rw [hk,Nat.mul_div_cancel_left _ hg]
 have e2:b / g=m:=by rw [hm,Nat.mul_div_cancel_left _ hg]
 rw [e1,e2]
 by_cases h0:z=0
 ·subst h0
  have:k=0:=by
   have:g*k=0:=by rw [← hk]; rfl
   rcases Nat.mul_eq_zero.1 this with q | q
   ·omega
   ·exact q
  subst this
  unfold sgn; split <;> simp
 ·have hs:(mkI z b).neg=decide (z<0):=mkR_neg (by omega)
  rw [hs]
  have hz:z=if z<0 then -((g*k:Nat):Int) else ((g*k:Nat):Int):=by
   split <;> omega
  have hbm:(b:Int)=(g:Int)*m:=by rw [← Int.natCast_mul,← hm]
  rw [hbm]
  unfold sgn
  by_cases hn:z<0
  ·rw [if_pos hn] at hz
   rw [if_pos (by simpa using hn),hz,Int.natCast_mul,Int.neg_mul,Int.neg_mul]
   congr 1
   rw [← Int.mul_assoc,Int.mul_comm (k:Int) g]
  ·rw [if_neg hn] at hz
   rw [if_neg (by simpa using hn),hz,Int.natCast_mul]
   rw [← Int.mul_assoc,Int.mul_comm (k:Int) g]
end Go.Nv
namespace Go.Aw.Try
open Go Go.Proofs Go.Aw
set_option maxRecDepth 100000
set_option maxHeartbeats 4000000
def renS:Go.Shelf.Ren:=⟨fun n=>match n with | 119=>177 | 120=>172 | 128=>125 | 133=>144 | 137=>176 | 151=>170 | 152=>174 | 162=>142 | 197=>173 | 217=>180 | 224=>178 | 225=>179 | 227=>162 | 228=>168 | 232=>161 | 234=>163 | 236=>164 | 260=>175 | 266=>181 | 271=>169 | _=>0,fun n=>match n with | 0=>0 | 3=>3 | 4=>4 | 5=>5 | 9=>9 | 21=>21 | 46=>105 | 51=>114 | 105=>168 | 116=>156 | 117=>157 | 119=>175 | 124=>160 | 138=>177 | 139=>178 | _=>0,fun n=>match n with | 1=>4 | 3=>2 | 4=>3 | _=>0⟩
theorem ly162:Lays.n162 prog renS :=
  { mixed:=hmix
    f119:=func177.trans (by kernel_rfl)
    f120:=func172.trans (by kernel_rfl)
    f137:=func176.trans (by kernel_rfl)
    f151:=func170.trans (by kernel_rfl)
    f152:=func174.trans (by kernel_rfl)
    f162:=func142.trans (by kernel_rfl)
    f197:=func173.trans (by kernel_rfl)
    f217:=func180.trans (by kernel_rfl)
    f224:=func178.trans (by kernel_rfl)
    f225:=func179.trans (by kernel_rfl)
    f227:=func162.trans (by kernel_rfl)
    f228:=func168.trans (by kernel_rfl)
    f232:=func161.trans (by kernel_rfl)
    f234:=func163.trans (by kernel_rfl)
    f236:=func164.trans (by kernel_rfl)
    f260:=func175.trans (by kernel_rfl)
    f266:=func181.trans (by kernel_rfl)
    f271:=func169.trans (by kernel_rfl)
    t0:=Tryz.underlying0
    a0:=Tryz.isAgg0
    z0:=Tryz.sizeOf0
    v0:=Tryz.zeroValue0
    t3:=Tryz.underlying3
    a3:=Tryz.isAgg3
    z3:=Tryz.sizeOf3
    v3:=Tryz.zeroValue3
    t4:=Tryz.underlying4
    a4:=Tryz.isAgg4
    z4:=Tryz.sizeOf4
    v4:=Tryz.zeroValue4
    t5:=Tryz.underlying5
    a5:=Tryz.isAgg5
    z5:=Tryz.sizeOf5
    v5:=Tryz.zeroValue5
    t9:=Tryz.underlying9
    a9:=Tryz.isAgg9
    z9:=Tryz.sizeOf9
    v9:=Tryz.zeroValue9
    t21:=Tryz.underlying21
    a21:=Tryz.isAgg21
    z21:=Tryz.sizeOf21
    v21:=Tryz.zeroValue21
    t46:=Tryz.underlying105
    a46:=Tryz.isAgg105
    z46:=Tryz.sizeOf105
    v46:=Tryz.zeroValue105
    t105:=Tryz.underlying168
    a105:=Tryz.isAgg168
    z105:=Tryz.sizeOf168
    v105:=Tryz.zeroValue168
    t116:=Tryz.underlying156
    a116:=Tryz.isAgg156
    z116:=Tryz.sizeOf156
    t117:=Tryz.underlying157
    a117:=Tryz.isAgg157
    z117:=Tryz.sizeOf157
    v117:=Tryz.zeroValue157
    t119:=Tryz.underlying175
    a119:=Tryz.isAgg175
    z119:=Tryz.sizeOf175
    t124:=Tryz.underlying160
    a124:=Tryz.isAgg160
    z124:=Tryz.sizeOf160
    v124:=Tryz.zeroValue160
    t138:=Tryz.underlying177
    a138:=Tryz.isAgg177
    z138:=Tryz.sizeOf177
    v138:=Tryz.zeroValue177
    t139:=Tryz.underlying178
    a139:=Tryz.isAgg178
    z139:=Tryz.sizeOf178
    v139:=Tryz.zeroValue178
    g3:=by kernel_rfl
    g4:=by kernel_rfl }
theorem ly133:Lays.n133 prog renS :=
  { mixed:=hmix
    f128:=func125.trans (by kernel_rfl)
    f133:=func144.trans (by kernel_rfl)
    t3:=Tryz.underlying3
    a3:=Tryz.isAgg3
    z3:=Tryz.sizeOf3
    v3:=Tryz.zeroValue3
    t4:=Tryz.underlying4
    a4:=Tryz.isAgg4
    z4:=Tryz.sizeOf4
    v4:=Tryz.zeroValue4
    t5:=Tryz.underlying5
    a5:=Tryz.isAgg5
    z5:=Tryz.sizeOf5
    v5:=Tryz.zeroValue5
    t9:=Tryz.underlying9
    a9:=Tryz.isAgg9
    z9:=Tryz.sizeOf9
    v9:=Tryz.zeroValue9
    t46:=Tryz.underlying105
    a46:=Tryz.isAgg105
    z46:=Tryz.sizeOf105
    v46:=Tryz.zeroValue105
    t51:=Tryz.underlying114
    a51:=Tryz.isAgg114
    z51:=Tryz.sizeOf114
    v51:=Tryz.zeroValue114 }
def GM (m:Int):Gl:=fun g=>if g=0 then some [.v (.string ⟨#[45]⟩),.v (.int .i64 0)] else none
theorem two_args {vs:Array Value} (h:vs.size=2):∃ u v,vs = #[u,v]:=by
 obtain ⟨l⟩:=vs
 match l,h with
 | [u,v],_=>exact ⟨u,v,rfl⟩
def parts (s sep:ByteArray):List ByteArray:=Lib.splitB sep 0 (Lib.countB s sep) s
theorem one_arg {vs:Array Value} (h:vs.size=1):∃ u,vs = #[u]:=by
 obtain ⟨l⟩:=vs
 match l,h with
 | [u],_=>exact ⟨u,rfl⟩
theorem trimRB_eq (l:List UInt8):Lib.trimRightB l 0=Nv.trimZ l:=by
 unfold Lib.trimRightB
 induction l with
 | nil=>rfl
 | cons b r ih =>
  rw [List.reverse_cons,List.dropWhile_append]
  unfold Nv.trimZ
  rw [← ih]
  by_cases h:(r.reverse.dropWhile (· == 0)).isEmpty
  ·rw [if_pos h]
   have h':r.reverse.dropWhile (· == 0)=[]:=List.isEmpty_iff.1 h
   rw [h']
   by_cases hb:b=0
   ·subst hb; simp
   ·simp [hb]
  ·rw [if_neg h]
   have h':r.reverse.dropWhile (· == 0)≠[]:=fun q=>h (List.isEmpty_iff.2 q)
   rw [if_neg (by rintro ⟨q,_⟩; exact h' (by simpa using q))]
   simp
theorem kTrimR (s:ByteArray) (hs:s.size<4611686018427387904) (H:List O) :
  ACalls prog G0 142 [Sx s,Sx ⟨#[0]⟩] H fun t H'=>t = .str (Nv.natB (Nv.natV s))∧H'=H:=by
 refine ⟨callable_of func142 (by kernel_rfl) (by decide +kernel),fun ρ w vs hH hG hv=>?_⟩
 obtain ⟨u,v,rfl⟩:∃ u v,vs = #[u,v]:=two_args hv.1
 have e1:u = .string s:=drel_v (hv.2 0 _ u rfl rfl)
 have e2:v = .string ⟨#[0]⟩:=drel_v (hv.2 1 _ v rfl rfl)
 subst e1; subst e2
 have h:=Any.strings_TrimRight_one (ρ:=renS) ly162 s 0 (by decide) w (by omega)
 refine Calls.mono h ?_
 rintro e1 w' ⟨rfl,rfl⟩
 refine ⟨_,_,ρ,H,rfl,⟨rfl,rfl⟩,hH,?_,K.le.refl _⟩
 have:(⟨(Lib.trimRightB s.data.toList 0).toArray⟩:ByteArray)=Nv.natB (Nv.natV s):=by
  rw [trimRB_eq,← Nv.digs_valB]; rfl
 rw [this]
 exact DRel.v _ rfl
theorem kLead (n:Int) (h0:0≤n) (h1:n≤4294967295) (H:List O) :
  ACalls prog G0 144 [.c (.d (.v (.int .u32 n)))] H fun t H'=>t = .int .i64 (32-Lib.bitLen n.toNat)∧H'=H:=by
 refine ⟨callable_of func144 (by kernel_rfl) (by decide +kernel),fun ρ w vs hH hG hv=>?_⟩
 obtain ⟨u,rfl⟩:∃ u,vs = #[u]:=one_arg hv.1
 have e1:u = .int .u32 n:=drel_v (hv.2 0 _ u rfl rfl)
 subst e1
 have h:=Any.bits_LeadingZeros32 (ρ:=renS) ly133 n w h0 h1
 refine Calls.mono h ?_
 rintro e1 w' ⟨rfl,rfl⟩
 exact ⟨_,_,ρ,H,rfl,⟨rfl,rfl⟩,hH,DRel.v _ rfl,K.le.refl _⟩
def insAt (l:List Id) (i:Nat) (x:Id):List Id:=l.take i ++ x :: l.drop i
theorem ids_inj {a b:List Id} (h:a.map Id.row=b.map Id.row):a=b:=map_inj (fun a b h=>by cases a; cases b; simp [Id.row] at h; simp [h]) h
def addI (v:List Id) (x:Id):List Id :=
 if lowB v x.a<v.length∧(nth v (lowB v x.a)).a=x.a then v.set (lowB v x.a) ⟨(nth v (lowB v x.a)).a,if (nth v (lowB v x.a)).n<x.n then x.n else (nth v (lowB v x.a)).n⟩ else insAt v (lowB v x.a) x
def PosI (v:List Id):Prop:=∀ x∈v,1≤x.n
def covB (v d:List Id):Bool:=d.all fun x=>conI v x
structure LogE where
 del:List Edit
 pen:List Edit
 seen:List Id
structure ValE (e:Edit):Prop where
 asc:AscI e.deps
 pos:PosI e.deps
 one:1≤e.id.n
 own:hasN e.deps e.id.a=e.id.n-1
def foldS (s:List Id) (l:List Edit):List Id:=l.foldl (fun s e=>addI s e.id) s
def ordF:List Id→List Edit→Prop
 | _,[]=>True
 | s,e :: r=>(covB s e.deps=true∧conI s e.id=false)∧ordF (addI s e.id) r
structure LInv (s0:List Id) (L:LogE):Prop where
 ord:ordF s0 L.del
 sn:L.seen=foldS s0 L.del
 asc:AscI L.seen
 pos:PosI L.seen
 pv:∀ p∈L.pen,ValE p
 pd:L.pen.Pairwise fun p q=>p.id≠q.id
 pn:∀ p∈L.pen,conI L.seen p.id=false
structure CInv (s0:List Id) (L:LogE):Prop where
 inv:LInv s0 L
 wait:∀ p∈L.pen,covB L.seen p.deps=false
def KnownI (L:LogE) (x:Id):Prop:=conI L.seen x=true∨∃ p∈L.pen,p.id=x
structure Sat (V:Edit→Prop) (s0:List Id) (L:LogE):Prop where
 c:CInv s0 L
 dv:∀ e∈L.del,ValE e∧V e
 pv:∀ p∈L.pen,V p
 all:∀ e,V e→KnownI L e.id
 so:L.pen.Pairwise fun p q=>cmpE p q<0
structure Rec (chk:Edit→Int) (s0:List Id) (l:List Edit) (L:LogE):Prop where
 c:CInv s0 L
 dv:∀ e∈L.del,chk e=0∧e∈l
 pv:∀ p∈L.pen,chk p=0∧p∈l
 so:L.pen.Pairwise fun p q=>cmpE p q<0
theorem Rec.mono {chk:Edit→Int} {s0:List Id} {l m:List Edit} {L:LogE} (h:Rec chk s0 l L) (hs:∀ e∈l,e∈m):Rec chk s0 m L :=
 ⟨h.c,fun e he=>⟨(h.dv e he).1,hs e (h.dv e he).2⟩,fun e he=>⟨(h.pv e he).1,hs e (h.pv e he).2⟩,h.so⟩
end Go.Aw.Try
