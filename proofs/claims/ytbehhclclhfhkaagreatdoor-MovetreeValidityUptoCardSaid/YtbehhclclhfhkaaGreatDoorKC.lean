/- An abstract machine over the model, and contracts of functions of this program on it (part 3): words and lemmas for the proof in the last text. -/
import Derived.Test.YtbehhclclhfhkaaGreatDoorProg
import Derived.Test.YtbehhclclhfhkaaGreatDoorChecked
import Derived.Lib.Bytealg
import Derived.Lib.Walk
import Derived.Lib.Strings
import Derived.Test.YtbehhclclhfhkaaGreatDoorKB
set_option linter.unusedVariables false
set_option linter.unusedSimpArgs false
set_option linter.unusedSectionVars false

namespace Go.Aw.Try
open Go Go.Proofs Go.Aw
set_option maxRecDepth 100000
set_option maxHeartbeats 4000000
def tt:TT:=[
 (1,⟨.func,1,8,[.nilFunc],false,false⟩),
 (2,⟨.int .i64,1,8,[.int .i64 0],false,false⟩),
 (3,⟨.int .i64,1,8,[.int .i64 0],false,false⟩),
 (4,⟨.bool,1,1,[.bool false],false,false⟩),
 (5,⟨.int .u8,1,1,[.int .u8 0],false,false⟩),
 (6,⟨.int .u8,1,1,[.int .u8 0],false,false⟩),
 (7,⟨.st [(0,2),(1,3),(2,4),(3,6)],4,24,[.int .i64 0,.int .i64 0,.bool false,.int .u8 0],true,true⟩),
 (8,⟨.st [(0,2),(1,3),(2,4),(3,6)],4,24,[.int .i64 0,.int .i64 0,.bool false,.int .u8 0],true,true⟩),
 (9,⟨.str,1,16,[.string ⟨#[]⟩],false,false⟩),
 (10,⟨.str,1,16,[.string ⟨#[]⟩],false,false⟩),
 (11,⟨.str,1,16,[.string ⟨#[]⟩],false,false⟩),
 (12,⟨.int .u64,1,8,[.int .u64 0],false,false⟩),
 (15,⟨.ptr,1,8,[.pointer none],false,false⟩),
 (16,⟨.ptr,1,8,[.pointer none],false,false⟩),
 (17,⟨.ptr,1,8,[.pointer none],false,false⟩),
 (18,⟨.st [(0,17)],1,8,[.pointer none],true,false⟩),
 (19,⟨.st [(0,17)],1,8,[.pointer none],true,false⟩),
 (20,⟨.iface,1,16,[.nilIface],false,false⟩),
 (21,⟨.int .i32,1,4,[.int .i32 0],false,false⟩),
 (22,⟨.sl 40,1,24,[.slice none 0 0],false,false⟩),
 (23,⟨.sl 42,1,24,[.slice none 0 0],false,false⟩),
 (24,⟨.st [(0,9),(1,3)],2,24,[.string ⟨#[]⟩,.int .i64 0],true,true⟩),
 (25,⟨.st [(0,9),(1,3)],2,24,[.string ⟨#[]⟩,.int .i64 0],true,true⟩),
 (26,⟨.func,1,8,[.nilFunc],false,false⟩),
 (27,⟨.func,1,8,[.nilFunc],false,false⟩),
 (28,⟨.func,1,8,[.nilFunc],false,false⟩),
 (29,⟨.func,1,8,[.nilFunc],false,false⟩),
 (30,⟨.func,1,8,[.nilFunc],false,false⟩),
 (31,⟨.sl 25,1,24,[.slice none 0 0],false,false⟩),
 (32,⟨.func,1,8,[.nilFunc],false,false⟩),
 (33,⟨.func,1,8,[.nilFunc],false,false⟩),
 (34,⟨.func,1,8,[.nilFunc],false,false⟩),
 (35,⟨.func,1,8,[.nilFunc],false,false⟩),
 (36,⟨.func,1,8,[.nilFunc],false,false⟩),
 (37,⟨.st [(0,4),(1,9),(2,9)],3,40,[.bool false,.string ⟨#[]⟩,.string ⟨#[]⟩],true,true⟩),
 (38,⟨.st [(0,4),(1,9),(2,9)],3,40,[.bool false,.string ⟨#[]⟩,.string ⟨#[]⟩],true,true⟩),
 (39,⟨.st [(0,25),(2,25),(4,38),(7,9)],8,104,[.string ⟨#[]⟩,.int .i64 0,.string ⟨#[]⟩,.int .i64 0,.bool false,.string ⟨#[]⟩,.string ⟨#[]⟩,.string ⟨#[]⟩],true,true⟩),
 (40,⟨.st [(0,25),(2,25),(4,38),(7,9)],8,104,[.string ⟨#[]⟩,.int .i64 0,.string ⟨#[]⟩,.int .i64 0,.bool false,.string ⟨#[]⟩,.string ⟨#[]⟩,.string ⟨#[]⟩],true,true⟩),
 (41,⟨.st [(0,25),(2,3),(3,3),(4,31),(5,3),(6,25),(8,25),(10,38),(13,9),(14,9),(15,25),(17,9)],18,232,[.string ⟨#[]⟩,.int .i64 0,.int .i64 0,.int .i64 0,.slice none 0 0,.int .i64 0,.string ⟨#[]⟩,.int .i64 0,.string ⟨#[]⟩,.int .i64 0,.bool false,.string ⟨#[]⟩,.string ⟨#[]⟩,.string ⟨#[]⟩,.string ⟨#[]⟩,.string ⟨#[]⟩,.int .i64 0,.string ⟨#[]⟩],true,false⟩),
 (42,⟨.st [(0,25),(2,3),(3,3),(4,31),(5,3),(6,25),(8,25),(10,38),(13,9),(14,9),(15,25),(17,9)],18,232,[.string ⟨#[]⟩,.int .i64 0,.int .i64 0,.int .i64 0,.slice none 0 0,.int .i64 0,.string ⟨#[]⟩,.int .i64 0,.string ⟨#[]⟩,.int .i64 0,.bool false,.string ⟨#[]⟩,.string ⟨#[]⟩,.string ⟨#[]⟩,.string ⟨#[]⟩,.string ⟨#[]⟩,.int .i64 0,.string ⟨#[]⟩],true,false⟩),
 (43,⟨.func,1,8,[.nilFunc],false,false⟩),
 (44,⟨.func,1,8,[.nilFunc],false,false⟩),
 (45,⟨.func,1,8,[.nilFunc],false,false⟩),
 (46,⟨.func,1,8,[.nilFunc],false,false⟩),
 (47,⟨.func,1,8,[.nilFunc],false,false⟩),
 (48,⟨.func,1,8,[.nilFunc],false,false⟩),
 (49,⟨.func,1,8,[.nilFunc],false,false⟩),
 (50,⟨.int .i8,1,1,[.int .i8 0],false,false⟩),
 (52,⟨.func,1,8,[.nilFunc],false,false⟩),
 (53,⟨.func,1,8,[.nilFunc],false,false⟩),
 (54,⟨.func,1,8,[.nilFunc],false,false⟩),
 (55,⟨.func,1,8,[.nilFunc],false,false⟩),
 (56,⟨.st [(0,4),(1,9)],2,24,[.bool false,.string ⟨#[]⟩],true,true⟩),
 (57,⟨.st [(0,4),(1,9)],2,24,[.bool false,.string ⟨#[]⟩],true,true⟩),
 (58,⟨.func,1,8,[.nilFunc],false,false⟩),
 (59,⟨.func,1,8,[.nilFunc],false,false⟩),
 (60,⟨.func,1,8,[.nilFunc],false,false⟩),
 (61,⟨.func,1,8,[.nilFunc],false,false⟩),
 (62,⟨.func,1,8,[.nilFunc],false,false⟩),
 (63,⟨.func,1,8,[.nilFunc],false,false⟩),
 (64,⟨.func,1,8,[.nilFunc],false,false⟩),
 (65,⟨.int .i64,1,8,[.int .i64 0],false,false⟩),
 (66,⟨.func,1,8,[.nilFunc],false,false⟩),
 (67,⟨.map 25 40,1,8,[.map none],false,false⟩),
 (69,⟨.func,1,8,[.nilFunc],false,false⟩),
 (70,⟨.func,1,8,[.nilFunc],false,false⟩),
 (71,⟨.func,1,8,[.nilFunc],false,false⟩),
 (72,⟨.func,1,8,[.nilFunc],false,false⟩),
 (73,⟨.func,1,8,[.nilFunc],false,false⟩),
 (74,⟨.map 25 4,1,8,[.map none],false,false⟩),
 (75,⟨.func,1,8,[.nilFunc],false,false⟩),
 (76,⟨.func,1,8,[.nilFunc],false,false⟩),
 (77,⟨.func,1,8,[.nilFunc],false,false⟩),
 (78,⟨.func,1,8,[.nilFunc],false,false⟩),
 (79,⟨.func,1,8,[.nilFunc],false,false⟩),
 (80,⟨.func,1,8,[.nilFunc],false,false⟩),
 (81,⟨.func,1,8,[.nilFunc],false,false⟩),
 (83,⟨.func,1,8,[.nilFunc],false,false⟩),
 (84,⟨.func,1,8,[.nilFunc],false,false⟩),
 (85,⟨.func,1,8,[.nilFunc],false,false⟩),
 (86,⟨.func,1,8,[.nilFunc],false,false⟩),
 (87,⟨.func,1,8,[.nilFunc],false,false⟩),
 (88,⟨.func,1,8,[.nilFunc],false,false⟩),
 (89,⟨.func,1,8,[.nilFunc],false,false⟩),
 (91,⟨.func,1,8,[.nilFunc],false,false⟩),
 (93,⟨.func,1,8,[.nilFunc],false,false⟩),
 (94,⟨.func,1,8,[.nilFunc],false,false⟩),
 (95,⟨.int .u64,1,8,[.int .u64 0],false,false⟩),
 (97,⟨.func,1,8,[.nilFunc],false,false⟩),
 (98,⟨.func,1,8,[.nilFunc],false,false⟩),
 (99,⟨.func,1,8,[.nilFunc],false,false⟩),
 (100,⟨.func,1,8,[.nilFunc],false,false⟩),
 (101,⟨.func,1,8,[.nilFunc],false,false⟩),
 (102,⟨.func,1,8,[.nilFunc],false,false⟩),
 (103,⟨.func,1,8,[.nilFunc],false,false⟩),
 (104,⟨.func,1,8,[.nilFunc],false,false⟩),
 (105,⟨.int .u64,1,8,[.int .u64 0],false,false⟩),
 (106,⟨.func,1,8,[.nilFunc],false,false⟩),
 (107,⟨.func,1,8,[.nilFunc],false,false⟩),
 (108,⟨.func,1,8,[.nilFunc],false,false⟩),
 (109,⟨.func,1,8,[.nilFunc],false,false⟩),
 (110,⟨.func,1,8,[.nilFunc],false,false⟩),
 (111,⟨.func,1,8,[.nilFunc],false,false⟩),
 (112,⟨.sl 114,1,24,[.slice none 0 0],false,false⟩),
 (113,⟨.func,1,8,[.nilFunc],false,false⟩),
 (114,⟨.int .u32,1,4,[.int .u32 0],false,false⟩),
 (116,⟨.func,1,8,[.nilFunc],false,false⟩),
 (117,⟨.func,1,8,[.nilFunc],false,false⟩),
 (119,⟨.func,1,8,[.nilFunc],false,false⟩),
 (121,⟨.func,1,8,[.nilFunc],false,false⟩),
 (123,⟨.func,1,8,[.nilFunc],false,false⟩),
 (124,⟨.func,1,8,[.nilFunc],false,false⟩),
 (125,⟨.func,1,8,[.nilFunc],false,false⟩),
 (126,⟨.func,1,8,[.nilFunc],false,false⟩),
 (127,⟨.int .i64,1,8,[.int .i64 0],false,false⟩),
 (129,⟨.func,1,8,[.nilFunc],false,false⟩),
 (130,⟨.func,1,8,[.nilFunc],false,false⟩),
 (131,⟨.func,1,8,[.nilFunc],false,false⟩),
 (133,⟨.func,1,8,[.nilFunc],false,false⟩),
 (134,⟨.func,1,8,[.nilFunc],false,false⟩),
 (135,⟨.func,1,8,[.nilFunc],false,false⟩),
 (136,⟨.sl 3,1,24,[.slice none 0 0],false,false⟩),
 (137,⟨.func,1,8,[.nilFunc],false,false⟩),
 (138,⟨.func,1,8,[.nilFunc],false,false⟩),
 (139,⟨.func,1,8,[.nilFunc],false,false⟩),
 (140,⟨.sl 57,1,24,[.slice none 0 0],false,false⟩),
 (141,⟨.sl 5,1,24,[.slice none 0 0],false,false⟩),
 (142,⟨.func,1,8,[.nilFunc],false,false⟩),
 (143,⟨.func,1,8,[.nilFunc],false,false⟩),
 (144,⟨.sl 9,1,24,[.slice none 0 0],false,false⟩),
 (146,⟨.func,1,8,[.nilFunc],false,false⟩),
 (147,⟨.int .u64,1,8,[.int .u64 0],false,false⟩),
 (148,⟨.func,1,8,[.nilFunc],false,false⟩),
 (149,⟨.func,1,8,[.nilFunc],false,false⟩),
 (150,⟨.func,1,8,[.nilFunc],false,false⟩),
 (151,⟨.ptr,1,8,[.pointer none],false,false⟩),
 (152,⟨.func,1,8,[.nilFunc],false,false⟩),
 (153,⟨.func,1,8,[.nilFunc],false,false⟩),
 (154,⟨.func,1,8,[.nilFunc],false,false⟩),
 (158,⟨.func,1,8,[.nilFunc],false,false⟩),
 (159,⟨.func,1,8,[.nilFunc],false,false⟩),
 (160,⟨.ptr,1,8,[.pointer none],false,false⟩),
 (161,⟨.iface,1,16,[.nilIface],false,false⟩),
 (162,⟨.iface,1,16,[.nilIface],false,false⟩),
 (163,⟨.ptr,1,8,[.pointer none],false,false⟩),
 (165,⟨.func,1,8,[.nilFunc],false,false⟩),
 (166,⟨.func,1,8,[.nilFunc],false,false⟩),
 (167,⟨.func,1,8,[.nilFunc],false,false⟩),
 (169,⟨.func,1,8,[.nilFunc],false,false⟩),
 (170,⟨.func,1,8,[.nilFunc],false,false⟩),
 (171,⟨.func,1,8,[.nilFunc],false,false⟩),
 (172,⟨.func,1,8,[.nilFunc],false,false⟩),
 (173,⟨.func,1,8,[.nilFunc],false,false⟩),
 (174,⟨.func,1,8,[.nilFunc],false,false⟩),
 (176,⟨.st [(0,5),(1,5)],2,2,[.int .u8 0,.int .u8 0],true,true⟩),
 (177,⟨.st [(0,5),(1,5)],2,2,[.int .u8 0,.int .u8 0],true,true⟩),
 (179,⟨.ptr,1,8,[.pointer none],false,false⟩),
 (180,⟨.func,1,8,[.nilFunc],false,false⟩),
 (183,⟨.arr 0 16,0,0,[],true,false⟩),
 (186,⟨.func,1,8,[.nilFunc],false,false⟩),
 (187,⟨.int .u8,1,1,[.int .u8 0],false,false⟩),
 (188,⟨.int .u8,1,1,[.int .u8 0],false,false⟩),
 (189,⟨.func,1,8,[.nilFunc],false,false⟩),
 (190,⟨.ptr,1,8,[.pointer none],false,false⟩),
 (191,⟨.int .i32,1,4,[.int .i32 0],false,false⟩),
 (192,⟨.int .i32,1,4,[.int .i32 0],false,false⟩),
 (195,⟨.st [(0,9)],1,16,[.string ⟨#[]⟩],true,true⟩),
 (196,⟨.st [(0,9)],1,16,[.string ⟨#[]⟩],true,true⟩)]
theorem tab:tabB Tryz.prog tt=true:=by kernel_rfl
@[reducible] def m_ (d s:Nat):AOper:=⟨some d,.mov (.tmp s),none⟩
@[reducible] def o_ (d:Nat) (a:A):AOper:=⟨some d,a,none⟩
@[reducible] def g_ (d:Nat) (a:A) (k:Nat) (b:Bool):AOper:=⟨some d,a,some (k,b)⟩
@[reducible] def s_ (a:A):AOper:=⟨none,a,none⟩
@[reducible] def t_ (n:Nat):Operand:=.tmp n
def b2004_0:AC:=(.region 0 [
 o_ 4 (.mov (.const (.bool false)))])
def b2004_1:AC:=(.seq (.region 0 [
 m_ 13 0,
 m_ 14 1,
 o_ 15 (.call 9 [(t_ 13),(t_ 14)]),
 o_ 16 (.not (t_ 15))])
 (.cond (t_ 16) (.seq (.region 0 [
 o_ 17 (.call 10 []),
 m_ 4 17])
 .ret) .skip))
def b2004_2:AC:=(.region 0 [
 m_ 18 0,
 m_ 19 1,
 o_ 20 (.call 11 [(t_ 18),(t_ 19)]),
 m_ 5 20])
def b2004_3:AC:=(.seq (.region 0 [
 m_ 21 5,
 o_ 22 (.call 19 [(t_ 21)]),
 o_ 23 (.not (t_ 22))])
 (.cond (t_ 23) (.seq (.region 0 [
 o_ 4 (.mov (.const (.bool false)))])
 .ret) .skip))
def b2004_4:AC:=(.seq (.region 0 [
 m_ 24 0,
 o_ 25 (.lenL (t_ 24)),
 o_ 26 (.mov (.const (.int .i64 0)))])
 (.block 0 (.loop (.seq (.region 0 [
 o_ 27 (.binI .lss .i64 (t_ 26) (t_ 25))])
 (.seq (.cond (t_ 27) .skip (.exit 0))
 (.seq (.block 1 (.seq (.region 0 [
 m_ 28 26,
 m_ 6 28])
 (.seq (.region 0 [
 m_ 29 5,
 m_ 30 0,
 m_ 31 6,
 o_ 32 (.iaddr 8 (t_ 30) (t_ 31)),
 o_ 33 (.faddr 0 (t_ 32)),
 o_ 34 (.load true 2 (t_ 33)),
 o_ 35 (.call 20 [(t_ 29),(t_ 34)]),
 m_ 7 35])
 (.seq (.dregion 0 [
 m_ 36 7,
 o_ 37 (.binI .lss .i64 (t_ 36) (.const (.int .i64 0))),
 m_ 38 37,
 g_ 39 (.mov (t_ 5)) 38 false,
 g_ 40 (.mov (t_ 7)) 38 false,
 g_ 41 (.iaddr 8 (t_ 39) (t_ 40)) 38 false,
 g_ 42 (.faddr 7 (t_ 41)) 38 false,
 g_ 43 (.load false 1 (t_ 42)) 38 false,
 g_ 44 (.mov (t_ 0)) 38 false,
 g_ 45 (.mov (t_ 6)) 38 false,
 g_ 46 (.iaddr 8 (t_ 44) (t_ 45)) 38 false,
 g_ 47 (.faddr 7 (t_ 46)) 38 false,
 g_ 48 (.load false 1 (t_ 47)) 38 false,
 g_ 49 (.binS .neq (t_ 43) (t_ 48)) 38 false,
 o_ 50 (.pick (t_ 38) (.const (.bool true)) (t_ 49))] [[],[0],[1],[2],[2],[3,4,2],[5,2],[6,2],[2],[2],[8,9,2],[10,2],[11,2],[7,12,2],[2,13]])
 (.cond (t_ 50) (.seq (.region 0 [
 o_ 4 (.mov (.const (.bool false)))])
 .ret) .skip)))))
 (.region 0 [
 o_ 51 (.binI .add .i64 (t_ 26) (.const (.int .i64 1))),
 m_ 26 51])))))))
def b2004_5:AC:=(.region 0 [
 m_ 52 5,
 o_ 53 (.call 15 [(t_ 52)]),
 m_ 8 53])
def b2004_6:AC:=(.seq (.region 0 [
 m_ 54 8,
 o_ 55 (.lenL (t_ 54)),
 o_ 56 (.mov (.const (.int .i64 0)))])
 (.block 2 (.loop (.seq (.region 0 [
 o_ 57 (.binI .lss .i64 (t_ 56) (t_ 55))])
 (.seq (.cond (t_ 57) .skip (.exit 2))
 (.seq (.block 3 (.seq (.region 0 [
 m_ 58 56,
 m_ 9 58])
 (.seq (.region 0 [
 m_ 59 5,
 m_ 60 8,
 m_ 61 9,
 o_ 62 (.iaddr 2 (t_ 60) (t_ 61)),
 o_ 63 (.load true 2 (t_ 62)),
 o_ 64 (.call 20 [(t_ 59),(t_ 63)]),
 m_ 10 64])
 (.seq (.seq (.region 0 [
 m_ 65 10,
 o_ 66 (.binI .lss .i64 (t_ 65) (.const (.int .i64 0)))])
 (.cond (t_ 66) (.seq (.region 0 [
 o_ 4 (.mov (.const (.bool false)))])
 .ret) .skip))
 (.seq (.region 0 [
 m_ 67 5,
 m_ 68 10,
 o_ 69 (.iaddr 8 (t_ 67) (t_ 68)),
 o_ 70 (.faddr 2 (t_ 69)),
 o_ 71 (.load true 2 (t_ 70)),
 o_ 72 (.build [(.v (.string ⟨#[]⟩)),(.v (.int .i64 0))] []),
 o_ 73 (.eqA false [.s,(.i .i64)] (t_ 71) (t_ 72)),
 m_ 11 73])
 (.seq (.seq (.region 0 [
 o_ 12 (.mov (.const (.int .i64 0)))])
 (.block 4 (.loop (.seq (.seq (.region 0 [
 m_ 74 12,
 m_ 75 9,
 o_ 76 (.binI .lss .i64 (t_ 74) (t_ 75))])
 (.cond (t_ 76) .skip (.exit 4)))
 (.seq (.block 5 (.seq (.seq (.dregion 0 [
 m_ 79 8,
 m_ 80 12,
 o_ 81 (.iaddr 2 (t_ 79) (t_ 80)),
 o_ 82 (.load true 2 (t_ 81)),
 m_ 83 8,
 m_ 84 9,
 o_ 85 (.iaddr 2 (t_ 83) (t_ 84)),
 o_ 86 (.load true 2 (t_ 85)),
 o_ 87 (.eqA false [.s,(.i .i64)] (t_ 82) (t_ 86))] [[],[],[0,1],[2],[],[],[4,5],[6],[3,7]])
 (.cond (t_ 87) (.seq (.region 0 [
 o_ 4 (.mov (.const (.bool false)))])
 .ret) .skip))
 (.dregion 0 [
 m_ 88 11,
 m_ 89 88,
 g_ 90 (.mov (t_ 8)) 89 false,
 g_ 91 (.mov (t_ 12)) 89 false,
 g_ 92 (.iaddr 2 (t_ 90) (t_ 91)) 89 false,
 g_ 93 (.load true 2 (t_ 92)) 89 false,
 g_ 94 (.mov (t_ 5)) 89 false,
 g_ 95 (.mov (t_ 10)) 89 false,
 g_ 96 (.iaddr 8 (t_ 94) (t_ 95)) 89 false,
 g_ 97 (.faddr 2 (t_ 96)) 89 false,
 g_ 98 (.load true 2 (t_ 97)) 89 false,
 g_ 99 (.eqA false [.s,(.i .i64)] (t_ 93) (t_ 98)) 89 false,
 o_ 100 (.pick (t_ 89) (.const (.bool true)) (t_ 99)),
 m_ 11 100] [[],[0],[1],[1],[2,3,1],[4,1],[1],[1],[6,7,1],[8,1],[9,1],[5,10,1],[1,11],[12,1,0,1,2,3,4,5,6,7,8,9,10,11,12]])))
 (.region 0 [
 m_ 77 12,
 o_ 78 (.binI .add .i64 (t_ 77) (.const (.int .i64 1))),
 m_ 12 78]))))))
 (.seq (.region 0 [
 m_ 101 11,
 o_ 102 (.not (t_ 101))])
 (.cond (t_ 102) (.seq (.region 0 [
 o_ 4 (.mov (.const (.bool false)))])
 .ret) .skip))))))))
 (.region 0 [
 o_ 103 (.binI .add .i64 (t_ 56) (.const (.int .i64 1))),
 m_ 56 103])))))))
def b2004_7:AC:=(.region 0 [
 o_ 104 (.call 10 []),
 m_ 4 104])
def b2004_8:AC:=.ret
def b2004:AC:=(.seq b2004_0 (.seq b2004_1 (.seq b2004_2 (.seq b2004_3 (.seq b2004_4 (.seq b2004_5 (.seq b2004_6 (.seq b2004_7 b2004_8))))))))
def ir2004:AF:=⟨105,[(.tmp 4)],b2004⟩
theorem c2004:compF tt Tryz.f4=some ir2004:=by kernel_rfl
def b2009:AC:=(.seq (.region 0 [
 o_ 4 (.mov (.const (.bool false)))])
 (.seq (.seq (.region 0 [
 m_ 6 0,
 o_ 7 (.lenL (t_ 6)),
 o_ 8 (.binI .gtr .i64 (t_ 7) (.const (.int .i64 12))),
 m_ 9 8,
 g_ 10 (.mov (t_ 1)) 9 false,
 g_ 11 (.lenL (t_ 10)) 9 false,
 g_ 12 (.binI .gtr .i64 (t_ 11) (.const (.int .i64 20))) 9 false,
 o_ 13 (.pick (t_ 9) (.const (.bool true)) (t_ 12)),
 m_ 14 13,
 g_ 15 (.mov (t_ 0)) 14 false,
 g_ 16 (.call 21 [(t_ 15)]) 14 false,
 g_ 17 (.not (t_ 16)) 14 false,
 o_ 18 (.pick (t_ 14) (.const (.bool true)) (t_ 17))])
 (.cond (t_ 18) (.seq (.region 0 [
 o_ 4 (.mov (.const (.bool false)))])
 .ret) .skip))
 (.seq (.seq (.region 0 [
 m_ 19 1,
 o_ 20 (.lenL (t_ 19)),
 o_ 21 (.mov (.const (.int .i64 0)))])
 (.block 0 (.loop (.seq (.region 0 [
 o_ 22 (.binI .lss .i64 (t_ 21) (t_ 20))])
 (.seq (.cond (t_ 22) .skip (.exit 0))
 (.seq (.block 1 (.seq (.region 0 [
 m_ 23 21,
 m_ 5 23])
 (.seq (.region 0 [
 m_ 24 1,
 m_ 25 5,
 o_ 26 (.iaddr 18 (t_ 24) (t_ 25)),
 o_ 27 (.load true 18 (t_ 26)),
 o_ 28 (.call 36 [(t_ 27)]),
 o_ 29 (.binI .gtr .i64 (t_ 28) (.const (.int .i64 0))),
 m_ 30 29,
 g_ 31 (.mov (t_ 1)) 30 false,
 g_ 32 (.mov (t_ 5)) 30 false,
 g_ 33 (.iaddr 18 (t_ 31) (t_ 32)) 30 false,
 g_ 34 (.load true 18 (t_ 33)) 30 false,
 g_ 35 (.call 37 [(t_ 34)]) 30 false,
 g_ 36 (.binI .neq .i64 (t_ 35) (.const (.int .i64 0))) 30 false,
 o_ 37 (.pick (t_ 30) (.const (.bool true)) (t_ 36))])
 (.cond (t_ 37) (.seq (.region 0 [
 o_ 4 (.mov (.const (.bool false)))])
 .ret) .skip))))
 (.region 0 [
 o_ 38 (.binI .add .i64 (t_ 21) (.const (.int .i64 1))),
 m_ 21 38])))))))
 (.seq (.region 0 [
 o_ 4 (.mov (.const (.bool true)))])
 .ret))))
def ir2009:AF:=⟨39,[(.tmp 4)],b2009⟩
theorem c2009:compF tt Tryz.f9=some ir2009:=by kernel_rfl
def b2010_0:AC:=(.region 0 [
 o_ 0 (.mov (.const (.bool false)))])
def b2010_1:AC:=(.region 4 [
 o_ 5 (.call 26 [(.const (.int .i64 1))]),
 o_ 6 (.build [(.v (.string ⟨#[]⟩)),(.v (.int .i64 0)),(.v (.int .i64 0)),(.v (.int .i64 0)),(.v (.slice none 0 0)),(.v (.int .i64 0)),(.v (.string ⟨#[]⟩)),(.v (.int .i64 0)),(.v (.string ⟨#[]⟩)),(.v (.int .i64 0)),(.v (.bool false)),(.v (.string ⟨#[]⟩)),(.v (.string ⟨#[]⟩)),(.v (.string ⟨#[]⟩)),(.v (.string ⟨#[]⟩)),(.v (.string ⟨#[]⟩)),(.v (.int .i64 0)),(.v (.string ⟨#[]⟩))] [(0,(2,(t_ 5))),(2,(1,(.const (.int .i64 1)))),(5,(1,(.const (.int .i64 1)))),(14,(1,(.const (.string ⟨#[103,114,111,117,112]⟩))))]),
 o_ 7 (.call 26 [(.const (.int .i64 2))]),
 o_ 8 (.call 26 [(.const (.int .i64 1))]),
 o_ 9 (.bsl 0 2 [(.v (.string ⟨#[]⟩)),(.v (.int .i64 0))] 1 [(0,(t_ 8))]),
 o_ 10 (.call 26 [(.const (.int .i64 1))]),
 o_ 11 (.call 28 [(.const (.int .i64 1))]),
 o_ 12 (.build [(.v (.string ⟨#[]⟩)),(.v (.int .i64 0)),(.v (.int .i64 0)),(.v (.int .i64 0)),(.v (.slice none 0 0)),(.v (.int .i64 0)),(.v (.string ⟨#[]⟩)),(.v (.int .i64 0)),(.v (.string ⟨#[]⟩)),(.v (.int .i64 0)),(.v (.bool false)),(.v (.string ⟨#[]⟩)),(.v (.string ⟨#[]⟩)),(.v (.string ⟨#[]⟩)),(.v (.string ⟨#[]⟩)),(.v (.string ⟨#[]⟩)),(.v (.int .i64 0)),(.v (.string ⟨#[]⟩))] [(0,(2,(t_ 7))),(2,(1,(.const (.int .i64 2)))),(4,(1,(t_ 9))),(5,(1,(.const (.int .i64 1)))),(8,(2,(t_ 10))),(10,(3,(t_ 11))),(14,(1,(.const (.string ⟨#[112,97,114,97,109]⟩))))]),
 o_ 13 (.call 26 [(.const (.int .i64 3))]),
 o_ 14 (.call 26 [(.const (.int .i64 2))]),
 o_ 15 (.bsl 1 2 [(.v (.string ⟨#[]⟩)),(.v (.int .i64 0))] 1 [(0,(t_ 14))]),
 o_ 16 (.call 26 [(.const (.int .i64 1))]),
 o_ 17 (.call 26 [(.const (.int .i64 2))]),
 o_ 18 (.build [(.v (.string ⟨#[]⟩)),(.v (.int .i64 0)),(.v (.int .i64 0)),(.v (.int .i64 0)),(.v (.slice none 0 0)),(.v (.int .i64 0)),(.v (.string ⟨#[]⟩)),(.v (.int .i64 0)),(.v (.string ⟨#[]⟩)),(.v (.int .i64 0)),(.v (.bool false)),(.v (.string ⟨#[]⟩)),(.v (.string ⟨#[]⟩)),(.v (.string ⟨#[]⟩)),(.v (.string ⟨#[]⟩)),(.v (.string ⟨#[]⟩)),(.v (.int .i64 0)),(.v (.string ⟨#[]⟩))] [(0,(2,(t_ 13))),(2,(1,(.const (.int .i64 3)))),(4,(1,(t_ 15))),(5,(1,(.const (.int .i64 2)))),(6,(2,(t_ 16))),(8,(2,(t_ 17)))]),
 o_ 19 (.call 26 [(.const (.int .i64 4))]),
 o_ 20 (.call 26 [(.const (.int .i64 3))]),
 o_ 21 (.bsl 2 2 [(.v (.string ⟨#[]⟩)),(.v (.int .i64 0))] 1 [(0,(t_ 20))]),
 o_ 22 (.call 26 [(.const (.int .i64 1))]),
 o_ 23 (.build [(.v (.string ⟨#[]⟩)),(.v (.int .i64 0)),(.v (.int .i64 0)),(.v (.int .i64 0)),(.v (.slice none 0 0)),(.v (.int .i64 0)),(.v (.string ⟨#[]⟩)),(.v (.int .i64 0)),(.v (.string ⟨#[]⟩)),(.v (.int .i64 0)),(.v (.bool false)),(.v (.string ⟨#[]⟩)),(.v (.string ⟨#[]⟩)),(.v (.string ⟨#[]⟩)),(.v (.string ⟨#[]⟩)),(.v (.string ⟨#[]⟩)),(.v (.int .i64 0)),(.v (.string ⟨#[]⟩))] [(0,(2,(t_ 19))),(2,(1,(.const (.int .i64 4)))),(4,(1,(t_ 21))),(5,(1,(.const (.int .i64 1)))),(8,(2,(t_ 22))),(14,(1,(.const (.string ⟨#[112,97,114,97,109]⟩))))]),
 o_ 24 (.bsl 3 18 [(.v (.string ⟨#[]⟩)),(.v (.int .i64 0)),(.v (.int .i64 0)),(.v (.int .i64 0)),(.v (.slice none 0 0)),(.v (.int .i64 0)),(.v (.string ⟨#[]⟩)),(.v (.int .i64 0)),(.v (.string ⟨#[]⟩)),(.v (.int .i64 0)),(.v (.bool false)),(.v (.string ⟨#[]⟩)),(.v (.string ⟨#[]⟩)),(.v (.string ⟨#[]⟩)),(.v (.string ⟨#[]⟩)),(.v (.string ⟨#[]⟩)),(.v (.int .i64 0)),(.v (.string ⟨#[]⟩))] 4 [(0,(t_ 6)),(1,(t_ 12)),(2,(t_ 18)),(3,(t_ 23))]),
 o_ 25 (.call 11 [(.const (.slice none 0 0)),(t_ 24)]),
 m_ 1 25])
def b2010_2:AC:=(.region 0 [
 m_ 26 1,
 o_ 27 (.call 15 [(t_ 26)]),
 m_ 2 27])
def b2010_3:AC:=(.region 1 [
 o_ 29 (.call 28 [(.const (.int .i64 1))]),
 o_ 30 (.call 28 [(.const (.int .i64 2))]),
 o_ 31 (.call 27 [(t_ 29),(t_ 30)]),
 m_ 28 31,
 o_ 32 (.ext (t_ 28) 0),
 o_ 33 (.ext (t_ 28) 1),
 o_ 3 (.zero 0 [(.v (.bool false)),(.v (.string ⟨#[]⟩)),(.v (.string ⟨#[]⟩))]),
 s_ (.store 3 (t_ 3) (t_ 32)),
 m_ 4 33])
def b2010_4:AC:=(.dregion 1 [
 m_ 34 1,
 o_ 35 (.lenL (t_ 34)),
 o_ 36 (.binI .eql .i64 (t_ 35) (.const (.int .i64 3))),
 m_ 37 36,
 g_ 38 (.mov (t_ 2)) 37 true,
 g_ 39 (.call 26 [(.const (.int .i64 1))]) 37 true,
 g_ 40 (.call 26 [(.const (.int .i64 4))]) 37 true,
 g_ 41 (.call 26 [(.const (.int .i64 2))]) 37 true,
 g_ 42 (.bsl 0 2 [(.v (.string ⟨#[]⟩)),(.v (.int .i64 0))] 3 [(0,(t_ 39)),(1,(t_ 40)),(2,(t_ 41))]) 37 true,
 g_ 43 (.call 14 [(t_ 38),(t_ 42)]) 37 true,
 o_ 44 (.pick (t_ 37) (t_ 43) (.const (.bool false))),
 m_ 45 44,
 g_ 46 (.mov (t_ 1)) 45 true,
 g_ 47 (.call 26 [(.const (.int .i64 1))]) 45 true,
 g_ 48 (.call 22 [(t_ 46),(t_ 47),(.const (.int .i64 1))]) 45 true,
 g_ 49 (.load true 3 (t_ 3)) 45 true,
 g_ 50 (.eqA false [.b,.s,.s] (t_ 48) (t_ 49)) 45 true,
 o_ 51 (.pick (t_ 45) (t_ 50) (.const (.bool false))),
 m_ 0 51] [[],[0],[1],[2],[3],[3,3],[5,3],[6,3],[5,6,7,3],[4,8,7,3],[3,9],[10,9],[11],[11,11],[12,13,13,11],[11],[14,15,11],[11,16],[17,14,0,1,2,3,4,5,6,7,8,9,10,11,12,13,14,15,16,17]])
def b2010_5:AC:=.ret
def b2010:AC:=(.seq b2010_0 (.seq b2010_1 (.seq b2010_2 (.seq b2010_3 (.seq b2010_4 b2010_5)))))
def ir2010:AF:=⟨52,[(.tmp 0)],b2010⟩
theorem c2010:compF tt Tryz.f10=some ir2010:=by kernel_rfl
def b2011_0:AC:=(.region 0 [
 o_ 4 (.mov (.const (.slice none 0 0)))])
def b2011_1:AC:=(.region 1 [
 o_ 19 (.mkmap 0 ⟨true,[.s,(.i .i64)]⟩),
 m_ 5 19])
def b2011_2:AC:=(.seq (.region 0 [
 m_ 20 0,
 o_ 21 (.lenL (t_ 20)),
 o_ 22 (.mov (.const (.int .i64 0)))])
 (.block 0 (.loop (.seq (.region 0 [
 o_ 23 (.binI .lss .i64 (t_ 22) (t_ 21))])
 (.seq (.cond (t_ 23) .skip (.exit 0))
 (.seq (.block 1 (.seq (.region 1 [
 o_ 24 (.iaddr 8 (t_ 20) (t_ 22)),
 o_ 25 (.load true 8 (t_ 24)),
 o_ 7 (.zero 0 [(.v (.string ⟨#[]⟩)),(.v (.int .i64 0)),(.v (.string ⟨#[]⟩)),(.v (.int .i64 0)),(.v (.bool false)),(.v (.string ⟨#[]⟩)),(.v (.string ⟨#[]⟩)),(.v (.string ⟨#[]⟩))]),
 s_ (.store 8 (t_ 7) (t_ 25))])
 (.region 0 [
 m_ 26 5,
 o_ 27 (.faddr 0 (t_ 7)),
 o_ 28 (.load true 2 (t_ 27)),
 o_ 29 (.load true 8 (t_ 7)),
 s_ (.mapup ⟨true,[.s,(.i .i64)]⟩ (t_ 26) (t_ 28) (t_ 29))])))
 (.region 0 [
 o_ 30 (.binI .add .i64 (t_ 22) (.const (.int .i64 1))),
 m_ 22 30])))))))
def b2011_3:AC:=(.seq (.region 0 [
 m_ 31 1,
 o_ 32 (.lenL (t_ 31)),
 o_ 33 (.mov (.const (.int .i64 0)))])
 (.block 2 (.loop (.seq (.region 0 [
 o_ 34 (.binI .lss .i64 (t_ 33) (t_ 32))])
 (.seq (.cond (t_ 34) .skip (.exit 2))
 (.seq (.block 3 (.seq (.region 1 [
 o_ 35 (.iaddr 18 (t_ 31) (t_ 33)),
 o_ 36 (.load true 18 (t_ 35)),
 o_ 9 (.zero 0 [(.v (.string ⟨#[]⟩)),(.v (.int .i64 0)),(.v (.int .i64 0)),(.v (.int .i64 0)),(.v (.slice none 0 0)),(.v (.int .i64 0)),(.v (.string ⟨#[]⟩)),(.v (.int .i64 0)),(.v (.string ⟨#[]⟩)),(.v (.int .i64 0)),(.v (.bool false)),(.v (.string ⟨#[]⟩)),(.v (.string ⟨#[]⟩)),(.v (.string ⟨#[]⟩)),(.v (.string ⟨#[]⟩)),(.v (.string ⟨#[]⟩)),(.v (.int .i64 0)),(.v (.string ⟨#[]⟩))]),
 s_ (.store 18 (t_ 9) (t_ 36))])
 (.seq (.region 1 [
 m_ 38 5,
 o_ 39 (.faddr 8 (t_ 9)),
 o_ 40 (.load true 2 (t_ 39)),
 o_ 41 (.look ⟨true,[.s,(.i .i64)]⟩ (.agg [(.v (.string ⟨#[]⟩)),(.v (.int .i64 0)),(.v (.string ⟨#[]⟩)),(.v (.int .i64 0)),(.v (.bool false)),(.v (.string ⟨#[]⟩)),(.v (.string ⟨#[]⟩)),(.v (.string ⟨#[]⟩))]) (t_ 38) (t_ 40) true),
 m_ 37 41,
 o_ 42 (.ext (t_ 37) 0),
 o_ 43 (.ext (t_ 37) 1),
 o_ 10 (.zero 0 [(.v (.string ⟨#[]⟩)),(.v (.int .i64 0)),(.v (.string ⟨#[]⟩)),(.v (.int .i64 0)),(.v (.bool false)),(.v (.string ⟨#[]⟩)),(.v (.string ⟨#[]⟩)),(.v (.string ⟨#[]⟩))]),
 s_ (.store 8 (t_ 10) (t_ 42)),
 m_ 11 43])
 (.seq (.region 0 [
 m_ 44 11,
 m_ 45 44,
 g_ 46 (.faddr 8 (t_ 9)) 45 false,
 g_ 47 (.load true 2 (t_ 46)) 45 false,
 g_ 48 (.build [(.v (.string ⟨#[]⟩)),(.v (.int .i64 0))] []) 45 false,
 g_ 49 (.eqA false [.s,(.i .i64)] (t_ 47) (t_ 48)) 45 false,
 o_ 50 (.pick (t_ 45) (.const (.bool true)) (t_ 49)),
 m_ 11 50])
 (.seq (.region 0 [
 o_ 51 (.faddr 5 (t_ 9)),
 o_ 52 (.load false 1 (t_ 51))])
 (.block 4 (.seq (.region 0 [
 o_ 54 (.binI .eql .i64 (t_ 52) (.const (.int .i64 1))),
 m_ 53 54])
 (.cond (t_ 53) (.seq (.region 1 [
 m_ 56 5,
 o_ 57 (.faddr 0 (t_ 9)),
 o_ 58 (.load true 2 (t_ 57)),
 o_ 59 (.look ⟨true,[.s,(.i .i64)]⟩ (.agg [(.v (.string ⟨#[]⟩)),(.v (.int .i64 0)),(.v (.string ⟨#[]⟩)),(.v (.int .i64 0)),(.v (.bool false)),(.v (.string ⟨#[]⟩)),(.v (.string ⟨#[]⟩)),(.v (.string ⟨#[]⟩))]) (t_ 56) (t_ 58) true),
 m_ 55 59,
 o_ 60 (.ext (t_ 55) 0),
 o_ 61 (.ext (t_ 55) 1),
 o_ 12 (.zero 0 [(.v (.string ⟨#[]⟩)),(.v (.int .i64 0)),(.v (.string ⟨#[]⟩)),(.v (.int .i64 0)),(.v (.bool false)),(.v (.string ⟨#[]⟩)),(.v (.string ⟨#[]⟩)),(.v (.string ⟨#[]⟩))]),
 s_ (.store 8 (t_ 12) (t_ 60)),
 m_ 13 61])
 (.seq (.region 0 [
 m_ 62 13,
 o_ 63 (.not (t_ 62)),
 m_ 64 63,
 g_ 65 (.mov (t_ 11)) 64 true,
 o_ 66 (.pick (t_ 64) (t_ 65) (.const (.bool false)))])
 (.cond (t_ 66) (.region 0 [
 m_ 67 5,
 o_ 68 (.faddr 0 (t_ 9)),
 o_ 69 (.load true 2 (t_ 68)),
 o_ 70 (.faddr 0 (t_ 9)),
 o_ 71 (.load true 2 (t_ 70)),
 o_ 72 (.faddr 8 (t_ 9)),
 o_ 73 (.load true 2 (t_ 72)),
 o_ 74 (.faddr 10 (t_ 9)),
 o_ 75 (.load true 3 (t_ 74)),
 o_ 76 (.faddr 14 (t_ 9)),
 o_ 77 (.load false 1 (t_ 76)),
 o_ 78 (.build [(.v (.string ⟨#[]⟩)),(.v (.int .i64 0)),(.v (.string ⟨#[]⟩)),(.v (.int .i64 0)),(.v (.bool false)),(.v (.string ⟨#[]⟩)),(.v (.string ⟨#[]⟩)),(.v (.string ⟨#[]⟩))] [(0,(2,(t_ 71))),(2,(2,(t_ 73))),(4,(3,(t_ 75))),(7,(1,(t_ 77)))]),
 s_ (.mapup ⟨true,[.s,(.i .i64)]⟩ (t_ 67) (t_ 69) (t_ 78))]) .skip))) (.seq (.region 0 [
 o_ 80 (.binI .eql .i64 (t_ 52) (.const (.int .i64 2))),
 m_ 79 80])
 (.cond (t_ 79) (.seq (.region 1 [
 m_ 82 5,
 o_ 83 (.faddr 6 (t_ 9)),
 o_ 84 (.load true 2 (t_ 83)),
 o_ 85 (.look ⟨true,[.s,(.i .i64)]⟩ (.agg [(.v (.string ⟨#[]⟩)),(.v (.int .i64 0)),(.v (.string ⟨#[]⟩)),(.v (.int .i64 0)),(.v (.bool false)),(.v (.string ⟨#[]⟩)),(.v (.string ⟨#[]⟩)),(.v (.string ⟨#[]⟩))]) (t_ 82) (t_ 84) true),
 m_ 81 85,
 o_ 86 (.ext (t_ 81) 0),
 o_ 87 (.ext (t_ 81) 1),
 o_ 14 (.zero 0 [(.v (.string ⟨#[]⟩)),(.v (.int .i64 0)),(.v (.string ⟨#[]⟩)),(.v (.int .i64 0)),(.v (.bool false)),(.v (.string ⟨#[]⟩)),(.v (.string ⟨#[]⟩)),(.v (.string ⟨#[]⟩))]),
 s_ (.store 8 (t_ 14) (t_ 86)),
 m_ 15 87])
 (.seq (.region 0 [
 m_ 88 15,
 m_ 89 88,
 g_ 90 (.mov (t_ 11)) 89 true,
 g_ 91 (.mov (t_ 90)) 89 true,
 g_ 92 (.faddr 8 (t_ 9)) 91 false,
 g_ 93 (.load true 2 (t_ 92)) 91 false,
 g_ 94 (.load true 2 (.global 0)) 91 false,
 g_ 95 (.eqA false [.s,(.i .i64)] (t_ 93) (t_ 94)) 91 false,
 g_ 96 (.pick (t_ 91) (.const (.bool true)) (t_ 95)) 89 true,
 o_ 97 (.pick (t_ 89) (t_ 96) (.const (.bool false))),
 m_ 98 97,
 g_ 99 (.mov (t_ 5)) 98 true,
 g_ 100 (.faddr 8 (t_ 9)) 98 true,
 g_ 101 (.load true 2 (t_ 100)) 98 true,
 g_ 102 (.faddr 6 (t_ 9)) 98 true,
 g_ 103 (.load true 2 (t_ 102)) 98 true,
 g_ 104 (.call 38 [(t_ 99),(t_ 101),(t_ 103)]) 98 true,
 g_ 105 (.not (t_ 104)) 98 true,
 o_ 106 (.pick (t_ 98) (t_ 105) (.const (.bool false)))])
 (.cond (t_ 106) (.seq (.dregion 0 [
 o_ 107 (.faddr 8 (t_ 9)),
 o_ 108 (.load true 2 (t_ 107)),
 o_ 109 (.faddr 10 (t_ 9)),
 o_ 110 (.load true 3 (t_ 109)),
 o_ 111 (.faddr 2 (t_ 14)),
 s_ (.store 2 (t_ 111) (t_ 108)),
 o_ 112 (.faddr 4 (t_ 14)),
 s_ (.store 3 (t_ 112) (t_ 110))] [[],[0],[],[2],[0,1],[4,1,0,1],[0,1,2,3,4,5],[6,3,5,0,1,2,3,4,5]])
 (.region 0 [
 m_ 113 5,
 o_ 114 (.faddr 6 (t_ 9)),
 o_ 115 (.load true 2 (t_ 114)),
 o_ 116 (.load true 8 (t_ 14)),
 s_ (.mapup ⟨true,[.s,(.i .i64)]⟩ (t_ 113) (t_ 115) (t_ 116))])) .skip))) .skip))))))))))
 (.region 0 [
 o_ 117 (.binI .add .i64 (t_ 33) (.const (.int .i64 1))),
 m_ 33 117])))))))
def b2011_4:AC:=(.region 1 [
 m_ 118 5,
 o_ 119 (.lenM (t_ 118)),
 o_ 120 (.mksl 0 8 104 [(.v (.string ⟨#[]⟩)),(.v (.int .i64 0)),(.v (.string ⟨#[]⟩)),(.v (.int .i64 0)),(.v (.bool false)),(.v (.string ⟨#[]⟩)),(.v (.string ⟨#[]⟩)),(.v (.string ⟨#[]⟩))] (.const (.int .i64 0)) (t_ 119)),
 m_ 16 120])
def b2011_5:AC:=(.seq (.region 1 [
 m_ 121 5,
 o_ 122 (.rng 0 ⟨true,[.s,(.i .i64)]⟩ (t_ 121))])
 (.block 5 (.loop (.seq (.region 0 [
 o_ 123 (.nxt (t_ 122)),
 o_ 124 (.ext (t_ 123) 0)])
 (.seq (.cond (t_ 124) .skip (.exit 5))
 (.block 6 (.seq (.region 1 [
 o_ 125 (.ent (t_ 122)),
 o_ 126 (.ext (t_ 125) 1),
 o_ 18 (.zero 0 [(.v (.string ⟨#[]⟩)),(.v (.int .i64 0)),(.v (.string ⟨#[]⟩)),(.v (.int .i64 0)),(.v (.bool false)),(.v (.string ⟨#[]⟩)),(.v (.string ⟨#[]⟩)),(.v (.string ⟨#[]⟩))]),
 s_ (.store 8 (t_ 18) (t_ 126))])
 (.region 2 [
 m_ 127 16,
 o_ 128 (.load true 8 (t_ 18)),
 o_ 129 (.bsl 0 8 [(.v (.string ⟨#[]⟩)),(.v (.int .i64 0)),(.v (.string ⟨#[]⟩)),(.v (.int .i64 0)),(.v (.bool false)),(.v (.string ⟨#[]⟩)),(.v (.string ⟨#[]⟩)),(.v (.string ⟨#[]⟩))] 1 [(0,(t_ 128))]),
 o_ 130 (.app 1 8 104 (t_ 127) (t_ 129)),
 m_ 16 130]))))))))
def b2011_6:AC:=(.region 0 [
 m_ 131 16,
 o_ 132 (.call 39 [(t_ 131),(.func 40)])])
def b2011_7:AC:=(.region 0 [
 m_ 133 16,
 m_ 4 133])
def b2011_8:AC:=.ret
def b2011:AC:=(.seq b2011_0 (.seq b2011_1 (.seq b2011_2 (.seq b2011_3 (.seq b2011_4 (.seq b2011_5 (.seq b2011_6 (.seq b2011_7 b2011_8))))))))
def ir2011:AF:=⟨134,[(.tmp 4)],b2011⟩
theorem c2011:compF tt Tryz.f11=some ir2011:=by kernel_rfl
def b2014:AC:=(.seq (.region 0 [
 o_ 4 (.mov (.const (.bool false)))])
 (.seq (.seq (.region 0 [
 m_ 6 0,
 o_ 7 (.lenL (t_ 6)),
 m_ 8 1,
 o_ 9 (.lenL (t_ 8)),
 o_ 10 (.binI .neq .i64 (t_ 7) (t_ 9))])
 (.cond (t_ 10) (.seq (.region 0 [
 o_ 4 (.mov (.const (.bool false)))])
 .ret) .skip))
 (.seq (.seq (.region 0 [
 m_ 11 0,
 o_ 12 (.lenL (t_ 11)),
 o_ 13 (.mov (.const (.int .i64 0)))])
 (.block 0 (.loop (.seq (.region 0 [
 o_ 14 (.binI .lss .i64 (t_ 13) (t_ 12))])
 (.seq (.cond (t_ 14) .skip (.exit 0))
 (.seq (.block 1 (.seq (.region 0 [
 m_ 15 13,
 m_ 5 15])
 (.seq (.dregion 0 [
 m_ 16 0,
 m_ 17 5,
 o_ 18 (.iaddr 2 (t_ 16) (t_ 17)),
 o_ 19 (.load true 2 (t_ 18)),
 m_ 20 1,
 m_ 21 5,
 o_ 22 (.iaddr 2 (t_ 20) (t_ 21)),
 o_ 23 (.load true 2 (t_ 22)),
 o_ 24 (.eqA true [.s,(.i .i64)] (t_ 19) (t_ 23))] [[],[],[0,1],[2],[],[],[4,5],[6],[3,7]])
 (.cond (t_ 24) (.seq (.region 0 [
 o_ 4 (.mov (.const (.bool false)))])
 .ret) .skip))))
 (.region 0 [
 o_ 25 (.binI .add .i64 (t_ 13) (.const (.int .i64 1))),
 m_ 13 25])))))))
 (.seq (.region 0 [
 o_ 4 (.mov (.const (.bool true)))])
 .ret))))
def ir2014:AF:=⟨26,[(.tmp 4)],b2014⟩
theorem c2014:compF tt Tryz.f14=some ir2014:=by kernel_rfl
def b2015:AC:=(.seq (.region 1 [
 o_ 1 (.box 0 (t_ 0)),
 o_ 2 (.mov (.const (.slice none 0 0)))])
 (.seq (.region 1 [
 o_ 3 (.zero 0 [(.v (.slice none 0 0))])])
 (.seq (.region 2 [
 o_ 6 (.mkmap 0 ⟨true,[.s,(.i .i64)]⟩),
 o_ 7 (.build [(.v (.string ⟨#[]⟩)),(.v (.int .i64 0))] []),
 s_ (.mapup ⟨true,[.s,(.i .i64)]⟩ (t_ 6) (t_ 7) (.const (.bool true))),
 m_ 8 6,
 o_ 4 (.zero 1 [(.v (.map none))]),
 s_ (.store 1 (t_ 4) (t_ 8))])
 (.seq (.region 1 [
 o_ 5 (.zero 0 [(.v .nilFunc)])])
 (.seq (.region 0 [
 o_ 9 (.mkfn 43 [(t_ 1),(t_ 4),(t_ 3),(t_ 5)]),
 s_ (.store 1 (t_ 5) (t_ 9))])
 (.seq (.region 0 [
 o_ 10 (.load false 1 (t_ 5)),
 o_ 11 (.build [(.v (.string ⟨#[]⟩)),(.v (.int .i64 0))] []),
 o_ 12 (.callv (t_ 10) [(t_ 11)])])
 (.seq (.region 0 [
 o_ 13 (.load false 1 (t_ 3)),
 m_ 2 13])
 .ret)))))))
def ir2015:AF:=⟨14,[(.tmp 2)],b2015⟩
theorem c2015:compF tt Tryz.f15=some ir2015:=by kernel_rfl
def b2017:AC:=(.seq (.region 1 [
 o_ 3 (.box 0 (t_ 1)),
 o_ 4 (.mov (.const (.slice none 0 0)))])
 (.seq (.region 0 [
 o_ 5 (.mov (.const (.slice none 0 0)))])
 (.seq (.seq (.region 0 [
 m_ 8 0,
 o_ 9 (.load true 2 (t_ 3)),
 o_ 10 (.call 44 [(t_ 8),(t_ 9)]),
 o_ 11 (.lenL (t_ 10)),
 o_ 12 (.mov (.const (.int .i64 0)))])
 (.block 0 (.loop (.seq (.region 0 [
 o_ 13 (.binI .lss .i64 (t_ 12) (t_ 11))])
 (.seq (.cond (t_ 13) .skip (.exit 0))
 (.seq (.block 1 (.seq (.region 1 [
 o_ 14 (.iaddr 8 (t_ 10) (t_ 12)),
 o_ 15 (.load true 8 (t_ 14)),
 o_ 7 (.zero 0 [(.v (.string ⟨#[]⟩)),(.v (.int .i64 0)),(.v (.string ⟨#[]⟩)),(.v (.int .i64 0)),(.v (.bool false)),(.v (.string ⟨#[]⟩)),(.v (.string ⟨#[]⟩)),(.v (.string ⟨#[]⟩))]),
 s_ (.store 8 (t_ 7) (t_ 15))])
 (.region 2 [
 m_ 16 5,
 o_ 17 (.faddr 0 (t_ 7)),
 o_ 18 (.load true 2 (t_ 17)),
 o_ 19 (.bsl 0 2 [(.v (.string ⟨#[]⟩)),(.v (.int .i64 0))] 1 [(0,(t_ 18))]),
 o_ 20 (.app 1 2 24 (t_ 16) (t_ 19)),
 m_ 5 20])))
 (.region 0 [
 o_ 21 (.binI .add .i64 (t_ 12) (.const (.int .i64 1))),
 m_ 12 21])))))))
 (.seq (.region 0 [
 m_ 22 5,
 m_ 4 22])
 .ret))))
def ir2017:AF:=⟨23,[(.tmp 4)],b2017⟩
theorem c2017:compF tt Tryz.f17=some ir2017:=by kernel_rfl
def b2019_0:AC:=(.region 0 [
 o_ 2 (.mov (.const (.bool false)))])
def b2019_1:AC:=(.seq (.region 0 [
 m_ 5 0,
 o_ 6 (.lenL (t_ 5)),
 o_ 7 (.mov (.const (.int .i64 0)))])
 (.block 0 (.loop (.seq (.region 0 [
 o_ 8 (.binI .lss .i64 (t_ 7) (t_ 6))])
 (.seq (.cond (t_ 8) .skip (.exit 0))
 (.seq (.block 1 (.seq (.region 0 [
 m_ 9 7,
 m_ 3 9])
 (.seq (.region 1 [
 m_ 10 0,
 m_ 11 3,
 o_ 12 (.iaddr 8 (t_ 10) (t_ 11)),
 o_ 13 (.faddr 0 (t_ 12)),
 o_ 14 (.load true 2 (t_ 13)),
 o_ 4 (.zero 0 [(.v (.string ⟨#[]⟩)),(.v (.int .i64 0))]),
 s_ (.store 2 (t_ 4) (t_ 14))])
 (.seq (.seq (.dregion 0 [
 o_ 15 (.faddr 0 (t_ 4)),
 o_ 16 (.load false 1 (t_ 15)),
 o_ 17 (.call 46 [(t_ 16)]),
 o_ 18 (.not (t_ 17)),
 m_ 19 18,
 g_ 20 (.faddr 1 (t_ 4)) 19 false,
 g_ 21 (.load false 1 (t_ 20)) 19 false,
 g_ 22 (.binI .lss .i64 (t_ 21) (.const (.int .i64 1))) 19 false,
 o_ 23 (.pick (t_ 19) (.const (.bool true)) (t_ 22)),
 m_ 24 23,
 g_ 25 (.faddr 1 (t_ 4)) 24 false,
 g_ 26 (.load false 1 (t_ 25)) 24 false,
 g_ 27 (.binI .gtr .i64 (t_ 26) (.const (.int .i64 1000000000))) 24 false,
 o_ 28 (.pick (t_ 24) (.const (.bool true)) (t_ 27)),
 m_ 29 28,
 g_ 30 (.mov (t_ 3)) 29 false,
 g_ 31 (.binI .gtr .i64 (t_ 30) (.const (.int .i64 0))) 29 false,
 g_ 32 (.mov (t_ 31)) 29 false,
 g_ 33 (.mov (t_ 0)) 32 true,
 g_ 34 (.mov (t_ 3)) 32 true,
 g_ 35 (.binI .sub .i64 (t_ 34) (.const (.int .i64 1))) 32 true,
 g_ 36 (.iaddr 8 (t_ 33) (t_ 35)) 32 true,
 g_ 37 (.faddr 0 (t_ 36)) 32 true,
 g_ 38 (.load true 2 (t_ 37)) 32 true,
 g_ 39 (.load true 2 (t_ 4)) 32 true,
 g_ 40 (.call 47 [(t_ 38),(t_ 39)]) 32 true,
 g_ 41 (.not (t_ 40)) 32 true,
 g_ 42 (.pick (t_ 32) (t_ 41) (.const (.bool false))) 29 false,
 o_ 43 (.pick (t_ 29) (.const (.bool true)) (t_ 42))] [[],[0],[1],[2],[3,2],[4],[5,4],[6,4],[4,7],[8,4],[9],[10,9],[11,9],[9,12],[13,9],[14],[15,14],[16,14,14],[17],[17],[19,17],[18,20,17],[21,17],[22,17],[17],[23,24,17,17],[25,17],[17,26,14],[14,27]])
 (.cond (t_ 43) (.seq (.region 0 [
 o_ 2 (.mov (.const (.bool false)))])
 .ret) .skip))
 (.seq (.dregion 0 [
 m_ 44 0,
 o_ 45 (.load true 2 (t_ 4)),
 o_ 46 (.build [(.v (.string ⟨#[]⟩)),(.v (.int .i64 0))] []),
 o_ 47 (.call 48 [(t_ 44),(t_ 45),(t_ 46)]),
 o_ 48 (.not (t_ 47)),
 m_ 49 48,
 g_ 50 (.mov (t_ 0)) 49 true,
 g_ 51 (.load true 2 (t_ 4)) 49 true,
 g_ 52 (.call 49 []) 49 true,
 g_ 53 (.call 48 [(t_ 50),(t_ 51),(t_ 52)]) 49 true,
 g_ 54 (.not (t_ 53)) 49 true,
 o_ 55 (.pick (t_ 49) (t_ 54) (.const (.bool false)))] [[],[],[],[0,1,2],[3],[4,3],[5],[5],[5,5],[6,7,8,8,5],[9,5],[5,10]])
 (.cond (t_ 55) (.seq (.region 0 [
 o_ 2 (.mov (.const (.bool false)))])
 .ret) .skip))))))
 (.region 0 [
 o_ 56 (.binI .add .i64 (t_ 7) (.const (.int .i64 1))),
 m_ 7 56])))))))
def b2019_2:AC:=(.region 0 [
 o_ 2 (.mov (.const (.bool true)))])
def b2019_3:AC:=.ret
def b2019:AC:=(.seq b2019_0 (.seq b2019_1 (.seq b2019_2 b2019_3)))
def ir2019:AF:=⟨57,[(.tmp 2)],b2019⟩
theorem c2019:compF tt Tryz.f19=some ir2019:=by kernel_rfl
def b2020:AC:=(.seq (.region 1 [
 o_ 3 (.box 0 (t_ 1)),
 o_ 4 (.mov (.const (.int .i64 0)))])
 (.seq (.seq (.region 0 [
 m_ 6 0,
 o_ 7 (.lenL (t_ 6)),
 o_ 8 (.mov (.const (.int .i64 0)))])
 (.block 0 (.loop (.seq (.region 0 [
 o_ 9 (.binI .lss .i64 (t_ 8) (t_ 7))])
 (.seq (.cond (t_ 9) .skip (.exit 0))
 (.seq (.block 1 (.seq (.region 0 [
 m_ 10 8,
 m_ 5 10])
 (.seq (.dregion 0 [
 m_ 11 0,
 m_ 12 5,
 o_ 13 (.iaddr 8 (t_ 11) (t_ 12)),
 o_ 14 (.faddr 0 (t_ 13)),
 o_ 15 (.load true 2 (t_ 14)),
 o_ 16 (.load true 2 (t_ 3)),
 o_ 17 (.eqA false [.s,(.i .i64)] (t_ 15) (t_ 16))] [[],[],[0,1],[2],[3],[],[4,5]])
 (.cond (t_ 17) (.seq (.region 0 [
 m_ 18 5,
 m_ 4 18])
 .ret) .skip))))
 (.region 0 [
 o_ 19 (.binI .add .i64 (t_ 8) (.const (.int .i64 1))),
 m_ 8 19])))))))
 (.seq (.region 0 [
 o_ 4 (.mov (.const (.int .i64 (-1))))])
 .ret)))
def ir2020:AF:=⟨20,[(.tmp 4)],b2020⟩
theorem c2020:compF tt Tryz.f20=some ir2020:=by kernel_rfl
def b2021_0:AC:=(.region 0 [
 o_ 2 (.mov (.const (.bool false)))])
def b2021_1:AC:=(.seq (.region 0 [
 m_ 4 0,
 o_ 5 (.lenL (t_ 4)),
 o_ 6 (.binI .gtr .i64 (t_ 5) (.const (.int .i64 40)))])
 (.cond (t_ 6) (.seq (.region 0 [
 o_ 2 (.mov (.const (.bool false)))])
 .ret) .skip))
def b2021_2:AC:=(.seq (.region 0 [
 m_ 7 0,
 o_ 8 (.lenL (t_ 7)),
 o_ 9 (.mov (.const (.int .i64 0)))])
 (.block 0 (.loop (.seq (.region 0 [
 o_ 10 (.binI .lss .i64 (t_ 9) (t_ 8))])
 (.seq (.cond (t_ 10) .skip (.exit 0))
 (.seq (.block 1 (.seq (.region 0 [
 m_ 11 9,
 m_ 3 11])
 (.seq (.dregion 0 [
 m_ 12 0,
 m_ 13 3,
 o_ 14 (.iaddr 8 (t_ 12) (t_ 13)),
 o_ 15 (.faddr 4 (t_ 14)),
 o_ 16 (.load true 3 (t_ 15)),
 o_ 17 (.call 50 [(t_ 16)]),
 m_ 18 0,
 m_ 19 3,
 o_ 20 (.iaddr 8 (t_ 18) (t_ 19)),
 o_ 21 (.faddr 4 (t_ 20)),
 o_ 22 (.load true 3 (t_ 21)),
 o_ 23 (.eqA true [.b,.s,.s] (t_ 17) (t_ 22)),
 m_ 24 23,
 g_ 25 (.mov (t_ 0)) 24 false,
 g_ 26 (.mov (t_ 3)) 24 false,
 g_ 27 (.iaddr 8 (t_ 25) (t_ 26)) 24 false,
 g_ 28 (.faddr 4 (t_ 27)) 24 false,
 g_ 29 (.load true 3 (t_ 28)) 24 false,
 g_ 30 (.call 25 [(t_ 29),(.const (.int .i64 16))]) 24 false,
 g_ 31 (.not (t_ 30)) 24 false,
 o_ 32 (.pick (t_ 24) (.const (.bool true)) (t_ 31)),
 m_ 33 32,
 g_ 34 (.mov (t_ 0)) 33 false,
 g_ 35 (.mov (t_ 3)) 33 false,
 g_ 36 (.iaddr 8 (t_ 34) (t_ 35)) 33 false,
 g_ 37 (.faddr 7 (t_ 36)) 33 false,
 g_ 38 (.load false 1 (t_ 37)) 33 false,
 g_ 39 (.lenS (t_ 38)) 33 false,
 g_ 40 (.binI .gtr .i64 (t_ 39) (.const (.int .i64 100))) 33 false,
 o_ 41 (.pick (t_ 33) (.const (.bool true)) (t_ 40)),
 m_ 42 41,
 g_ 43 (.mov (t_ 0)) 42 false,
 g_ 44 (.mov (t_ 3)) 42 false,
 g_ 45 (.iaddr 8 (t_ 43) (t_ 44)) 42 false,
 g_ 46 (.faddr 0 (t_ 45)) 42 false,
 g_ 47 (.faddr 0 (t_ 46)) 42 false,
 g_ 48 (.load false 1 (t_ 47)) 42 false,
 g_ 49 (.lenS (t_ 48)) 42 false,
 g_ 50 (.mov (t_ 0)) 42 false,
 g_ 51 (.mov (t_ 3)) 42 false,
 g_ 52 (.iaddr 8 (t_ 50) (t_ 51)) 42 false,
 g_ 53 (.faddr 2 (t_ 52)) 42 false,
 g_ 54 (.faddr 0 (t_ 53)) 42 false,
 g_ 55 (.load false 1 (t_ 54)) 42 false,
 g_ 56 (.lenS (t_ 55)) 42 false,
 g_ 57 (.binI .add .i64 (t_ 49) (t_ 56)) 42 false,
 g_ 58 (.binI .gtr .i64 (t_ 57) (.const (.int .i64 100))) 42 false,
 o_ 59 (.pick (t_ 42) (.const (.bool true)) (t_ 58))] [[],[],[0,1],[2],[3],[4],[],[],[6,7],[8],[9],[5,10],[11,5],[12],[12],[13,14,12],[15,12],[16,12],[17,12,12],[18,12],[12,19],[20,18],[21],[21],[22,23,21],[24,21],[25,21],[26,21],[27,21],[21,28],[29,21],[30],[30],[31,32,30],[33,30],[34,30],[35,30],[36,30],[30],[30],[38,39,30],[40,30],[41,30],[42,30],[43,30],[37,44,30],[45,30],[30,46]])
 (.cond (t_ 59) (.seq (.region 0 [
 o_ 2 (.mov (.const (.bool false)))])
 .ret) .skip))))
 (.region 0 [
 o_ 60 (.binI .add .i64 (t_ 9) (.const (.int .i64 1))),
 m_ 9 60])))))))
def b2021_3:AC:=(.region 0 [
 m_ 61 0,
 o_ 62 (.call 19 [(t_ 61)]),
 m_ 2 62])
def b2021_4:AC:=.ret
def b2021:AC:=(.seq b2021_0 (.seq b2021_1 (.seq b2021_2 (.seq b2021_3 b2021_4))))
def ir2021:AF:=⟨63,[(.tmp 2)],b2021⟩
theorem c2021:compF tt Tryz.f21=some ir2021:=by kernel_rfl
def b2022_0:AC:=(.region 2 [
 o_ 4 (.box 0 (t_ 1)),
 o_ 6 (.zero 1 [(.v (.bool false)),(.v (.string ⟨#[]⟩)),(.v (.string ⟨#[]⟩))])])
def b2022_1:AC:=(.region 0 [
 m_ 10 0,
 o_ 11 (.load true 2 (t_ 4)),
 o_ 12 (.call 44 [(t_ 10),(t_ 11)]),
 m_ 7 12])
def b2022_2:AC:=(.block 0 (.seq (.region 0 [
 m_ 14 7,
 o_ 15 (.lenL (t_ 14)),
 o_ 16 (.binI .eql .i64 (t_ 15) (.const (.int .i64 0))),
 m_ 13 16])
 (.cond (t_ 13) (.seq (.region 0 [
 o_ 17 (.build [(.v (.bool false)),(.v (.string ⟨#[]⟩)),(.v (.string ⟨#[]⟩))] []),
 s_ (.store 3 (t_ 6) (t_ 17))])
 .ret) (.seq (.region 0 [
 m_ 19 2,
 o_ 20 (.binI .leq .i64 (t_ 19) (.const (.int .i64 0))),
 m_ 18 20])
 (.cond (t_ 18) (.seq (.dregion 0 [
 m_ 21 7,
 o_ 22 (.iaddr 8 (t_ 21) (.const (.int .i64 0))),
 o_ 23 (.faddr 4 (t_ 22)),
 o_ 24 (.load true 3 (t_ 23)),
 o_ 25 (.call 52 []),
 o_ 26 (.call 51 [(t_ 24),(t_ 25)]),
 s_ (.store 3 (t_ 6) (t_ 26))] [[],[0],[1],[2],[],[3,4,4],[5,5,0,1,2,3,4,5]])
 .ret) (.seq (.region 0 [
 m_ 28 2,
 m_ 29 7,
 o_ 30 (.lenL (t_ 29)),
 o_ 31 (.binI .geq .i64 (t_ 28) (t_ 30)),
 m_ 27 31])
 (.cond (t_ 27) (.seq (.dregion 0 [
 m_ 32 7,
 m_ 33 7,
 o_ 34 (.lenL (t_ 33)),
 o_ 35 (.binI .sub .i64 (t_ 34) (.const (.int .i64 1))),
 o_ 36 (.iaddr 8 (t_ 32) (t_ 35)),
 o_ 37 (.faddr 4 (t_ 36)),
 o_ 38 (.load true 3 (t_ 37)),
 o_ 39 (.call 52 []),
 o_ 40 (.call 53 [(t_ 38),(t_ 39)]),
 s_ (.store 3 (t_ 6) (t_ 40))] [[],[],[1],[2],[0,3],[4],[5],[],[6,7,7],[8,8,0,1,2,3,4,5,6,7,8]])
 .ret) .skip)))))))
def b2022_3:AC:=(.dregion 2 [
 m_ 41 7,
 m_ 42 2,
 o_ 43 (.binI .sub .i64 (t_ 42) (.const (.int .i64 1))),
 o_ 44 (.iaddr 8 (t_ 41) (t_ 43)),
 o_ 45 (.faddr 4 (t_ 44)),
 o_ 46 (.load true 3 (t_ 45)),
 m_ 47 7,
 m_ 48 2,
 o_ 49 (.iaddr 8 (t_ 47) (t_ 48)),
 o_ 50 (.faddr 4 (t_ 49)),
 o_ 51 (.load true 3 (t_ 50)),
 o_ 8 (.zero 0 [(.v (.bool false)),(.v (.string ⟨#[]⟩)),(.v (.string ⟨#[]⟩))]),
 o_ 9 (.zero 1 [(.v (.bool false)),(.v (.string ⟨#[]⟩)),(.v (.string ⟨#[]⟩))]),
 s_ (.store 3 (t_ 8) (t_ 46)),
 s_ (.store 3 (t_ 9) (t_ 51))] [[],[],[1],[0,2],[3],[4],[],[],[6,7],[8],[9],[],[],[11,5,0,1,2,3,4,5,11,12],[12,10,13,0,1,2,3,4,5,6,7,8,9,10,11,12,13]])
def b2022_4:AC:=(.seq (.region 0 [
 o_ 52 (.load true 3 (t_ 8)),
 o_ 53 (.load true 3 (t_ 9)),
 o_ 54 (.call 24 [(t_ 52),(t_ 53)]),
 o_ 55 (.binI .eql .i64 (t_ 54) (.const (.int .i64 0)))])
 (.cond (t_ 55) (.seq (.region 0 [
 o_ 56 (.load true 3 (t_ 8)),
 o_ 57 (.call 54 [(t_ 56)]),
 s_ (.store 3 (t_ 6) (t_ 57))])
 .ret) .skip))
def b2022_5:AC:=(.region 0 [
 o_ 58 (.load true 3 (t_ 8)),
 o_ 59 (.load true 3 (t_ 9)),
 o_ 60 (.call 55 [(t_ 58),(t_ 59)]),
 s_ (.store 3 (t_ 6) (t_ 60))])
def b2022_6:AC:=.ret
def b2022:AC:=(.seq b2022_0 (.seq b2022_1 (.seq b2022_2 (.seq b2022_3 (.seq b2022_4 (.seq b2022_5 b2022_6))))))
def ir2022:AF:=⟨61,[(.cell 6 true 3)],b2022⟩
theorem c2022:compF tt Tryz.f22=some ir2022:=by kernel_rfl
def b2024:AC:=(.seq (.region 2 [
 o_ 2 (.box 0 (t_ 0)),
 o_ 3 (.box 1 (t_ 1)),
 o_ 4 (.mov (.const (.int .i64 0)))])
 (.seq (.region 2 [
 o_ 10 (.load true 3 (t_ 2)),
 o_ 11 (.call 61 [(t_ 10)]),
 m_ 9 11,
 o_ 12 (.ext (t_ 9) 0),
 o_ 13 (.ext (t_ 9) 1),
 o_ 5 (.zero 0 [(.v (.bool false)),(.v (.string ⟨#[]⟩))]),
 o_ 6 (.zero 1 [(.v (.bool false)),(.v (.string ⟨#[]⟩))]),
 s_ (.store 2 (t_ 5) (t_ 12)),
 s_ (.store 2 (t_ 6) (t_ 13))])
 (.seq (.region 2 [
 o_ 15 (.load true 3 (t_ 3)),
 o_ 16 (.call 61 [(t_ 15)]),
 m_ 14 16,
 o_ 17 (.ext (t_ 14) 0),
 o_ 18 (.ext (t_ 14) 1),
 o_ 7 (.zero 0 [(.v (.bool false)),(.v (.string ⟨#[]⟩))]),
 o_ 8 (.zero 1 [(.v (.bool false)),(.v (.string ⟨#[]⟩))]),
 s_ (.store 2 (t_ 7) (t_ 17)),
 s_ (.store 2 (t_ 8) (t_ 18))])
 (.seq (.dregion 0 [
 o_ 19 (.load true 2 (t_ 5)),
 o_ 20 (.load true 2 (t_ 8)),
 o_ 21 (.call 63 [(t_ 19),(t_ 20)]),
 o_ 22 (.load true 2 (t_ 7)),
 o_ 23 (.load true 2 (t_ 6)),
 o_ 24 (.call 63 [(t_ 22),(t_ 23)]),
 o_ 25 (.call 62 [(t_ 21),(t_ 24)]),
 m_ 4 25] [[],[],[0,1],[],[],[3,4,2],[2,5,5],[6,6,0,1,2,3,4,5,6]])
 .ret))))
def ir2024:AF:=⟨26,[(.tmp 4)],b2024⟩
theorem c2024:compF tt Tryz.f24=some ir2024:=by kernel_rfl
def b1091:AC:=(.seq (.region 1 [
 o_ 2 (.box 0 (t_ 0)),
 o_ 4 (.mov (.const (.bool false)))])
 (.seq (.region 1 [
 o_ 6 (.load true 3 (t_ 2)),
 o_ 7 (.call 50 [(t_ 6)]),
 o_ 5 (.zero 0 [(.v (.bool false)),(.v (.string ⟨#[]⟩)),(.v (.string ⟨#[]⟩))]),
 s_ (.store 3 (t_ 5) (t_ 7))])
 (.seq (.region 0 [
 o_ 8 (.faddr 1 (t_ 5)),
 o_ 9 (.load false 1 (t_ 8)),
 o_ 10 (.lenS (t_ 9)),
 m_ 11 1,
 o_ 12 (.binI .leq .i64 (t_ 10) (t_ 11)),
 m_ 13 12,
 g_ 14 (.faddr 2 (t_ 5)) 13 true,
 g_ 15 (.load false 1 (t_ 14)) 13 true,
 g_ 16 (.lenS (t_ 15)) 13 true,
 g_ 17 (.mov (t_ 1)) 13 true,
 g_ 18 (.binI .leq .i64 (t_ 16) (t_ 17)) 13 true,
 o_ 19 (.pick (t_ 13) (t_ 18) (.const (.bool false))),
 m_ 4 19])
 .ret)))
def ir1091:AF:=⟨20,[(.tmp 4)],b1091⟩
theorem c1091:compF tt Tryz.f25=some ir1091:=by kernel_rfl
def b2026:AC:=(.seq (.region 1 [
 o_ 2 (.zero 0 [(.v (.string ⟨#[]⟩)),(.v (.int .i64 0))])])
 (.seq (.region 0 [
 m_ 3 0,
 o_ 4 (.build [(.v (.string ⟨#[]⟩)),(.v (.int .i64 0))] [(0,(1,(.const (.string ⟨#[97]⟩)))),(1,(1,(t_ 3)))]),
 s_ (.store 2 (t_ 2) (t_ 4))])
 .ret))
def ir2026:AF:=⟨5,[(.cell 2 true 2)],b2026⟩
theorem c2026:compF tt Tryz.f26=some ir2026:=by kernel_rfl
def b2027:AC:=(.seq (.region 3 [
 o_ 2 (.box 0 (t_ 0)),
 o_ 3 (.box 1 (t_ 1)),
 o_ 4 (.zero 2 [(.v (.bool false)),(.v (.string ⟨#[]⟩)),(.v (.string ⟨#[]⟩))]),
 o_ 5 (.mov (.const (.bool false)))])
 (.seq (.region 2 [
 o_ 11 (.load true 3 (t_ 2)),
 o_ 12 (.call 61 [(t_ 11)]),
 m_ 10 12,
 o_ 13 (.ext (t_ 10) 0),
 o_ 14 (.ext (t_ 10) 1),
 o_ 6 (.zero 0 [(.v (.bool false)),(.v (.string ⟨#[]⟩))]),
 o_ 7 (.zero 1 [(.v (.bool false)),(.v (.string ⟨#[]⟩))]),
 s_ (.store 2 (t_ 6) (t_ 13)),
 s_ (.store 2 (t_ 7) (t_ 14))])
 (.seq (.region 2 [
 o_ 16 (.load true 3 (t_ 3)),
 o_ 17 (.call 61 [(t_ 16)]),
 m_ 15 17,
 o_ 18 (.ext (t_ 15) 0),
 o_ 19 (.ext (t_ 15) 1),
 o_ 8 (.zero 0 [(.v (.bool false)),(.v (.string ⟨#[]⟩))]),
 o_ 9 (.zero 1 [(.v (.bool false)),(.v (.string ⟨#[]⟩))]),
 s_ (.store 2 (t_ 8) (t_ 18)),
 s_ (.store 2 (t_ 9) (t_ 19))])
 (.seq (.dregion 0 [
 o_ 20 (.load true 2 (t_ 6)),
 o_ 21 (.load true 2 (t_ 9)),
 o_ 22 (.call 63 [(t_ 20),(t_ 21)]),
 o_ 23 (.load true 2 (t_ 7)),
 o_ 24 (.load true 2 (t_ 8)),
 o_ 25 (.call 63 [(t_ 23),(t_ 24)]),
 o_ 26 (.call 35 [(t_ 22),(t_ 25)]),
 o_ 27 (.ext (t_ 26) 0),
 o_ 28 (.ext (t_ 26) 1),
 s_ (.store 3 (t_ 4) (t_ 27)),
 m_ 5 28] [[],[],[0,1],[],[],[3,4,2],[2,5,5],[6],[6],[7,6,0,1,2,3,4,5,6,7,8],[8,9,0,1,2,3,4,5,6,7,8,9]])
 .ret))))
def ir2027:AF:=⟨29,[(.cell 4 true 3),(.tmp 5)],b2027⟩
theorem c2027:compF tt Tryz.f27=some ir2027:=by kernel_rfl
def b2028:AC:=(.seq (.region 1 [
 o_ 2 (.zero 0 [(.v (.bool false)),(.v (.string ⟨#[]⟩)),(.v (.string ⟨#[]⟩))])])
 (.seq (.region 0 [
 m_ 3 0,
 o_ 4 (.call 34 [(t_ 3)]),
 o_ 5 (.call 34 [(.const (.int .i64 1))]),
 o_ 6 (.call 64 [(t_ 4),(t_ 5)]),
 s_ (.store 3 (t_ 2) (t_ 6))])
 .ret))
def ir2028:AF:=⟨7,[(.cell 2 true 3)],b2028⟩
theorem c2028:compF tt Tryz.f28=some ir2028:=by kernel_rfl
def b2029:AC:=(.seq (.region 1 [
 o_ 1 (.box 0 (t_ 0)),
 o_ 2 (.mov (.const (.int .i64 0)))])
 (.seq (.region 2 [
 o_ 6 (.load true 3 (t_ 1)),
 o_ 7 (.call 61 [(t_ 6)]),
 m_ 5 7,
 o_ 8 (.ext (t_ 5) 0),
 o_ 9 (.ext (t_ 5) 1),
 o_ 3 (.zero 0 [(.v (.bool false)),(.v (.string ⟨#[]⟩))]),
 o_ 4 (.zero 1 [(.v (.bool false)),(.v (.string ⟨#[]⟩))]),
 s_ (.store 2 (t_ 3) (t_ 8)),
 s_ (.store 2 (t_ 4) (t_ 9))])
 (.seq (.region 0 [
 o_ 10 (.load true 2 (t_ 3)),
 o_ 11 (.call 65 [(t_ 10)]),
 m_ 2 11])
 .ret)))
def ir2029:AF:=⟨12,[(.tmp 2)],b2029⟩
theorem c2029:compF tt Tryz.f29=some ir2029:=by kernel_rfl
def b2030:AC:=(.seq (.region 2 [
 o_ 1 (.box 0 (t_ 0)),
 o_ 2 (.zero 1 [(.v (.bool false)),(.v (.string ⟨#[]⟩)),(.v (.string ⟨#[]⟩))])])
 (.seq (.region 2 [
 o_ 6 (.load true 3 (t_ 1)),
 o_ 7 (.call 61 [(t_ 6)]),
 m_ 5 7,
 o_ 8 (.ext (t_ 5) 0),
 o_ 9 (.ext (t_ 5) 1),
 o_ 3 (.zero 0 [(.v (.bool false)),(.v (.string ⟨#[]⟩))]),
 o_ 4 (.zero 1 [(.v (.bool false)),(.v (.string ⟨#[]⟩))]),
 s_ (.store 2 (t_ 3) (t_ 8)),
 s_ (.store 2 (t_ 4) (t_ 9))])
 (.seq (.dregion 0 [
 o_ 10 (.load true 2 (t_ 3)),
 o_ 11 (.call 66 [(t_ 10)]),
 o_ 12 (.load true 2 (t_ 4)),
 o_ 13 (.call 64 [(t_ 11),(t_ 12)]),
 s_ (.store 3 (t_ 2) (t_ 13))] [[],[0],[],[1,2,1],[3,3,0,1,2,3]])
 .ret)))
def ir2030:AF:=⟨14,[(.cell 2 true 3)],b2030⟩
theorem c2030:compF tt Tryz.f30=some ir2030:=by kernel_rfl
def b2031:AC:=(.seq (.region 3 [
 o_ 2 (.box 0 (t_ 0)),
 o_ 3 (.box 1 (t_ 1)),
 o_ 4 (.zero 2 [(.v (.bool false)),(.v (.string ⟨#[]⟩))])])
 (.seq (.dregion 0 [
 o_ 9 (.load true 2 (t_ 2)),
 o_ 10 (.call 67 [(t_ 9)]),
 o_ 11 (.load true 2 (t_ 3)),
 o_ 12 (.call 67 [(t_ 11)]),
 s_ (.store 2 (t_ 2) (t_ 10)),
 s_ (.store 2 (t_ 3) (t_ 12))] [[],[0],[],[2,1],[1,3,0,1],[3,4,0,1,2,3,4]])
 (.seq (.seq (.region 0 [
 o_ 13 (.faddr 0 (t_ 2)),
 o_ 14 (.load false 1 (t_ 13)),
 o_ 15 (.faddr 0 (t_ 3)),
 o_ 16 (.load false 1 (t_ 15)),
 o_ 17 (.eqB false (t_ 14) (t_ 16))])
 (.cond (t_ 17) (.seq (.dregion 0 [
 o_ 18 (.faddr 0 (t_ 2)),
 o_ 19 (.load false 1 (t_ 18)),
 o_ 20 (.faddr 1 (t_ 2)),
 o_ 21 (.load false 1 (t_ 20)),
 o_ 22 (.faddr 1 (t_ 3)),
 o_ 23 (.load false 1 (t_ 22)),
 o_ 24 (.call 69 [(t_ 21),(t_ 23)]),
 o_ 25 (.call 68 [(t_ 19),(t_ 24)]),
 s_ (.store 2 (t_ 4) (t_ 25))] [[],[0],[],[2],[],[4],[3,5],[1,6,6],[7,7,0,1,2,3,4,5,6,7]])
 .ret) .skip))
 (.seq (.seq (.region 0 [
 o_ 27 (.faddr 1 (t_ 2)),
 o_ 28 (.load false 1 (t_ 27)),
 o_ 29 (.faddr 1 (t_ 3)),
 o_ 30 (.load false 1 (t_ 29)),
 o_ 31 (.call 70 [(t_ 28),(t_ 30)]),
 m_ 26 31,
 o_ 32 (.ext (t_ 26) 0),
 o_ 33 (.ext (t_ 26) 1),
 m_ 5 32,
 m_ 6 33])
 (.seq (.region 0 [
 m_ 34 6])
 (.cond (t_ 34) (.seq (.region 0 [
 o_ 35 (.faddr 0 (t_ 2)),
 o_ 36 (.load false 1 (t_ 35)),
 m_ 37 5,
 o_ 38 (.call 68 [(t_ 36),(t_ 37)]),
 s_ (.store 2 (t_ 4) (t_ 38))])
 .ret) .skip)))
 (.seq (.region 0 [
 o_ 40 (.faddr 1 (t_ 3)),
 o_ 41 (.load false 1 (t_ 40)),
 o_ 42 (.faddr 1 (t_ 2)),
 o_ 43 (.load false 1 (t_ 42)),
 o_ 44 (.call 70 [(t_ 41),(t_ 43)]),
 m_ 39 44,
 o_ 45 (.ext (t_ 39) 0),
 o_ 46 (.ext (t_ 39) 1),
 m_ 7 45,
 m_ 8 46])
 (.seq (.region 0 [
 o_ 47 (.faddr 0 (t_ 3)),
 o_ 48 (.load false 1 (t_ 47)),
 m_ 49 7,
 o_ 50 (.call 68 [(t_ 48),(t_ 49)]),
 s_ (.store 2 (t_ 4) (t_ 50))])
 .ret))))))
def ir2031:AF:=⟨51,[(.cell 4 true 2)],b2031⟩
theorem c2031:compF tt Tryz.f31=some ir2031:=by kernel_rfl
def b2032:AC:=(.seq (.region 2 [
 o_ 1 (.box 0 (t_ 0)),
 o_ 2 (.zero 1 [(.v (.bool false)),(.v (.string ⟨#[]⟩))])])
 (.seq (.region 2 [
 o_ 7 (.load true 3 (t_ 1)),
 o_ 8 (.call 61 [(t_ 7)]),
 o_ 9 (.ext (t_ 8) 0),
 o_ 10 (.ext (t_ 8) 1),
 o_ 11 (.call 71 [(t_ 9),(t_ 10)]),
 m_ 6 11,
 o_ 12 (.ext (t_ 6) 0),
 o_ 13 (.ext (t_ 6) 1),
 o_ 14 (.ext (t_ 6) 2),
 o_ 3 (.zero 0 [(.v (.bool false)),(.v (.string ⟨#[]⟩))]),
 o_ 4 (.zero 1 [(.v (.bool false)),(.v (.string ⟨#[]⟩))]),
 s_ (.store 2 (t_ 3) (t_ 12)),
 s_ (.store 2 (t_ 4) (t_ 13)),
 m_ 5 14])
 (.seq (.region 0 [
 o_ 15 (.load true 2 (t_ 3)),
 s_ (.store 2 (t_ 2) (t_ 15))])
 .ret)))
def ir2032:AF:=⟨16,[(.cell 2 true 2)],b2032⟩
theorem c2032:compF tt Tryz.f32=some ir2032:=by kernel_rfl
def b1120:AC:=(.seq (.region 1 [
 o_ 2 (.zero 0 [(.v (.bool false)),(.v (.string ⟨#[]⟩))])])
 (.seq (.seq (.region 0 [
 m_ 3 0,
 o_ 4 (.binI .lss .i64 (t_ 3) (.const (.int .i64 0)))])
 (.cond (t_ 4) (.seq (.region 0 [
 m_ 5 0,
 o_ 6 (.binI .add .i64 (t_ 5) (.const (.int .i64 1))),
 o_ 7 (.neg .i64 (t_ 6)),
 o_ 8 (.conv .u64 (t_ 7)),
 o_ 9 (.binI .add .u64 (t_ 8) (.const (.int .u64 1))),
 o_ 10 (.call 72 [(t_ 9)]),
 o_ 11 (.call 68 [(.const (.bool true)),(t_ 10)]),
 s_ (.store 2 (t_ 2) (t_ 11))])
 .ret) .skip))
 (.seq (.region 0 [
 m_ 12 0,
 o_ 13 (.conv .u64 (t_ 12)),
 o_ 14 (.call 72 [(t_ 13)]),
 o_ 15 (.call 68 [(.const (.bool false)),(t_ 14)]),
 s_ (.store 2 (t_ 2) (t_ 15))])
 .ret)))
def ir1120:AF:=⟨16,[(.cell 2 true 2)],b1120⟩
theorem c1120:compF tt Tryz.f34=some ir1120:=by kernel_rfl
def b1118:AC:=(.seq (.region 3 [
 o_ 2 (.box 0 (t_ 0)),
 o_ 3 (.box 1 (t_ 1)),
 o_ 4 (.zero 2 [(.v (.bool false)),(.v (.string ⟨#[]⟩)),(.v (.string ⟨#[]⟩))]),
 o_ 5 (.mov (.const (.bool false)))])
 (.seq (.seq (.region 0 [
 o_ 9 (.load true 2 (t_ 3)),
 o_ 10 (.call 65 [(t_ 9)]),
 o_ 11 (.binI .eql .i64 (t_ 10) (.const (.int .i64 0)))])
 (.cond (t_ 11) (.seq (.region 0 [
 o_ 12 (.build [(.v (.bool false)),(.v (.string ⟨#[]⟩)),(.v (.string ⟨#[]⟩))] []),
 s_ (.store 3 (t_ 4) (t_ 12)),
 o_ 5 (.mov (.const (.bool false)))])
 .ret) .skip))
 (.seq (.seq (.region 0 [
 o_ 13 (.load true 2 (t_ 2)),
 o_ 14 (.call 65 [(t_ 13)]),
 o_ 15 (.binI .eql .i64 (t_ 14) (.const (.int .i64 0)))])
 (.cond (t_ 15) (.seq (.region 0 [
 o_ 16 (.build [(.v (.bool false)),(.v (.string ⟨#[]⟩)),(.v (.string ⟨#[]⟩))] []),
 s_ (.store 3 (t_ 4) (t_ 16)),
 o_ 5 (.mov (.const (.bool true)))])
 .ret) .skip))
 (.seq (.region 1 [
 o_ 17 (.faddr 1 (t_ 2)),
 o_ 18 (.load false 1 (t_ 17)),
 o_ 19 (.faddr 1 (t_ 3)),
 o_ 20 (.load false 1 (t_ 19)),
 o_ 21 (.call 73 [(t_ 18),(t_ 20)]),
 o_ 6 (.zero 0 [(.v (.string ⟨#[]⟩))]),
 s_ (.store 1 (t_ 6) (t_ 21))])
 (.seq (.region 0 [
 o_ 22 (.mkfn 74 [(t_ 6)]),
 m_ 7 22])
 (.seq (.dregion 1 [
 o_ 23 (.faddr 0 (t_ 2)),
 o_ 24 (.load false 1 (t_ 23)),
 o_ 25 (.faddr 0 (t_ 3)),
 o_ 26 (.load false 1 (t_ 25)),
 o_ 27 (.eqB true (t_ 24) (t_ 26)),
 m_ 28 7,
 o_ 29 (.faddr 1 (t_ 2)),
 o_ 30 (.load false 1 (t_ 29)),
 o_ 31 (.callv (t_ 28) [(t_ 30)]),
 m_ 32 7,
 o_ 33 (.faddr 1 (t_ 3)),
 o_ 34 (.load false 1 (t_ 33)),
 o_ 35 (.callv (t_ 32) [(t_ 34)]),
 o_ 36 (.build [(.v (.bool false)),(.v (.string ⟨#[]⟩)),(.v (.string ⟨#[]⟩))] [(0,(1,(t_ 27))),(1,(1,(t_ 31))),(2,(1,(t_ 35)))]),
 o_ 8 (.zero 0 [(.v (.bool false)),(.v (.string ⟨#[]⟩)),(.v (.string ⟨#[]⟩))]),
 s_ (.store 3 (t_ 8) (t_ 36))] [[],[0],[],[2],[1,3],[],[],[6],[5,7],[],[],[10],[9,11,8],[4,8,12],[],[14,13,12,0,1,2,3,4,5,6,7,8,9,10,11,12,13,14]])
 (.seq (.seq (.region 0 [
 o_ 37 (.faddr 2 (t_ 8)),
 o_ 38 (.load false 1 (t_ 37)),
 o_ 39 (.binS .eql (t_ 38) (.const (.string ⟨#[1]⟩)))])
 (.cond (t_ 39) (.region 0 [
 o_ 40 (.faddr 2 (t_ 8)),
 s_ (.store 1 (t_ 40) (.const (.string ⟨#[]⟩)))]) .skip))
 (.seq (.region 0 [
 o_ 41 (.load true 3 (t_ 8)),
 s_ (.store 3 (t_ 4) (t_ 41)),
 o_ 5 (.mov (.const (.bool true)))])
 .ret))))))))
def ir1118:AF:=⟨42,[(.cell 4 true 3),(.tmp 5)],b1118⟩
theorem c1118:compF tt Tryz.f35=some ir1118:=by kernel_rfl
def b1028_0:AC:=(.region 1 [
 o_ 1 (.box 0 (t_ 0)),
 o_ 2 (.mov (.const (.int .i64 0)))])
def b1028_1:AC:=(.seq (.region 0 [
 o_ 4 (.faddr 4 (t_ 1)),
 o_ 5 (.load false 1 (t_ 4)),
 o_ 6 (.lenL (t_ 5)),
 o_ 7 (.binI .gtr .i64 (t_ 6) (.const (.int .i64 12))),
 m_ 8 7,
 g_ 9 (.faddr 13 (t_ 1)) 8 false,
 g_ 10 (.load false 1 (t_ 9)) 8 false,
 g_ 11 (.lenS (t_ 10)) 8 false,
 g_ 12 (.faddr 17 (t_ 1)) 8 false,
 g_ 13 (.load false 1 (t_ 12)) 8 false,
 g_ 14 (.lenS (t_ 13)) 8 false,
 g_ 15 (.binI .add .i64 (t_ 11) (t_ 14)) 8 false,
 g_ 16 (.faddr 6 (t_ 1)) 8 false,
 g_ 17 (.faddr 0 (t_ 16)) 8 false,
 g_ 18 (.load false 1 (t_ 17)) 8 false,
 g_ 19 (.lenS (t_ 18)) 8 false,
 g_ 20 (.binI .add .i64 (t_ 15) (t_ 19)) 8 false,
 g_ 21 (.faddr 8 (t_ 1)) 8 false,
 g_ 22 (.faddr 0 (t_ 21)) 8 false,
 g_ 23 (.load false 1 (t_ 22)) 8 false,
 g_ 24 (.lenS (t_ 23)) 8 false,
 g_ 25 (.binI .add .i64 (t_ 20) (t_ 24)) 8 false,
 g_ 26 (.faddr 15 (t_ 1)) 8 false,
 g_ 27 (.faddr 0 (t_ 26)) 8 false,
 g_ 28 (.load false 1 (t_ 27)) 8 false,
 g_ 29 (.lenS (t_ 28)) 8 false,
 g_ 30 (.binI .add .i64 (t_ 25) (t_ 29)) 8 false,
 g_ 31 (.faddr 0 (t_ 1)) 8 false,
 g_ 32 (.faddr 0 (t_ 31)) 8 false,
 g_ 33 (.load false 1 (t_ 32)) 8 false,
 g_ 34 (.lenS (t_ 33)) 8 false,
 g_ 35 (.binI .add .i64 (t_ 30) (t_ 34)) 8 false,
 g_ 36 (.binI .gtr .i64 (t_ 35) (.const (.int .i64 300))) 8 false,
 o_ 37 (.pick (t_ 8) (.const (.bool true)) (t_ 36)),
 m_ 38 37,
 g_ 39 (.faddr 14 (t_ 1)) 38 false,
 g_ 40 (.load false 1 (t_ 39)) 38 false,
 g_ 41 (.lenS (t_ 40)) 38 false,
 g_ 42 (.binI .gtr .i64 (t_ 41) (.const (.int .i64 300))) 38 false,
 o_ 43 (.pick (t_ 38) (.const (.bool true)) (t_ 42)),
 m_ 44 43,
 g_ 45 (.faddr 10 (t_ 1)) 44 false,
 g_ 46 (.faddr 1 (t_ 45)) 44 false,
 g_ 47 (.load false 1 (t_ 46)) 44 false,
 g_ 48 (.lenS (t_ 47)) 44 false,
 g_ 49 (.faddr 10 (t_ 1)) 44 false,
 g_ 50 (.faddr 2 (t_ 49)) 44 false,
 g_ 51 (.load false 1 (t_ 50)) 44 false,
 g_ 52 (.lenS (t_ 51)) 44 false,
 g_ 53 (.binI .add .i64 (t_ 48) (t_ 52)) 44 false,
 g_ 54 (.binI .gtr .i64 (t_ 53) (.const (.int .i64 60))) 44 false,
 o_ 55 (.pick (t_ 44) (.const (.bool true)) (t_ 54))])
 (.cond (t_ 55) (.seq (.region 0 [
 o_ 2 (.mov (.const (.int .i64 1)))])
 .ret) .skip))
def b1028_2:AC:=(.seq (.region 0 [
 o_ 56 (.faddr 4 (t_ 1)),
 o_ 57 (.load false 1 (t_ 56)),
 o_ 58 (.lenL (t_ 57)),
 o_ 59 (.mov (.const (.int .i64 0)))])
 (.block 0 (.loop (.seq (.region 0 [
 o_ 60 (.binI .lss .i64 (t_ 59) (t_ 58))])
 (.seq (.cond (t_ 60) .skip (.exit 0))
 (.seq (.block 1 (.seq (.region 0 [
 m_ 61 59,
 m_ 3 61])
 (.seq (.region 0 [
 o_ 62 (.faddr 4 (t_ 1)),
 o_ 63 (.load false 1 (t_ 62)),
 m_ 64 3,
 o_ 65 (.iaddr 2 (t_ 63) (t_ 64)),
 o_ 66 (.faddr 0 (t_ 65)),
 o_ 67 (.load false 1 (t_ 66)),
 o_ 68 (.lenS (t_ 67)),
 o_ 69 (.binI .gtr .i64 (t_ 68) (.const (.int .i64 60)))])
 (.cond (t_ 69) (.seq (.region 0 [
 o_ 2 (.mov (.const (.int .i64 1)))])
 .ret) .skip))))
 (.region 0 [
 o_ 70 (.binI .add .i64 (t_ 59) (.const (.int .i64 1))),
 m_ 59 70])))))))
def b1028_3:AC:=(.region 0 [
 o_ 2 (.mov (.const (.int .i64 0)))])
def b1028_4:AC:=.ret
def b1028:AC:=(.seq b1028_0 (.seq b1028_1 (.seq b1028_2 (.seq b1028_3 b1028_4))))
def ir1028:AF:=⟨71,[(.tmp 2)],b1028⟩
theorem c1028:compF tt Tryz.f36=some ir1028:=by kernel_rfl
def b1025_0:AC:=(.region 1 [
 o_ 1 (.box 0 (t_ 0)),
 o_ 2 (.mov (.const (.int .i64 0)))])
def b1025_1:AC:=(.seq (.region 0 [
 o_ 5 (.faddr 0 (t_ 1)),
 o_ 6 (.faddr 0 (t_ 5)),
 o_ 7 (.load false 1 (t_ 6)),
 o_ 8 (.call 46 [(t_ 7)]),
 o_ 9 (.not (t_ 8))])
 (.cond (t_ 9) (.seq (.region 0 [
 o_ 2 (.mov (.const (.int .i64 7)))])
 .ret) .skip))
def b1025_2:AC:=(.seq (.region 0 [
 o_ 10 (.faddr 0 (t_ 1)),
 o_ 11 (.faddr 1 (t_ 10)),
 o_ 12 (.load false 1 (t_ 11)),
 o_ 13 (.binI .lss .i64 (t_ 12) (.const (.int .i64 1))),
 m_ 14 13,
 g_ 15 (.faddr 0 (t_ 1)) 14 false,
 g_ 16 (.faddr 1 (t_ 15)) 14 false,
 g_ 17 (.load false 1 (t_ 16)) 14 false,
 g_ 18 (.binI .gtr .i64 (t_ 17) (.const (.int .i64 1000000000))) 14 false,
 o_ 19 (.pick (t_ 14) (.const (.bool true)) (t_ 18)),
 m_ 20 19,
 g_ 21 (.faddr 2 (t_ 1)) 20 false,
 g_ 22 (.load false 1 (t_ 21)) 20 false,
 g_ 23 (.faddr 0 (t_ 1)) 20 false,
 g_ 24 (.faddr 1 (t_ 23)) 20 false,
 g_ 25 (.load false 1 (t_ 24)) 20 false,
 g_ 26 (.binI .lss .i64 (t_ 22) (t_ 25)) 20 false,
 o_ 27 (.pick (t_ 20) (.const (.bool true)) (t_ 26)),
 m_ 28 27,
 g_ 29 (.faddr 2 (t_ 1)) 28 false,
 g_ 30 (.load false 1 (t_ 29)) 28 false,
 g_ 31 (.binI .gtr .i64 (t_ 30) (.const (.int .i64 1000000000))) 28 false,
 o_ 32 (.pick (t_ 28) (.const (.bool true)) (t_ 31)),
 m_ 33 32,
 g_ 34 (.faddr 3 (t_ 1)) 33 false,
 g_ 35 (.load false 1 (t_ 34)) 33 false,
 g_ 36 (.binI .lss .i64 (t_ 35) (.const (.int .i64 0))) 33 false,
 o_ 37 (.pick (t_ 33) (.const (.bool true)) (t_ 36)),
 m_ 38 37,
 g_ 39 (.faddr 3 (t_ 1)) 38 false,
 g_ 40 (.load false 1 (t_ 39)) 38 false,
 g_ 41 (.faddr 2 (t_ 1)) 38 false,
 g_ 42 (.load false 1 (t_ 41)) 38 false,
 g_ 43 (.binI .geq .i64 (t_ 40) (t_ 42)) 38 false,
 o_ 44 (.pick (t_ 38) (.const (.bool true)) (t_ 43))])
 (.cond (t_ 44) (.seq (.region 0 [
 o_ 2 (.mov (.const (.int .i64 2)))])
 .ret) .skip))
def b1025_3:AC:=(.region 0 [
 o_ 45 (.faddr 4 (t_ 1)),
 o_ 46 (.load false 1 (t_ 45)),
 o_ 47 (.call 76 [(t_ 46)]),
 m_ 3 47])
def b1025_4:AC:=(.seq (.region 0 [
 m_ 48 3,
 o_ 49 (.binI .neq .i64 (t_ 48) (.const (.int .i64 0)))])
 (.cond (t_ 49) (.seq (.region 0 [
 m_ 50 3,
 m_ 2 50])
 .ret) .skip))
def b1025_5:AC:=(.seq (.region 0 [
 o_ 51 (.faddr 4 (t_ 1)),
 o_ 52 (.load false 1 (t_ 51)),
 o_ 53 (.lenL (t_ 52)),
 o_ 54 (.mov (.const (.int .i64 0)))])
 (.block 0 (.loop (.seq (.region 0 [
 o_ 55 (.binI .lss .i64 (t_ 54) (t_ 53))])
 (.seq (.cond (t_ 55) .skip (.exit 0))
 (.seq (.block 1 (.seq (.region 0 [
 m_ 56 54,
 m_ 4 56])
 (.seq (.region 0 [
 o_ 57 (.faddr 4 (t_ 1)),
 o_ 58 (.load false 1 (t_ 57)),
 m_ 59 4,
 o_ 60 (.iaddr 2 (t_ 58) (t_ 59)),
 o_ 61 (.faddr 1 (t_ 60)),
 o_ 62 (.load false 1 (t_ 61)),
 o_ 63 (.binI .gtr .i64 (t_ 62) (.const (.int .i64 1000000000)))])
 (.cond (t_ 63) (.seq (.region 0 [
 o_ 2 (.mov (.const (.int .i64 2)))])
 .ret) .skip))))
 (.region 0 [
 o_ 64 (.binI .add .i64 (t_ 54) (.const (.int .i64 1))),
 m_ 54 64])))))))
def b1025_6:AC:=(.seq (.dregion 0 [
 o_ 65 (.faddr 4 (t_ 1)),
 o_ 66 (.load false 1 (t_ 65)),
 o_ 67 (.faddr 0 (t_ 1)),
 o_ 68 (.faddr 0 (t_ 67)),
 o_ 69 (.load false 1 (t_ 68)),
 o_ 70 (.call 77 [(t_ 66),(t_ 69)]),
 o_ 71 (.faddr 0 (t_ 1)),
 o_ 72 (.faddr 1 (t_ 71)),
 o_ 73 (.load false 1 (t_ 72)),
 o_ 74 (.binI .sub .i64 (t_ 73) (.const (.int .i64 1))),
 o_ 75 (.binI .neq .i64 (t_ 70) (t_ 74))] [[],[0],[],[2],[3],[1,4],[],[6],[7],[8],[5,9]])
 (.cond (t_ 75) (.seq (.region 0 [
 o_ 2 (.mov (.const (.int .i64 1)))])
 .ret) .skip))
def b1025_7:AC:=(.seq (.region 0 [
 o_ 76 (.faddr 5 (t_ 1)),
 o_ 77 (.load false 1 (t_ 76)),
 o_ 78 (.binI .lss .i64 (t_ 77) (.const (.int .i64 1))),
 m_ 79 78,
 g_ 80 (.faddr 5 (t_ 1)) 79 false,
 g_ 81 (.load false 1 (t_ 80)) 79 false,
 g_ 82 (.binI .gtr .i64 (t_ 81) (.const (.int .i64 6))) 79 false,
 o_ 83 (.pick (t_ 79) (.const (.bool true)) (t_ 82))])
 (.cond (t_ 83) (.seq (.region 0 [
 o_ 2 (.mov (.const (.int .i64 11)))])
 .ret) .skip))
def b1025_8:AC:=(.seq (.region 0 [
 o_ 84 (.faddr 5 (t_ 1)),
 o_ 85 (.load false 1 (t_ 84)),
 o_ 86 (.binI .eql .i64 (t_ 85) (.const (.int .i64 3))),
 m_ 87 86,
 g_ 88 (.faddr 14 (t_ 1)) 87 true,
 g_ 89 (.load false 1 (t_ 88)) 87 true,
 g_ 90 (.lenS (t_ 89)) 87 true,
 g_ 91 (.binI .gtr .i64 (t_ 90) (.const (.int .i64 2000))) 87 true,
 o_ 92 (.pick (t_ 87) (t_ 91) (.const (.bool false)))])
 (.cond (t_ 92) (.seq (.region 0 [
 o_ 2 (.mov (.const (.int .i64 6)))])
 .ret) .skip))
def b1025_9:AC:=(.seq (.region 0 [
 o_ 93 (.load true 18 (t_ 1)),
 o_ 94 (.call 78 [(t_ 93)]),
 o_ 95 (.not (t_ 94)),
 m_ 96 95,
 g_ 97 (.load true 18 (t_ 1)) 96 false,
 g_ 98 (.call 79 [(t_ 97)]) 96 false,
 g_ 99 (.not (t_ 98)) 96 false,
 o_ 100 (.pick (t_ 96) (.const (.bool true)) (t_ 99))])
 (.cond (t_ 100) (.seq (.region 0 [
 o_ 2 (.mov (.const (.int .i64 1)))])
 .ret) .skip))
def b1025_10:AC:=(.region 0 [
 o_ 2 (.mov (.const (.int .i64 0)))])
def b1025_11:AC:=.ret
def b1025:AC:=(.seq b1025_0 (.seq b1025_1 (.seq b1025_2 (.seq b1025_3 (.seq b1025_4 (.seq b1025_5 (.seq b1025_6 (.seq b1025_7 (.seq b1025_8 (.seq b1025_9 (.seq b1025_10 b1025_11)))))))))))
def ir1025:AF:=⟨101,[(.tmp 2)],b1025⟩
theorem c1025:compF tt Tryz.f37=some ir1025:=by kernel_rfl
def b2038:AC:=(.seq (.region 3 [
 o_ 3 (.box 0 (t_ 0)),
 o_ 4 (.box 1 (t_ 1)),
 o_ 5 (.box 2 (t_ 2)),
 o_ 6 (.mov (.const (.bool false)))])
 (.seq (.region 2 [
 o_ 9 (.mkmap 0 ⟨true,[.s,(.i .i64)]⟩),
 o_ 7 (.zero 1 [(.v (.map none))]),
 s_ (.store 1 (t_ 7) (t_ 9))])
 (.seq (.region 1 [
 o_ 8 (.zero 0 [(.v .nilFunc)])])
 (.seq (.region 0 [
 o_ 10 (.mkfn 80 [(t_ 5),(t_ 3),(t_ 7),(t_ 8)]),
 s_ (.store 1 (t_ 8) (t_ 10))])
 (.seq (.region 0 [
 o_ 11 (.load false 1 (t_ 8)),
 o_ 12 (.load true 2 (t_ 4)),
 o_ 13 (.callv (t_ 11) [(t_ 12)]),
 m_ 6 13])
 .ret)))))
def ir2038:AF:=⟨14,[(.tmp 6)],b2038⟩
theorem c2038:compF tt Tryz.f38=some ir2038:=by kernel_rfl
def b2041:AC:=(.seq (.region 2 [
 o_ 2 (.box 0 (t_ 0)),
 o_ 3 (.box 1 (t_ 1)),
 o_ 4 (.mov (.const (.int .i64 0)))])
 (.seq (.dregion 1 [
 o_ 5 (.faddr 0 (t_ 2)),
 o_ 6 (.load false 1 (t_ 5)),
 o_ 7 (.faddr 0 (t_ 3)),
 o_ 8 (.load false 1 (t_ 7)),
 o_ 9 (.call 84 [(t_ 6),(t_ 8)]),
 o_ 10 (.faddr 1 (t_ 2)),
 o_ 11 (.load false 1 (t_ 10)),
 o_ 12 (.faddr 1 (t_ 3)),
 o_ 13 (.load false 1 (t_ 12)),
 o_ 14 (.call 85 [(t_ 11),(t_ 13)]),
 o_ 15 (.bsl 0 1 [(.v (.int .i64 0))] 2 [(0,(t_ 9)),(1,(t_ 14))]),
 o_ 16 (.call 83 [(t_ 15)]),
 m_ 4 16] [[],[0],[],[2],[1,3],[],[5],[],[7],[6,8,4],[4,9],[10,9],[11,11,0,1,2,3,4,5,6,7,8,9,10,11]])
 .ret))
def ir2041:AF:=⟨17,[(.tmp 4)],b2041⟩
theorem c2041:compF tt Tryz.f41=some ir2041:=by kernel_rfl
def b2043:AC:=(.seq (.region 1 [
 o_ 5 (.box 0 (t_ 0))])
 (.seq (.region 0 [
 o_ 8 (.load false 1 (t_ 1)),
 o_ 9 (.load true 2 (t_ 5)),
 o_ 10 (.call 17 [(t_ 8),(t_ 9)]),
 o_ 11 (.lenL (t_ 10)),
 o_ 12 (.mov (.const (.int .i64 0)))])
 (.block 0 (.loop (.seq (.region 0 [
 o_ 13 (.binI .lss .i64 (t_ 12) (t_ 11))])
 (.seq (.cond (t_ 13) .skip (.exit 0))
 (.seq (.block 1 (.seq (.region 1 [
 o_ 14 (.iaddr 2 (t_ 10) (t_ 12)),
 o_ 15 (.load true 2 (t_ 14)),
 o_ 7 (.zero 0 [(.v (.string ⟨#[]⟩)),(.v (.int .i64 0))]),
 s_ (.store 2 (t_ 7) (t_ 15))])
 (.seq (.region 0 [
 o_ 16 (.load false 1 (t_ 2)),
 o_ 17 (.load true 2 (t_ 7)),
 o_ 18 (.look ⟨true,[.s,(.i .i64)]⟩ (.c (.v (.bool false))) (t_ 16) (t_ 17) false),
 o_ 19 (.not (t_ 18))])
 (.cond (t_ 19) (.seq (.region 0 [
 o_ 20 (.load false 1 (t_ 2)),
 o_ 21 (.load true 2 (t_ 7)),
 s_ (.mapup ⟨true,[.s,(.i .i64)]⟩ (t_ 20) (t_ 21) (.const (.bool true)))])
 (.seq (.region 2 [
 o_ 22 (.load false 1 (t_ 3)),
 o_ 23 (.load true 2 (t_ 7)),
 o_ 24 (.bsl 0 2 [(.v (.string ⟨#[]⟩)),(.v (.int .i64 0))] 1 [(0,(t_ 23))]),
 o_ 25 (.app 1 2 24 (t_ 22) (t_ 24)),
 s_ (.store 1 (t_ 3) (t_ 25))])
 (.region 0 [
 o_ 26 (.load false 1 (t_ 4)),
 o_ 27 (.load true 2 (t_ 7)),
 o_ 28 (.callv (t_ 26) [(t_ 27)])]))) .skip))))
 (.region 0 [
 o_ 29 (.binI .add .i64 (t_ 12) (.const (.int .i64 1))),
 m_ 12 29]))))))))
def ir2043:AF:=⟨30,[],b2043⟩
theorem c2043:compF tt Tryz.f43=some ir2043:=by kernel_rfl
def b2044:AC:=(.seq (.region 1 [
 o_ 3 (.box 0 (t_ 1)),
 o_ 4 (.mov (.const (.slice none 0 0)))])
 (.seq (.region 0 [
 o_ 5 (.mov (.const (.slice none 0 0)))])
 (.seq (.seq (.region 0 [
 m_ 8 0,
 o_ 9 (.lenL (t_ 8)),
 o_ 10 (.mov (.const (.int .i64 0)))])
 (.block 0 (.loop (.seq (.region 0 [
 o_ 11 (.binI .lss .i64 (t_ 10) (t_ 9))])
 (.seq (.cond (t_ 11) .skip (.exit 0))
 (.seq (.block 1 (.seq (.region 1 [
 o_ 12 (.iaddr 8 (t_ 8) (t_ 10)),
 o_ 13 (.load true 8 (t_ 12)),
 o_ 7 (.zero 0 [(.v (.string ⟨#[]⟩)),(.v (.int .i64 0)),(.v (.string ⟨#[]⟩)),(.v (.int .i64 0)),(.v (.bool false)),(.v (.string ⟨#[]⟩)),(.v (.string ⟨#[]⟩)),(.v (.string ⟨#[]⟩))]),
 s_ (.store 8 (t_ 7) (t_ 13))])
 (.seq (.region 0 [
 o_ 14 (.faddr 2 (t_ 7)),
 o_ 15 (.load true 2 (t_ 14)),
 o_ 16 (.load true 2 (t_ 3)),
 o_ 17 (.eqA false [.s,(.i .i64)] (t_ 15) (t_ 16))])
 (.cond (t_ 17) (.region 2 [
 m_ 18 5,
 o_ 19 (.load true 8 (t_ 7)),
 o_ 20 (.bsl 0 8 [(.v (.string ⟨#[]⟩)),(.v (.int .i64 0)),(.v (.string ⟨#[]⟩)),(.v (.int .i64 0)),(.v (.bool false)),(.v (.string ⟨#[]⟩)),(.v (.string ⟨#[]⟩)),(.v (.string ⟨#[]⟩))] 1 [(0,(t_ 19))]),
 o_ 21 (.app 1 8 104 (t_ 18) (t_ 20)),
 m_ 5 21]) .skip))))
 (.region 0 [
 o_ 22 (.binI .add .i64 (t_ 10) (.const (.int .i64 1))),
 m_ 10 22])))))))
 (.seq (.region 0 [
 m_ 23 5,
 o_ 24 (.call 86 [(t_ 23),(.func 87)])])
 (.seq (.region 0 [
 m_ 25 5,
 m_ 4 25])
 .ret)))))
def ir2044:AF:=⟨26,[(.tmp 4)],b2044⟩
theorem c2044:compF tt Tryz.f44=some ir2044:=by kernel_rfl
def b526:AC:=(.seq (.region 0 [
 o_ 2 (.mov (.const (.bool false)))])
 (.seq (.seq (.region 0 [
 o_ 3 (.mov (.const (.int .i64 0)))])
 (.block 0 (.loop (.seq (.seq (.region 0 [
 m_ 5 3,
 m_ 6 0,
 o_ 7 (.lenS (t_ 6)),
 o_ 8 (.binI .lss .i64 (t_ 5) (t_ 7))])
 (.cond (t_ 8) .skip (.exit 0)))
 (.seq (.block 1 (.seq (.region 0 [
 m_ 11 0,
 m_ 12 3,
 o_ 13 (.index (t_ 11) (t_ 12)),
 o_ 14 (.binI .geq .u8 (t_ 13) (.const (.int .u8 97))),
 m_ 15 14,
 g_ 16 (.mov (t_ 0)) 15 true,
 g_ 17 (.mov (t_ 3)) 15 true,
 g_ 18 (.index (t_ 16) (t_ 17)) 15 true,
 g_ 19 (.binI .leq .u8 (t_ 18) (.const (.int .u8 122))) 15 true,
 o_ 20 (.pick (t_ 15) (t_ 19) (.const (.bool false))),
 m_ 4 20])
 (.seq (.region 0 [
 m_ 21 4,
 o_ 22 (.not (t_ 21)),
 m_ 23 22,
 g_ 24 (.mov (t_ 3)) 23 true,
 g_ 25 (.binI .eql .i64 (t_ 24) (.const (.int .i64 0))) 23 true,
 g_ 26 (.mov (t_ 25)) 23 true,
 g_ 27 (.mov (t_ 0)) 26 false,
 g_ 28 (.mov (t_ 3)) 26 false,
 g_ 29 (.index (t_ 27) (t_ 28)) 26 false,
 g_ 30 (.binI .lss .u8 (t_ 29) (.const (.int .u8 48))) 26 false,
 g_ 31 (.pick (t_ 26) (.const (.bool true)) (t_ 30)) 23 true,
 g_ 32 (.mov (t_ 31)) 23 true,
 g_ 33 (.mov (t_ 0)) 32 false,
 g_ 34 (.mov (t_ 3)) 32 false,
 g_ 35 (.index (t_ 33) (t_ 34)) 32 false,
 g_ 36 (.binI .gtr .u8 (t_ 35) (.const (.int .u8 57))) 32 false,
 g_ 37 (.pick (t_ 32) (.const (.bool true)) (t_ 36)) 23 true,
 o_ 38 (.pick (t_ 23) (t_ 37) (.const (.bool false)))])
 (.cond (t_ 38) (.seq (.region 0 [
 o_ 2 (.mov (.const (.bool false)))])
 .ret) .skip))))
 (.region 0 [
 m_ 9 3,
 o_ 10 (.binI .add .i64 (t_ 9) (.const (.int .i64 1))),
 m_ 3 10]))))))
 (.seq (.region 0 [
 m_ 39 0,
 o_ 40 (.lenS (t_ 39)),
 o_ 41 (.binI .gtr .i64 (t_ 40) (.const (.int .i64 0))),
 m_ 42 41,
 g_ 43 (.mov (t_ 0)) 42 true,
 g_ 44 (.lenS (t_ 43)) 42 true,
 g_ 45 (.binI .leq .i64 (t_ 44) (.const (.int .i64 24))) 42 true,
 o_ 46 (.pick (t_ 42) (t_ 45) (.const (.bool false))),
 m_ 2 46])
 .ret)))
def ir526:AF:=⟨47,[(.tmp 2)],b526⟩
theorem c526:compF tt Tryz.f46=some ir526:=by kernel_rfl
def b2047:AC:=(.seq (.region 2 [
 o_ 2 (.box 0 (t_ 0)),
 o_ 3 (.box 1 (t_ 1)),
 o_ 4 (.mov (.const (.bool false)))])
 (.seq (.seq (.region 0 [
 o_ 5 (.faddr 0 (t_ 2)),
 o_ 6 (.load false 1 (t_ 5)),
 o_ 7 (.faddr 0 (t_ 3)),
 o_ 8 (.load false 1 (t_ 7)),
 o_ 9 (.binS .neq (t_ 6) (t_ 8))])
 (.cond (t_ 9) (.seq (.region 0 [
 o_ 10 (.faddr 0 (t_ 2)),
 o_ 11 (.load false 1 (t_ 10)),
 o_ 12 (.faddr 0 (t_ 3)),
 o_ 13 (.load false 1 (t_ 12)),
 o_ 14 (.binS .lss (t_ 11) (t_ 13)),
 m_ 4 14])
 .ret) .skip))
 (.seq (.region 0 [
 o_ 15 (.faddr 1 (t_ 2)),
 o_ 16 (.load false 1 (t_ 15)),
 o_ 17 (.faddr 1 (t_ 3)),
 o_ 18 (.load false 1 (t_ 17)),
 o_ 19 (.binI .lss .i64 (t_ 16) (t_ 18)),
 m_ 4 19])
 .ret)))
def ir2047:AF:=⟨20,[(.tmp 4)],b2047⟩
theorem c2047:compF tt Tryz.f47=some ir2047:=by kernel_rfl
def b2048:AC:=(.seq (.region 2 [
 o_ 4 (.box 0 (t_ 1)),
 o_ 5 (.box 1 (t_ 2)),
 o_ 6 (.mov (.const (.bool false)))])
 (.seq (.seq (.region 0 [
 o_ 7 (.mov (.const (.int .i64 0)))])
 (.block 0 (.loop (.seq (.seq (.region 0 [
 m_ 9 7,
 m_ 10 0,
 o_ 11 (.lenL (t_ 10)),
 o_ 12 (.binI .leq .i64 (t_ 9) (t_ 11))])
 (.cond (t_ 12) .skip (.exit 0)))
 (.seq (.block 1 (.seq (.seq (.region 0 [
 o_ 15 (.load true 2 (t_ 4)),
 o_ 16 (.load true 2 (t_ 5)),
 o_ 17 (.eqA false [.s,(.i .i64)] (t_ 15) (t_ 16))])
 (.cond (t_ 17) (.seq (.region 0 [
 o_ 6 (.mov (.const (.bool true)))])
 .ret) .skip))
 (.seq (.region 0 [
 m_ 18 0,
 o_ 19 (.load true 2 (t_ 4)),
 o_ 20 (.call 20 [(t_ 18),(t_ 19)]),
 m_ 8 20])
 (.seq (.seq (.region 0 [
 m_ 21 8,
 o_ 22 (.binI .lss .i64 (t_ 21) (.const (.int .i64 0)))])
 (.cond (t_ 22) (.seq (.region 0 [
 o_ 6 (.mov (.const (.bool false)))])
 .ret) .skip))
 (.region 0 [
 m_ 23 0,
 m_ 24 8,
 o_ 25 (.iaddr 8 (t_ 23) (t_ 24)),
 o_ 26 (.faddr 2 (t_ 25)),
 o_ 27 (.load true 2 (t_ 26)),
 s_ (.store 2 (t_ 4) (t_ 27))])))))
 (.region 0 [
 m_ 13 7,
 o_ 14 (.binI .add .i64 (t_ 13) (.const (.int .i64 1))),
 m_ 7 14]))))))
 (.seq (.region 0 [
 o_ 6 (.mov (.const (.bool false)))])
 .ret)))
def ir2048:AF:=⟨28,[(.tmp 6)],b2048⟩
theorem c2048:compF tt Tryz.f48=some ir2048:=by kernel_rfl
def b2049:AC:=(.seq (.region 1 [
 o_ 0 (.zero 0 [(.v (.string ⟨#[]⟩)),(.v (.int .i64 0))])])
 (.seq (.region 0 [
 o_ 1 (.build [(.v (.string ⟨#[]⟩)),(.v (.int .i64 0))] [(0,(1,(.const (.string ⟨#[45]⟩))))]),
 s_ (.store 2 (t_ 0) (t_ 1))])
 .ret))
def ir2049:AF:=⟨2,[(.cell 0 true 2)],b2049⟩
theorem c2049:compF tt Tryz.f49=some ir2049:=by kernel_rfl
def b1090:AC:=(.seq (.region 2 [
 o_ 1 (.box 0 (t_ 0)),
 o_ 2 (.zero 1 [(.v (.bool false)),(.v (.string ⟨#[]⟩)),(.v (.string ⟨#[]⟩))])])
 (.seq (.dregion 1 [
 o_ 6 (.load true 3 (t_ 1)),
 o_ 7 (.call 90 [(t_ 6)]),
 o_ 8 (.load true 3 (t_ 1)),
 o_ 9 (.call 91 [(t_ 8)]),
 o_ 10 (.call 89 [(t_ 7),(t_ 9)]),
 m_ 5 10,
 o_ 11 (.ext (t_ 5) 0),
 o_ 12 (.ext (t_ 5) 1),
 o_ 3 (.zero 0 [(.v (.bool false)),(.v (.string ⟨#[]⟩)),(.v (.string ⟨#[]⟩))]),
 s_ (.store 3 (t_ 3) (t_ 11)),
 m_ 4 12] [[],[0],[],[2,1],[1,3,3],[4],[5],[5],[],[8,6,4,0,1,2,3,4,5,6,8],[7,9,0,1,2,3,4,5,6,7,8,9]])
 (.seq (.region 0 [
 o_ 13 (.load true 3 (t_ 3)),
 s_ (.store 3 (t_ 2) (t_ 13))])
 .ret)))
def ir1090:AF:=⟨14,[(.cell 2 true 3)],b1090⟩
theorem c1090:compF tt Tryz.f50=some ir1090:=by kernel_rfl
def b2051:AC:=(.seq (.region 3 [
 o_ 2 (.box 0 (t_ 0)),
 o_ 3 (.box 1 (t_ 1)),
 o_ 4 (.zero 2 [(.v (.bool false)),(.v (.string ⟨#[]⟩)),(.v (.string ⟨#[]⟩))])])
 (.seq (.dregion 0 [
 o_ 5 (.load true 3 (t_ 2)),
 o_ 6 (.load true 3 (t_ 3)),
 o_ 7 (.call 30 [(t_ 6)]),
 o_ 8 (.call 53 [(t_ 5),(t_ 7)]),
 s_ (.store 3 (t_ 4) (t_ 8))] [[],[],[1],[0,2,2],[3,3,0,1,2,3]])
 .ret))
def ir2051:AF:=⟨9,[(.cell 4 true 3)],b2051⟩
theorem c2051:compF tt Tryz.f51=some ir2051:=by kernel_rfl
def b2052:AC:=(.seq (.region 1 [
 o_ 0 (.zero 0 [(.v (.bool false)),(.v (.string ⟨#[]⟩)),(.v (.string ⟨#[]⟩))])])
 (.seq (.region 0 [
 o_ 1 (.call 28 [(.const (.int .i64 1))]),
 s_ (.store 3 (t_ 0) (t_ 1))])
 .ret))
def ir2052:AF:=⟨2,[(.cell 0 true 3)],b2052⟩
theorem c2052:compF tt Tryz.f52=some ir2052:=by kernel_rfl
def b2053:AC:=(.seq (.region 3 [
 o_ 2 (.box 0 (t_ 0)),
 o_ 3 (.box 1 (t_ 1)),
 o_ 4 (.zero 2 [(.v (.bool false)),(.v (.string ⟨#[]⟩)),(.v (.string ⟨#[]⟩))])])
 (.seq (.region 2 [
 o_ 10 (.load true 3 (t_ 2)),
 o_ 11 (.call 61 [(t_ 10)]),
 m_ 9 11,
 o_ 12 (.ext (t_ 9) 0),
 o_ 13 (.ext (t_ 9) 1),
 o_ 5 (.zero 0 [(.v (.bool false)),(.v (.string ⟨#[]⟩))]),
 o_ 6 (.zero 1 [(.v (.bool false)),(.v (.string ⟨#[]⟩))]),
 s_ (.store 2 (t_ 5) (t_ 12)),
 s_ (.store 2 (t_ 6) (t_ 13))])
 (.seq (.region 2 [
 o_ 15 (.load true 3 (t_ 3)),
 o_ 16 (.call 61 [(t_ 15)]),
 m_ 14 16,
 o_ 17 (.ext (t_ 14) 0),
 o_ 18 (.ext (t_ 14) 1),
 o_ 7 (.zero 0 [(.v (.bool false)),(.v (.string ⟨#[]⟩))]),
 o_ 8 (.zero 1 [(.v (.bool false)),(.v (.string ⟨#[]⟩))]),
 s_ (.store 2 (t_ 7) (t_ 17)),
 s_ (.store 2 (t_ 8) (t_ 18))])
 (.seq (.dregion 0 [
 o_ 19 (.load true 2 (t_ 5)),
 o_ 20 (.load true 2 (t_ 8)),
 o_ 21 (.call 63 [(t_ 19),(t_ 20)]),
 o_ 22 (.load true 2 (t_ 7)),
 o_ 23 (.load true 2 (t_ 6)),
 o_ 24 (.call 63 [(t_ 22),(t_ 23)]),
 o_ 25 (.call 31 [(t_ 21),(t_ 24)]),
 o_ 26 (.load true 2 (t_ 6)),
 o_ 27 (.load true 2 (t_ 8)),
 o_ 28 (.call 63 [(t_ 26),(t_ 27)]),
 o_ 29 (.call 64 [(t_ 25),(t_ 28)]),
 s_ (.store 3 (t_ 4) (t_ 29))] [[],[],[0,1],[],[],[3,4,2],[2,5,5],[],[],[7,8,6],[6,9,9],[10,10,0,1,2,3,4,5,6,7,8,9,10]])
 .ret))))
def ir2053:AF:=⟨30,[(.cell 4 true 3)],b2053⟩
theorem c2053:compF tt Tryz.f53=some ir2053:=by kernel_rfl
def b1093:AC:=(.seq (.region 2 [
 o_ 1 (.box 0 (t_ 0)),
 o_ 2 (.zero 1 [(.v (.bool false)),(.v (.string ⟨#[]⟩)),(.v (.string ⟨#[]⟩))])])
 (.seq (.region 0 [
 o_ 3 (.load true 3 (t_ 1)),
 o_ 4 (.call 61 [(t_ 3)]),
 o_ 5 (.ext (t_ 4) 0),
 o_ 6 (.ext (t_ 4) 1),
 o_ 7 (.call 64 [(t_ 5),(t_ 6)]),
 s_ (.store 3 (t_ 2) (t_ 7))])
 .ret))
def ir1093:AF:=⟨8,[(.cell 2 true 3)],b1093⟩
theorem c1093:compF tt Tryz.f54=some ir1093:=by kernel_rfl
def b2055:AC:=(.seq (.region 3 [
 o_ 2 (.box 0 (t_ 0)),
 o_ 3 (.box 1 (t_ 1)),
 o_ 4 (.zero 2 [(.v (.bool false)),(.v (.string ⟨#[]⟩)),(.v (.string ⟨#[]⟩))])])
 (.seq (.block 0 (.seq (.region 0 [
 o_ 6 (.load true 3 (t_ 2)),
 o_ 7 (.call 29 [(t_ 6)]),
 o_ 8 (.binI .lss .i64 (t_ 7) (.const (.int .i64 0))),
 m_ 9 8,
 g_ 10 (.load true 3 (t_ 3)) 9 true,
 g_ 11 (.call 29 [(t_ 10)]) 9 true,
 g_ 12 (.binI .gtr .i64 (t_ 11) (.const (.int .i64 0))) 9 true,
 o_ 13 (.pick (t_ 9) (t_ 12) (.const (.bool false))),
 m_ 5 13])
 (.cond (t_ 5) (.seq (.region 0 [
 o_ 14 (.build [(.v (.bool false)),(.v (.string ⟨#[]⟩)),(.v (.string ⟨#[]⟩))] []),
 s_ (.store 3 (t_ 4) (t_ 14))])
 .ret) (.seq (.region 0 [
 o_ 16 (.load true 3 (t_ 3)),
 o_ 17 (.call 29 [(t_ 16)]),
 o_ 18 (.binI .leq .i64 (t_ 17) (.const (.int .i64 0))),
 m_ 15 18])
 (.cond (t_ 15) (.seq (.dregion 0 [
 o_ 19 (.load true 3 (t_ 3)),
 o_ 20 (.call 30 [(t_ 19)]),
 o_ 21 (.load true 3 (t_ 2)),
 o_ 22 (.call 30 [(t_ 21)]),
 o_ 23 (.call 92 [(t_ 20),(t_ 22),(.const (.bool true))]),
 o_ 24 (.call 30 [(t_ 23)]),
 s_ (.store 3 (t_ 4) (t_ 24))] [[],[0],[],[2,1],[1,3,3],[4,4],[5,5,0,1,2,3,4,5]])
 .ret) .skip)))))
 (.seq (.region 0 [
 o_ 25 (.load true 3 (t_ 2)),
 o_ 26 (.load true 3 (t_ 3)),
 o_ 27 (.call 92 [(t_ 25),(t_ 26),(.const (.bool true))]),
 s_ (.store 3 (t_ 4) (t_ 27))])
 .ret)))
def ir2055:AF:=⟨28,[(.cell 4 true 3)],b2055⟩
theorem c2055:compF tt Tryz.f55=some ir2055:=by kernel_rfl
def b1104:AC:=(.seq (.region 3 [
 o_ 1 (.box 0 (t_ 0)),
 o_ 2 (.zero 1 [(.v (.bool false)),(.v (.string ⟨#[]⟩))]),
 o_ 3 (.zero 2 [(.v (.bool false)),(.v (.string ⟨#[]⟩))])])
 (.seq (.region 1 [
 o_ 5 (.faddr 2 (t_ 1)),
 o_ 6 (.load false 1 (t_ 5)),
 o_ 7 (.call 101 [(t_ 6)]),
 o_ 8 (.build [(.v (.bool false)),(.v (.string ⟨#[]⟩))] [(1,(1,(t_ 7)))]),
 o_ 4 (.zero 0 [(.v (.bool false)),(.v (.string ⟨#[]⟩))]),
 s_ (.store 2 (t_ 4) (t_ 8))])
 (.seq (.seq (.region 0 [
 o_ 9 (.faddr 1 (t_ 4)),
 o_ 10 (.load false 1 (t_ 9)),
 o_ 11 (.binS .eql (t_ 10) (.const (.string ⟨#[]⟩)))])
 (.cond (t_ 11) (.region 0 [
 o_ 12 (.call 34 [(.const (.int .i64 1))]),
 s_ (.store 2 (t_ 4) (t_ 12))]) .skip))
 (.seq (.dregion 0 [
 o_ 13 (.faddr 0 (t_ 1)),
 o_ 14 (.load false 1 (t_ 13)),
 o_ 15 (.faddr 1 (t_ 1)),
 o_ 16 (.load false 1 (t_ 15)),
 o_ 17 (.build [(.v (.bool false)),(.v (.string ⟨#[]⟩))] [(0,(1,(t_ 14))),(1,(1,(t_ 16)))]),
 o_ 18 (.call 67 [(t_ 17)]),
 o_ 19 (.load true 2 (t_ 4)),
 s_ (.store 2 (t_ 2) (t_ 18)),
 s_ (.store 2 (t_ 3) (t_ 19))] [[],[0],[],[2],[1,3],[4],[],[5,5,0,1,2,3,4,5],[6,7,0,1,2,3,4,5,6,7]])
 .ret))))
def ir1104:AF:=⟨20,[(.cell 2 true 2),(.cell 3 true 2)],b1104⟩
theorem c1104:compF tt Tryz.f61=some ir1104:=by kernel_rfl
def b2062:AC:=(.seq (.region 2 [
 o_ 2 (.box 0 (t_ 0)),
 o_ 3 (.box 1 (t_ 1)),
 o_ 4 (.mov (.const (.int .i64 0)))])
 (.seq (.region 0 [
 o_ 5 (.load true 2 (t_ 2)),
 o_ 6 (.load true 2 (t_ 3)),
 o_ 7 (.call 102 [(t_ 5),(t_ 6)]),
 o_ 8 (.call 65 [(t_ 7)]),
 m_ 4 8])
 .ret))
def ir2062:AF:=⟨9,[(.tmp 4)],b2062⟩
theorem c2062:compF tt Tryz.f62=some ir2062:=by kernel_rfl
def b2063:AC:=(.seq (.region 3 [
 o_ 2 (.box 0 (t_ 0)),
 o_ 3 (.box 1 (t_ 1)),
 o_ 4 (.zero 2 [(.v (.bool false)),(.v (.string ⟨#[]⟩))])])
 (.seq (.dregion 0 [
 o_ 5 (.load true 2 (t_ 2)),
 o_ 6 (.call 67 [(t_ 5)]),
 o_ 7 (.load true 2 (t_ 3)),
 o_ 8 (.call 67 [(t_ 7)]),
 s_ (.store 2 (t_ 2) (t_ 6)),
 s_ (.store 2 (t_ 3) (t_ 8))] [[],[0],[],[2,1],[1,3,0,1],[3,4,0,1,2,3,4]])
 (.seq (.dregion 0 [
 o_ 9 (.faddr 0 (t_ 2)),
 o_ 10 (.load false 1 (t_ 9)),
 o_ 11 (.faddr 0 (t_ 3)),
 o_ 12 (.load false 1 (t_ 11)),
 o_ 13 (.eqB true (t_ 10) (t_ 12)),
 o_ 14 (.faddr 1 (t_ 2)),
 o_ 15 (.load false 1 (t_ 14)),
 o_ 16 (.faddr 1 (t_ 3)),
 o_ 17 (.load false 1 (t_ 16)),
 o_ 18 (.call 103 [(t_ 15),(t_ 17)]),
 o_ 19 (.call 68 [(t_ 13),(t_ 18)]),
 s_ (.store 2 (t_ 4) (t_ 19))] [[],[0],[],[2],[1,3],[],[5],[],[7],[6,8],[4,9,9],[10,10,0,1,2,3,4,5,6,7,8,9,10]])
 .ret)))
def ir2063:AF:=⟨20,[(.cell 4 true 2)],b2063⟩
theorem c2063:compF tt Tryz.f63=some ir2063:=by kernel_rfl
def b1103:AC:=(.seq (.region 3 [
 o_ 2 (.box 0 (t_ 0)),
 o_ 3 (.box 1 (t_ 1)),
 o_ 4 (.zero 2 [(.v (.bool false)),(.v (.string ⟨#[]⟩)),(.v (.string ⟨#[]⟩))])])
 (.seq (.region 1 [
 o_ 8 (.load true 2 (t_ 2)),
 o_ 9 (.load true 2 (t_ 3)),
 o_ 10 (.call 35 [(t_ 8),(t_ 9)]),
 m_ 7 10,
 o_ 11 (.ext (t_ 7) 0),
 o_ 12 (.ext (t_ 7) 1),
 o_ 5 (.zero 0 [(.v (.bool false)),(.v (.string ⟨#[]⟩)),(.v (.string ⟨#[]⟩))]),
 s_ (.store 3 (t_ 5) (t_ 11)),
 m_ 6 12])
 (.seq (.region 0 [
 o_ 13 (.load true 3 (t_ 5)),
 s_ (.store 3 (t_ 4) (t_ 13))])
 .ret)))
def ir1103:AF:=⟨14,[(.cell 4 true 3)],b1103⟩
theorem c1103:compF tt Tryz.f64=some ir1103:=by kernel_rfl
def b1136:AC:=(.seq (.region 1 [
 o_ 1 (.box 0 (t_ 0)),
 o_ 2 (.mov (.const (.int .i64 0)))])
 (.seq (.seq (.region 0 [
 o_ 3 (.load true 2 (t_ 1)),
 o_ 4 (.call 67 [(t_ 3)]),
 s_ (.store 2 (t_ 1) (t_ 4))])
 (.block 0 (.seq (.region 0 [
 o_ 6 (.faddr 0 (t_ 1)),
 o_ 7 (.load false 1 (t_ 6)),
 m_ 5 7])
 (.cond (t_ 5) (.seq (.region 0 [
 o_ 2 (.mov (.const (.int .i64 (-1))))])
 .ret) (.seq (.region 0 [
 o_ 9 (.faddr 1 (t_ 1)),
 o_ 10 (.load false 1 (t_ 9)),
 o_ 11 (.binS .neq (t_ 10) (.const (.string ⟨#[]⟩))),
 m_ 8 11])
 (.cond (t_ 8) (.seq (.region 0 [
 o_ 2 (.mov (.const (.int .i64 1)))])
 .ret) .skip))))))
 (.seq (.region 0 [
 o_ 2 (.mov (.const (.int .i64 0)))])
 .ret)))
def ir1136:AF:=⟨12,[(.tmp 2)],b1136⟩
theorem c1136:compF tt Tryz.f65=some ir1136:=by kernel_rfl
def b2066:AC:=(.seq (.region 2 [
 o_ 1 (.box 0 (t_ 0)),
 o_ 2 (.zero 1 [(.v (.bool false)),(.v (.string ⟨#[]⟩))])])
 (.seq (.region 0 [
 o_ 3 (.load true 2 (t_ 1)),
 o_ 4 (.call 67 [(t_ 3)]),
 s_ (.store 2 (t_ 1) (t_ 4))])
 (.seq (.region 0 [
 o_ 5 (.faddr 0 (t_ 1)),
 o_ 6 (.load false 1 (t_ 5)),
 o_ 7 (.not (t_ 6)),
 o_ 8 (.faddr 1 (t_ 1)),
 o_ 9 (.load false 1 (t_ 8)),
 o_ 10 (.call 68 [(t_ 7),(t_ 9)]),
 s_ (.store 2 (t_ 2) (t_ 10))])
 .ret)))
def ir2066:AF:=⟨11,[(.cell 2 true 2)],b2066⟩
theorem c2066:compF tt Tryz.f66=some ir2066:=by kernel_rfl
def b1121:AC:=(.seq (.region 2 [
 o_ 1 (.box 0 (t_ 0)),
 o_ 2 (.zero 1 [(.v (.bool false)),(.v (.string ⟨#[]⟩))])])
 (.seq (.dregion 0 [
 o_ 3 (.faddr 0 (t_ 1)),
 o_ 4 (.load false 1 (t_ 3)),
 o_ 5 (.faddr 1 (t_ 1)),
 o_ 6 (.load false 1 (t_ 5)),
 o_ 7 (.call 101 [(t_ 6)]),
 o_ 8 (.call 68 [(t_ 4),(t_ 7)]),
 s_ (.store 2 (t_ 2) (t_ 8))] [[],[0],[],[2],[3],[1,4,4],[5,5,0,1,2,3,4,5]])
 .ret))
def ir1121:AF:=⟨9,[(.cell 2 true 2)],b1121⟩
theorem c1121:compF tt Tryz.f67=some ir1121:=by kernel_rfl
def b1141:AC:=(.seq (.region 1 [
 o_ 4 (.zero 0 [(.v (.bool false)),(.v (.string ⟨#[]⟩))])])
 (.seq (.region 0 [
 m_ 5 0,
 m_ 6 5,
 g_ 7 (.mov (t_ 1)) 6 true,
 g_ 8 (.binS .neq (t_ 7) (.const (.string ⟨#[]⟩))) 6 true,
 o_ 9 (.pick (t_ 6) (t_ 8) (.const (.bool false))),
 m_ 10 1,
 o_ 11 (.build [(.v (.bool false)),(.v (.string ⟨#[]⟩))] [(0,(1,(t_ 9))),(1,(1,(t_ 10)))]),
 s_ (.store 2 (t_ 4) (t_ 11))])
 .ret))
def ir1141:AF:=⟨12,[(.cell 4 true 2)],b1141⟩
theorem c1141:compF tt Tryz.f68=some ir1141:=by kernel_rfl
def b2069:AC:=(.seq (.region 0 [
 o_ 4 (.mov (.const (.string ⟨#[]⟩)))])
 (.seq (.region 0 [
 m_ 11 0,
 o_ 12 (.call 104 [(t_ 11)]),
 m_ 13 1,
 o_ 14 (.call 104 [(t_ 13)]),
 m_ 5 12,
 m_ 6 14])
 (.seq (.seq (.region 0 [
 m_ 15 5,
 o_ 16 (.lenL (t_ 15)),
 m_ 17 6,
 o_ 18 (.lenL (t_ 17)),
 o_ 19 (.binI .lss .i64 (t_ 16) (t_ 18))])
 (.cond (t_ 19) (.region 0 [
 m_ 20 6,
 m_ 21 5,
 m_ 5 20,
 m_ 6 21]) .skip))
 (.seq (.region 1 [
 m_ 22 5,
 o_ 23 (.lenL (t_ 22)),
 o_ 24 (.binI .add .i64 (t_ 23) (.const (.int .i64 1))),
 o_ 25 (.mksl 0 1 4 [(.v (.int .u32 0))] (t_ 24) (t_ 24)),
 m_ 7 25])
 (.seq (.region 0 [
 o_ 8 (.mov (.const (.int .u32 0)))])
 (.seq (.seq (.region 0 [
 m_ 26 5,
 o_ 27 (.lenL (t_ 26)),
 o_ 28 (.mov (.const (.int .i64 0)))])
 (.block 0 (.loop (.seq (.region 0 [
 o_ 29 (.binI .lss .i64 (t_ 28) (t_ 27))])
 (.seq (.cond (t_ 29) .skip (.exit 0))
 (.seq (.block 1 (.seq (.region 0 [
 m_ 30 28,
 m_ 9 30])
 (.seq (.region 0 [
 o_ 10 (.mov (.const (.int .u32 0)))])
 (.seq (.seq (.region 0 [
 m_ 31 9,
 m_ 32 6,
 o_ 33 (.lenL (t_ 32)),
 o_ 34 (.binI .lss .i64 (t_ 31) (t_ 33))])
 (.cond (t_ 34) (.region 0 [
 m_ 35 6,
 m_ 36 9,
 o_ 37 (.iaddr 1 (t_ 35) (t_ 36)),
 o_ 38 (.load false 1 (t_ 37)),
 m_ 10 38]) .skip))
 (.region 0 [
 m_ 40 7,
 m_ 41 9,
 m_ 42 5,
 m_ 43 9,
 o_ 44 (.iaddr 1 (t_ 42) (t_ 43)),
 o_ 45 (.load false 1 (t_ 44)),
 m_ 46 10,
 m_ 47 8,
 o_ 48 (.call 105 [(t_ 45),(t_ 46),(t_ 47)]),
 m_ 39 48,
 o_ 49 (.ext (t_ 39) 0),
 o_ 50 (.ext (t_ 39) 1),
 o_ 51 (.iaddr 1 (t_ 40) (t_ 41)),
 s_ (.store 1 (t_ 51) (t_ 49)),
 m_ 8 50])))))
 (.region 0 [
 o_ 52 (.binI .add .i64 (t_ 28) (.const (.int .i64 1))),
 m_ 28 52])))))))
 (.seq (.region 0 [
 m_ 53 7,
 m_ 54 5,
 o_ 55 (.lenL (t_ 54)),
 m_ 56 8,
 o_ 57 (.iaddr 1 (t_ 53) (t_ 55)),
 s_ (.store 1 (t_ 57) (t_ 56))])
 (.seq (.region 0 [
 m_ 58 7,
 o_ 59 (.call 106 [(t_ 58)]),
 m_ 4 59])
 .ret))))))))
def ir2069:AF:=⟨60,[(.tmp 4)],b2069⟩
theorem c2069:compF tt Tryz.f69=some ir2069:=by kernel_rfl
def b2070:AC:=(.seq (.region 0 [
 o_ 4 (.mov (.const (.string ⟨#[]⟩))),
 o_ 5 (.mov (.const (.bool false)))])
 (.seq (.seq (.region 0 [
 m_ 12 0,
 m_ 13 1,
 o_ 14 (.call 107 [(t_ 12),(t_ 13)]),
 o_ 15 (.binI .lss .i64 (t_ 14) (.const (.int .i64 0)))])
 (.cond (t_ 15) (.seq (.region 0 [
 o_ 4 (.mov (.const (.string ⟨#[]⟩))),
 o_ 5 (.mov (.const (.bool false)))])
 .ret) .skip))
 (.seq (.region 0 [
 m_ 16 0,
 o_ 17 (.call 104 [(t_ 16)]),
 m_ 18 1,
 o_ 19 (.call 104 [(t_ 18)]),
 m_ 6 17,
 m_ 7 19])
 (.seq (.region 1 [
 m_ 20 6,
 o_ 21 (.lenL (t_ 20)),
 o_ 22 (.mksl 0 1 4 [(.v (.int .u32 0))] (t_ 21) (t_ 21)),
 m_ 8 22])
 (.seq (.region 0 [
 o_ 9 (.mov (.const (.int .u32 0)))])
 (.seq (.seq (.region 0 [
 m_ 23 6,
 o_ 24 (.lenL (t_ 23)),
 o_ 25 (.mov (.const (.int .i64 0)))])
 (.block 0 (.loop (.seq (.region 0 [
 o_ 26 (.binI .lss .i64 (t_ 25) (t_ 24))])
 (.seq (.cond (t_ 26) .skip (.exit 0))
 (.seq (.block 1 (.seq (.region 0 [
 m_ 27 25,
 m_ 10 27])
 (.seq (.region 0 [
 o_ 11 (.mov (.const (.int .u32 0)))])
 (.seq (.seq (.region 0 [
 m_ 28 10,
 m_ 29 7,
 o_ 30 (.lenL (t_ 29)),
 o_ 31 (.binI .lss .i64 (t_ 28) (t_ 30))])
 (.cond (t_ 31) (.region 0 [
 m_ 32 7,
 m_ 33 10,
 o_ 34 (.iaddr 1 (t_ 32) (t_ 33)),
 o_ 35 (.load false 1 (t_ 34)),
 m_ 11 35]) .skip))
 (.region 0 [
 m_ 37 8,
 m_ 38 10,
 m_ 39 6,
 m_ 40 10,
 o_ 41 (.iaddr 1 (t_ 39) (t_ 40)),
 o_ 42 (.load false 1 (t_ 41)),
 m_ 43 11,
 m_ 44 9,
 o_ 45 (.call 108 [(t_ 42),(t_ 43),(t_ 44)]),
 m_ 36 45,
 o_ 46 (.ext (t_ 36) 0),
 o_ 47 (.ext (t_ 36) 1),
 o_ 48 (.iaddr 1 (t_ 37) (t_ 38)),
 s_ (.store 1 (t_ 48) (t_ 46)),
 m_ 9 47])))))
 (.region 0 [
 o_ 49 (.binI .add .i64 (t_ 25) (.const (.int .i64 1))),
 m_ 25 49])))))))
 (.seq (.region 0 [
 m_ 50 8,
 o_ 51 (.call 106 [(t_ 50)]),
 m_ 4 51,
 o_ 5 (.mov (.const (.bool true)))])
 .ret)))))))
def ir2070:AF:=⟨52,[(.tmp 4),(.tmp 5)],b2070⟩
theorem c2070:compF tt Tryz.f70=some ir2070:=by kernel_rfl
def b2071:AC:=(.seq (.region 4 [
 o_ 2 (.box 0 (t_ 0)),
 o_ 3 (.box 1 (t_ 1)),
 o_ 4 (.zero 2 [(.v (.bool false)),(.v (.string ⟨#[]⟩))]),
 o_ 5 (.zero 3 [(.v (.bool false)),(.v (.string ⟨#[]⟩))]),
 o_ 6 (.mov (.const (.bool false)))])
 (.seq (.dregion 0 [
 o_ 10 (.load true 2 (t_ 2)),
 o_ 11 (.call 67 [(t_ 10)]),
 o_ 12 (.load true 2 (t_ 3)),
 o_ 13 (.call 67 [(t_ 12)]),
 s_ (.store 2 (t_ 2) (t_ 11)),
 s_ (.store 2 (t_ 3) (t_ 13))] [[],[0],[],[2,1],[1,3,0,1],[3,4,0,1,2,3,4]])
 (.seq (.region 0 [
 o_ 15 (.faddr 1 (t_ 2)),
 o_ 16 (.load false 1 (t_ 15)),
 o_ 17 (.faddr 1 (t_ 3)),
 o_ 18 (.load false 1 (t_ 17)),
 o_ 19 (.call 75 [(t_ 16),(t_ 18)]),
 m_ 14 19,
 o_ 20 (.ext (t_ 14) 0),
 o_ 21 (.ext (t_ 14) 1),
 o_ 22 (.ext (t_ 14) 2),
 m_ 7 20,
 m_ 8 21,
 m_ 9 22])
 (.seq (.seq (.region 0 [
 m_ 23 9,
 o_ 24 (.not (t_ 23))])
 (.cond (t_ 24) (.seq (.region 0 [
 o_ 25 (.build [(.v (.bool false)),(.v (.string ⟨#[]⟩))] []),
 o_ 26 (.build [(.v (.bool false)),(.v (.string ⟨#[]⟩))] []),
 s_ (.store 2 (t_ 4) (t_ 25)),
 s_ (.store 2 (t_ 5) (t_ 26)),
 o_ 6 (.mov (.const (.bool false)))])
 .ret) .skip))
 (.seq (.seq (.region 0 [
 o_ 27 (.faddr 0 (t_ 2)),
 o_ 28 (.load false 1 (t_ 27)),
 m_ 29 28,
 g_ 30 (.mov (t_ 8)) 29 true,
 g_ 31 (.binS .neq (t_ 30) (.const (.string ⟨#[]⟩))) 29 true,
 o_ 32 (.pick (t_ 29) (t_ 31) (.const (.bool false)))])
 (.cond (t_ 32) (.seq (.region 0 [
 m_ 33 7,
 o_ 34 (.call 72 [(.const (.int .u64 1))]),
 o_ 35 (.call 69 [(t_ 33),(t_ 34)]),
 m_ 7 35])
 (.region 0 [
 o_ 37 (.faddr 1 (t_ 3)),
 o_ 38 (.load false 1 (t_ 37)),
 o_ 39 (.call 101 [(t_ 38)]),
 m_ 40 8,
 o_ 41 (.call 70 [(t_ 39),(t_ 40)]),
 m_ 36 41,
 o_ 42 (.ext (t_ 36) 0),
 o_ 43 (.ext (t_ 36) 1),
 m_ 8 42])) .skip))
 (.seq (.region 0 [
 o_ 44 (.faddr 0 (t_ 2)),
 o_ 45 (.load false 1 (t_ 44)),
 o_ 46 (.faddr 0 (t_ 3)),
 o_ 47 (.load false 1 (t_ 46)),
 o_ 48 (.eqB true (t_ 45) (t_ 47)),
 m_ 49 7,
 o_ 50 (.call 68 [(t_ 48),(t_ 49)]),
 m_ 51 8,
 o_ 52 (.call 68 [(.const (.bool false)),(t_ 51)]),
 s_ (.store 2 (t_ 4) (t_ 50)),
 s_ (.store 2 (t_ 5) (t_ 52)),
 o_ 6 (.mov (.const (.bool true)))])
 .ret))))))
def ir2071:AF:=⟨53,[(.cell 4 true 2),(.cell 5 true 2),(.tmp 6)],b2071⟩
theorem c2071:compF tt Tryz.f71=some ir2071:=by kernel_rfl
def b1142:AC:=(.seq (.region 0 [
 o_ 2 (.mov (.const (.string ⟨#[]⟩)))])
 (.seq (.region 1 [
 m_ 3 0,
 o_ 4 (.conv .u32 (t_ 3)),
 m_ 5 0,
 o_ 6 (.shf .shr .u64 (t_ 5) (.const (.int .u64 32))),
 o_ 7 (.conv .u32 (t_ 6)),
 o_ 8 (.bsl 0 1 [(.v (.int .u32 0))] 2 [(0,(t_ 4)),(1,(t_ 7))]),
 o_ 9 (.call 106 [(t_ 8)]),
 m_ 2 9])
 .ret))
def ir1142:AF:=⟨10,[(.tmp 2)],b1142⟩
theorem c1142:compF tt Tryz.f72=some ir1142:=by kernel_rfl
def b1137:AC:=(.seq (.region 0 [
 o_ 4 (.mov (.const (.string ⟨#[]⟩)))])
 (.seq (.block 0 (.loop (.seq (.seq (.region 0 [
 m_ 12 1,
 o_ 13 (.call 101 [(t_ 12)]),
 o_ 14 (.binS .neq (t_ 13) (.const (.string ⟨#[]⟩)))])
 (.cond (t_ 14) .skip (.exit 0)))
 (.block 1 (.seq (.region 0 [
 m_ 16 0,
 o_ 17 (.call 109 [(t_ 16)]),
 m_ 15 17,
 o_ 18 (.ext (t_ 15) 0),
 o_ 19 (.ext (t_ 15) 1),
 m_ 5 18,
 m_ 6 19])
 (.seq (.region 0 [
 m_ 21 1,
 o_ 22 (.call 109 [(t_ 21)]),
 m_ 20 22,
 o_ 23 (.ext (t_ 20) 0),
 o_ 24 (.ext (t_ 20) 1),
 m_ 7 23,
 m_ 8 24])
 (.seq (.seq (.region 0 [
 m_ 25 6,
 m_ 26 25,
 g_ 27 (.mov (t_ 8)) 26 true,
 o_ 28 (.pick (t_ 26) (t_ 27) (.const (.bool false)))])
 (.cond (t_ 28) (.seq (.block 2 (.loop (.seq (.seq (.region 0 [
 m_ 29 7,
 o_ 30 (.binI .neq .u64 (t_ 29) (.const (.int .u64 0)))])
 (.cond (t_ 30) .skip (.exit 2)))
 (.block 3 (.dregion 0 [
 m_ 31 7,
 m_ 32 5,
 m_ 33 7,
 o_ 34 (.binI .rem .u64 (t_ 32) (t_ 33)),
 m_ 5 31,
 m_ 7 34] [[],[],[],[1,2],[0,0,1],[3,4,0,1,2,3,4]])))))
 (.seq (.region 0 [
 m_ 35 5,
 o_ 36 (.call 72 [(t_ 35)]),
 m_ 4 36])
 .ret)) .skip))
 (.seq (.region 0 [
 m_ 38 0,
 m_ 39 1,
 o_ 40 (.call 75 [(t_ 38),(t_ 39)]),
 m_ 37 40,
 o_ 41 (.ext (t_ 37) 0),
 o_ 42 (.ext (t_ 37) 1),
 o_ 43 (.ext (t_ 37) 2),
 m_ 9 41,
 m_ 10 42,
 m_ 11 43])
 (.region 0 [
 m_ 44 1,
 m_ 45 10,
 m_ 0 44,
 m_ 1 45])))))))))
 (.seq (.region 0 [
 m_ 46 0,
 o_ 47 (.call 101 [(t_ 46)]),
 m_ 4 47])
 .ret)))
def ir1137:AF:=⟨48,[(.tmp 4)],b1137⟩
theorem c1137:compF tt Tryz.f73=some ir1137:=by kernel_rfl
def b1138:AC:=(.seq (.region 0 [
 o_ 3 (.mov (.const (.string ⟨#[]⟩)))])
 (.seq (.region 0 [
 m_ 8 0,
 o_ 9 (.load false 1 (t_ 1)),
 o_ 10 (.call 75 [(t_ 8),(t_ 9)]),
 m_ 7 10,
 o_ 11 (.ext (t_ 7) 0),
 o_ 12 (.ext (t_ 7) 1),
 o_ 13 (.ext (t_ 7) 2),
 m_ 4 11,
 m_ 5 12,
 m_ 6 13])
 (.seq (.region 0 [
 m_ 14 4,
 m_ 3 14])
 .ret)))
def ir1138:AF:=⟨15,[(.tmp 3)],b1138⟩
theorem c1138:compF tt Tryz.f74=some ir1138:=by kernel_rfl
def b1139:AC:=(.seq (.region 0 [
 o_ 4 (.mov (.const (.string ⟨#[]⟩))),
 o_ 5 (.mov (.const (.string ⟨#[]⟩))),
 o_ 6 (.mov (.const (.bool false)))])
 (.seq (.region 0 [
 m_ 12 1,
 o_ 13 (.call 104 [(t_ 12)]),
 m_ 7 13])
 (.seq (.block 0 (.seq (.region 0 [
 m_ 15 7,
 o_ 16 (.lenL (t_ 15)),
 o_ 17 (.binI .eql .i64 (t_ 16) (.const (.int .i64 0))),
 m_ 14 17])
 (.cond (t_ 14) (.seq (.region 0 [
 o_ 4 (.mov (.const (.string ⟨#[]⟩))),
 o_ 5 (.mov (.const (.string ⟨#[]⟩))),
 o_ 6 (.mov (.const (.bool false)))])
 .ret) (.seq (.region 0 [
 m_ 19 0,
 m_ 20 1,
 o_ 21 (.call 107 [(t_ 19),(t_ 20)]),
 o_ 22 (.binI .lss .i64 (t_ 21) (.const (.int .i64 0))),
 m_ 18 22])
 (.cond (t_ 18) (.seq (.region 0 [
 m_ 23 0,
 o_ 24 (.call 101 [(t_ 23)]),
 o_ 4 (.mov (.const (.string ⟨#[]⟩))),
 m_ 5 24,
 o_ 6 (.mov (.const (.bool true)))])
 .ret) (.seq (.region 0 [
 m_ 26 7,
 o_ 27 (.lenL (t_ 26)),
 o_ 28 (.binI .eql .i64 (t_ 27) (.const (.int .i64 1))),
 m_ 25 28])
 (.cond (t_ 25) (.seq (.dregion 0 [
 m_ 30 0,
 o_ 31 (.call 104 [(t_ 30)]),
 m_ 32 7,
 o_ 33 (.iaddr 1 (t_ 32) (.const (.int .i64 0))),
 o_ 34 (.load false 1 (t_ 33)),
 o_ 35 (.call 110 [(t_ 31),(t_ 34)]),
 m_ 29 35,
 o_ 36 (.ext (t_ 29) 0),
 o_ 37 (.ext (t_ 29) 1),
 m_ 8 36,
 m_ 9 37] [[],[0],[],[2],[3],[1,4,1],[5],[6],[6],[7,5,0,1,2,3,4,5,6,7],[8,9,0,1,2,3,4,5,6,7,8,9]])
 (.seq (.region 0 [
 m_ 38 8,
 o_ 39 (.call 106 [(t_ 38)]),
 m_ 40 9,
 o_ 41 (.conv .u64 (t_ 40)),
 o_ 42 (.call 72 [(t_ 41)]),
 m_ 4 39,
 m_ 5 42,
 o_ 6 (.mov (.const (.bool true)))])
 .ret)) .skip)))))))
 (.seq (.region 0 [
 m_ 44 0,
 o_ 45 (.call 104 [(t_ 44)]),
 m_ 46 7,
 o_ 47 (.call 111 [(t_ 45),(t_ 46)]),
 m_ 43 47,
 o_ 48 (.ext (t_ 43) 0),
 o_ 49 (.ext (t_ 43) 1),
 m_ 10 48,
 m_ 11 49])
 (.seq (.region 0 [
 m_ 50 10,
 o_ 51 (.call 106 [(t_ 50)]),
 m_ 52 11,
 o_ 53 (.call 106 [(t_ 52)]),
 m_ 4 51,
 m_ 5 53,
 o_ 6 (.mov (.const (.bool true)))])
 .ret)))))
def ir1139:AF:=⟨54,[(.tmp 4),(.tmp 5),(.tmp 6)],b1139⟩
theorem c1139:compF tt Tryz.f75=some ir1139:=by kernel_rfl
def b528_0:AC:=(.region 0 [
 o_ 2 (.mov (.const (.int .i64 0)))])
def b528_1:AC:=(.seq (.region 0 [
 o_ 3 (.mov (.const (.int .i64 0)))])
 (.block 0 (.loop (.seq (.seq (.region 0 [
 m_ 4 3,
 m_ 5 0,
 o_ 6 (.lenL (t_ 5)),
 o_ 7 (.binI .lss .i64 (t_ 4) (t_ 6))])
 (.cond (t_ 7) .skip (.exit 0)))
 (.seq (.block 1 (.seq (.seq (.region 0 [
 m_ 10 0,
 m_ 11 3,
 o_ 12 (.iaddr 2 (t_ 10) (t_ 11)),
 o_ 13 (.faddr 0 (t_ 12)),
 o_ 14 (.load false 1 (t_ 13)),
 o_ 15 (.call 46 [(t_ 14)]),
 o_ 16 (.not (t_ 15))])
 (.cond (t_ 16) (.seq (.region 0 [
 o_ 2 (.mov (.const (.int .i64 7)))])
 .ret) .skip))
 (.seq (.seq (.region 0 [
 m_ 17 0,
 m_ 18 3,
 o_ 19 (.iaddr 2 (t_ 17) (t_ 18)),
 o_ 20 (.faddr 1 (t_ 19)),
 o_ 21 (.load false 1 (t_ 20)),
 o_ 22 (.binI .lss .i64 (t_ 21) (.const (.int .i64 1)))])
 (.cond (t_ 22) (.seq (.region 0 [
 o_ 2 (.mov (.const (.int .i64 2)))])
 .ret) .skip))
 (.seq (.seq (.dregion 0 [
 m_ 23 3,
 o_ 24 (.binI .gtr .i64 (t_ 23) (.const (.int .i64 0))),
 m_ 25 24,
 g_ 26 (.mov (t_ 0)) 25 true,
 g_ 27 (.mov (t_ 3)) 25 true,
 g_ 28 (.iaddr 2 (t_ 26) (t_ 27)) 25 true,
 g_ 29 (.faddr 0 (t_ 28)) 25 true,
 g_ 30 (.load false 1 (t_ 29)) 25 true,
 g_ 31 (.mov (t_ 0)) 25 true,
 g_ 32 (.mov (t_ 3)) 25 true,
 g_ 33 (.binI .sub .i64 (t_ 32) (.const (.int .i64 1))) 25 true,
 g_ 34 (.iaddr 2 (t_ 31) (t_ 33)) 25 true,
 g_ 35 (.faddr 0 (t_ 34)) 25 true,
 g_ 36 (.load false 1 (t_ 35)) 25 true,
 g_ 37 (.binS .eql (t_ 30) (t_ 36)) 25 true,
 o_ 38 (.pick (t_ 25) (t_ 37) (.const (.bool false)))] [[],[0],[1],[2],[2],[3,4,2],[5,2],[6,2],[2],[2],[9,2],[8,10,2],[11,2],[12,2],[7,13,2],[2,14]])
 (.cond (t_ 38) (.seq (.region 0 [
 o_ 2 (.mov (.const (.int .i64 8)))])
 .ret) .skip))
 (.seq (.dregion 0 [
 m_ 39 3,
 o_ 40 (.binI .gtr .i64 (t_ 39) (.const (.int .i64 0))),
 m_ 41 40,
 g_ 42 (.mov (t_ 0)) 41 true,
 g_ 43 (.mov (t_ 3)) 41 true,
 g_ 44 (.iaddr 2 (t_ 42) (t_ 43)) 41 true,
 g_ 45 (.faddr 0 (t_ 44)) 41 true,
 g_ 46 (.load false 1 (t_ 45)) 41 true,
 g_ 47 (.mov (t_ 0)) 41 true,
 g_ 48 (.mov (t_ 3)) 41 true,
 g_ 49 (.binI .sub .i64 (t_ 48) (.const (.int .i64 1))) 41 true,
 g_ 50 (.iaddr 2 (t_ 47) (t_ 49)) 41 true,
 g_ 51 (.faddr 0 (t_ 50)) 41 true,
 g_ 52 (.load false 1 (t_ 51)) 41 true,
 g_ 53 (.binS .lss (t_ 46) (t_ 52)) 41 true,
 o_ 54 (.pick (t_ 41) (t_ 53) (.const (.bool false)))] [[],[0],[1],[2],[2],[3,4,2],[5,2],[6,2],[2],[2],[9,2],[8,10,2],[11,2],[12,2],[7,13,2],[2,14]])
 (.cond (t_ 54) (.seq (.region 0 [
 o_ 2 (.mov (.const (.int .i64 3)))])
 .ret) .skip))))))
 (.region 0 [
 m_ 8 3,
 o_ 9 (.binI .add .i64 (t_ 8) (.const (.int .i64 1))),
 m_ 3 9]))))))
def b528_2:AC:=(.region 0 [
 o_ 2 (.mov (.const (.int .i64 0)))])
def b528_3:AC:=.ret
def b528:AC:=(.seq b528_0 (.seq b528_1 (.seq b528_2 b528_3)))
def ir528:AF:=⟨55,[(.tmp 2)],b528⟩
theorem c528:compF tt Tryz.f76=some ir528:=by kernel_rfl
def b1053:AC:=(.seq (.region 0 [
 o_ 4 (.mov (.const (.int .i64 0)))])
 (.seq (.seq (.region 0 [
 m_ 6 0,
 o_ 7 (.lenL (t_ 6)),
 o_ 8 (.mov (.const (.int .i64 0)))])
 (.block 0 (.loop (.seq (.region 0 [
 o_ 9 (.binI .lss .i64 (t_ 8) (t_ 7))])
 (.seq (.cond (t_ 9) .skip (.exit 0))
 (.seq (.block 1 (.seq (.region 0 [
 m_ 10 8,
 m_ 5 10])
 (.seq (.region 0 [
 m_ 11 0,
 m_ 12 5,
 o_ 13 (.iaddr 2 (t_ 11) (t_ 12)),
 o_ 14 (.faddr 0 (t_ 13)),
 o_ 15 (.load false 1 (t_ 14)),
 m_ 16 1,
 o_ 17 (.binS .eql (t_ 15) (t_ 16))])
 (.cond (t_ 17) (.seq (.region 0 [
 m_ 18 0,
 m_ 19 5,
 o_ 20 (.iaddr 2 (t_ 18) (t_ 19)),
 o_ 21 (.faddr 1 (t_ 20)),
 o_ 22 (.load false 1 (t_ 21)),
 m_ 4 22])
 .ret) .skip))))
 (.region 0 [
 o_ 23 (.binI .add .i64 (t_ 8) (.const (.int .i64 1))),
 m_ 8 23])))))))
 (.seq (.region 0 [
 o_ 4 (.mov (.const (.int .i64 0)))])
 .ret)))
def ir1053:AF:=⟨24,[(.tmp 4)],b1053⟩
theorem c1053:compF tt Tryz.f77=some ir1053:=by kernel_rfl
def b1054_0:AC:=(.region 1 [
 o_ 1 (.box 0 (t_ 0)),
 o_ 2 (.mov (.const (.bool false)))])
def b1054_1:AC:=(.region 1 [
 o_ 11 (.build [(.v (.string ⟨#[]⟩)),(.v (.int .i64 0))] []),
 o_ 3 (.zero 0 [(.v (.string ⟨#[]⟩)),(.v (.int .i64 0))]),
 s_ (.store 2 (t_ 3) (t_ 11))])
def b1054_2:AC:=(.dregion 0 [
 o_ 12 (.faddr 6 (t_ 1)),
 o_ 13 (.load true 2 (t_ 12)),
 o_ 14 (.load true 2 (t_ 3)),
 o_ 15 (.eqA false [.s,(.i .i64)] (t_ 13) (t_ 14)),
 o_ 16 (.faddr 8 (t_ 1)),
 o_ 17 (.load true 2 (t_ 16)),
 o_ 18 (.load true 2 (t_ 3)),
 o_ 19 (.eqA false [.s,(.i .i64)] (t_ 17) (t_ 18)),
 o_ 20 (.faddr 10 (t_ 1)),
 o_ 21 (.load true 3 (t_ 20)),
 o_ 22 (.build [(.v (.bool false)),(.v (.string ⟨#[]⟩)),(.v (.string ⟨#[]⟩))] []),
 o_ 23 (.eqA false [.b,.s,.s] (t_ 21) (t_ 22)),
 m_ 4 15,
 m_ 5 19,
 m_ 6 23] [[],[0],[],[1,2],[],[4],[],[5,6],[],[8],[],[9,10],[3,0,1,2,3],[7,12,0,1,2,3,4,5,6,7,12],[11,13,0,1,2,3,4,5,6,7,8,9,10,11,12,13]])
def b1054_3:AC:=(.dregion 0 [
 o_ 24 (.faddr 13 (t_ 1)),
 o_ 25 (.load false 1 (t_ 24)),
 o_ 26 (.binS .eql (t_ 25) (.const (.string ⟨#[]⟩))),
 o_ 27 (.faddr 14 (t_ 1)),
 o_ 28 (.load false 1 (t_ 27)),
 o_ 29 (.binS .eql (t_ 28) (.const (.string ⟨#[]⟩))),
 o_ 30 (.faddr 15 (t_ 1)),
 o_ 31 (.load true 2 (t_ 30)),
 o_ 32 (.load true 2 (t_ 3)),
 o_ 33 (.eqA false [.s,(.i .i64)] (t_ 31) (t_ 32)),
 o_ 34 (.faddr 17 (t_ 1)),
 o_ 35 (.load false 1 (t_ 34)),
 o_ 36 (.binS .eql (t_ 35) (.const (.string ⟨#[]⟩))),
 m_ 7 26,
 m_ 8 29,
 m_ 9 33,
 m_ 10 36] [[],[0],[1],[],[3],[4],[],[6],[],[7,8],[],[10],[11],[2,0,1,2],[5,13,0,1,2,3,4,5,13],[9,14,0,1,2,3,4,5,6,7,8,9,13,14],[12,15,0,1,2,3,4,5,6,7,8,9,10,11,12,13,14,15]])
def b1054_4:AC:=(.seq (.region 0 [
 o_ 37 (.faddr 5 (t_ 1)),
 o_ 38 (.load false 1 (t_ 37))])
 (.block 0 (.seq (.region 0 [
 o_ 40 (.binI .eql .i64 (t_ 38) (.const (.int .i64 1))),
 m_ 39 40])
 (.cond (t_ 39) (.seq (.region 0 [
 m_ 41 4,
 m_ 42 41,
 g_ 43 (.mov (t_ 7)) 42 true,
 o_ 44 (.pick (t_ 42) (t_ 43) (.const (.bool false))),
 m_ 45 44,
 g_ 46 (.mov (t_ 9)) 45 true,
 o_ 47 (.pick (t_ 45) (t_ 46) (.const (.bool false))),
 m_ 48 47,
 g_ 49 (.mov (t_ 10)) 48 true,
 o_ 50 (.pick (t_ 48) (t_ 49) (.const (.bool false))),
 m_ 2 50])
 .ret) (.seq (.region 0 [
 o_ 52 (.binI .eql .i64 (t_ 38) (.const (.int .i64 2))),
 m_ 51 52])
 (.cond (t_ 51) (.seq (.region 0 [
 m_ 53 7,
 m_ 54 53,
 g_ 55 (.mov (t_ 8)) 54 true,
 o_ 56 (.pick (t_ 54) (t_ 55) (.const (.bool false))),
 m_ 57 56,
 g_ 58 (.mov (t_ 9)) 57 true,
 o_ 59 (.pick (t_ 57) (t_ 58) (.const (.bool false))),
 m_ 60 59,
 g_ 61 (.mov (t_ 10)) 60 true,
 o_ 62 (.pick (t_ 60) (t_ 61) (.const (.bool false))),
 m_ 2 62])
 .ret) (.seq (.region 0 [
 o_ 64 (.binI .eql .i64 (t_ 38) (.const (.int .i64 3))),
 m_ 63 64])
 (.cond (t_ 63) (.seq (.region 0 [
 m_ 65 5,
 m_ 66 65,
 g_ 67 (.mov (t_ 6)) 66 true,
 o_ 68 (.pick (t_ 66) (t_ 67) (.const (.bool false))),
 m_ 69 68,
 g_ 70 (.mov (t_ 9)) 69 true,
 o_ 71 (.pick (t_ 69) (t_ 70) (.const (.bool false))),
 m_ 72 71,
 g_ 73 (.mov (t_ 10)) 72 true,
 o_ 74 (.pick (t_ 72) (t_ 73) (.const (.bool false))),
 m_ 2 74])
 .ret) (.seq (.region 0 [
 o_ 76 (.binI .eql .i64 (t_ 38) (.const (.int .i64 4))),
 m_ 75 76])
 (.cond (t_ 75) (.seq (.region 0 [
 m_ 77 4,
 m_ 78 77,
 g_ 79 (.mov (t_ 5)) 78 true,
 o_ 80 (.pick (t_ 78) (t_ 79) (.const (.bool false))),
 m_ 81 80,
 g_ 82 (.mov (t_ 6)) 81 true,
 o_ 83 (.pick (t_ 81) (t_ 82) (.const (.bool false))),
 m_ 84 83,
 g_ 85 (.mov (t_ 7)) 84 true,
 o_ 86 (.pick (t_ 84) (t_ 85) (.const (.bool false))),
 m_ 87 86,
 g_ 88 (.mov (t_ 8)) 87 true,
 o_ 89 (.pick (t_ 87) (t_ 88) (.const (.bool false))),
 m_ 90 89,
 g_ 91 (.mov (t_ 10)) 90 true,
 o_ 92 (.pick (t_ 90) (t_ 91) (.const (.bool false))),
 m_ 2 92])
 .ret) (.seq (.region 0 [
 o_ 94 (.binI .eql .i64 (t_ 38) (.const (.int .i64 5))),
 m_ 93 94])
 (.cond (t_ 93) (.seq (.region 0 [
 m_ 95 4,
 m_ 96 95,
 g_ 97 (.mov (t_ 5)) 96 true,
 o_ 98 (.pick (t_ 96) (t_ 97) (.const (.bool false))),
 m_ 99 98,
 g_ 100 (.mov (t_ 6)) 99 true,
 o_ 101 (.pick (t_ 99) (t_ 100) (.const (.bool false))),
 m_ 102 101,
 g_ 103 (.mov (t_ 7)) 102 true,
 o_ 104 (.pick (t_ 102) (t_ 103) (.const (.bool false))),
 m_ 105 104,
 g_ 106 (.mov (t_ 8)) 105 true,
 o_ 107 (.pick (t_ 105) (t_ 106) (.const (.bool false))),
 m_ 108 107,
 g_ 109 (.mov (t_ 9)) 108 true,
 o_ 110 (.pick (t_ 108) (t_ 109) (.const (.bool false))),
 m_ 2 110])
 .ret) .skip))))))))))))
def b1054_5:AC:=(.region 0 [
 m_ 111 4,
 m_ 112 111,
 g_ 113 (.mov (t_ 5)) 112 true,
 o_ 114 (.pick (t_ 112) (t_ 113) (.const (.bool false))),
 m_ 115 114,
 g_ 116 (.mov (t_ 6)) 115 true,
 o_ 117 (.pick (t_ 115) (t_ 116) (.const (.bool false))),
 m_ 118 117,
 g_ 119 (.mov (t_ 7)) 118 true,
 o_ 120 (.pick (t_ 118) (t_ 119) (.const (.bool false))),
 m_ 121 120,
 g_ 122 (.mov (t_ 8)) 121 true,
 o_ 123 (.pick (t_ 121) (t_ 122) (.const (.bool false))),
 m_ 124 123,
 g_ 125 (.mov (t_ 9)) 124 true,
 o_ 126 (.pick (t_ 124) (t_ 125) (.const (.bool false))),
 m_ 127 126,
 g_ 128 (.mov (t_ 10)) 127 true,
 o_ 129 (.pick (t_ 127) (t_ 128) (.const (.bool false))),
 m_ 2 129])
def b1054_6:AC:=.ret
def b1054:AC:=(.seq b1054_0 (.seq b1054_1 (.seq b1054_2 (.seq b1054_3 (.seq b1054_4 (.seq b1054_5 b1054_6))))))
def ir1054:AF:=⟨130,[(.tmp 2)],b1054⟩
theorem c1054:compF tt Tryz.f78=some ir1054:=by kernel_rfl
def b1055_0:AC:=(.region 1 [
 o_ 1 (.box 0 (t_ 0)),
 o_ 2 (.mov (.const (.bool false)))])
def b1055_1:AC:=(.region 1 [
 o_ 4 (.build [(.v (.string ⟨#[]⟩)),(.v (.int .i64 0))] []),
 o_ 3 (.zero 0 [(.v (.string ⟨#[]⟩)),(.v (.int .i64 0))]),
 s_ (.store 2 (t_ 3) (t_ 4))])
def b1055_2:AC:=(.seq (.region 0 [
 o_ 5 (.faddr 5 (t_ 1)),
 o_ 6 (.load false 1 (t_ 5))])
 (.block 0 (.seq (.region 0 [
 o_ 8 (.binI .eql .i64 (t_ 6) (.const (.int .i64 1))),
 m_ 7 8])
 (.cond (t_ 7) (.seq (.region 0 [
 o_ 9 (.faddr 8 (t_ 1)),
 o_ 10 (.load true 2 (t_ 9)),
 o_ 11 (.load true 2 (t_ 3)),
 o_ 12 (.eqA false [.s,(.i .i64)] (t_ 10) (t_ 11)),
 m_ 13 12,
 g_ 14 (.faddr 8 (t_ 1)) 13 false,
 g_ 15 (.load true 2 (t_ 14)) 13 false,
 g_ 16 (.call 112 [(t_ 15)]) 13 false,
 o_ 17 (.pick (t_ 13) (.const (.bool true)) (t_ 16)),
 m_ 18 17,
 g_ 19 (.faddr 10 (t_ 1)) 18 true,
 g_ 20 (.load true 3 (t_ 19)) 18 true,
 g_ 21 (.call 113 [(t_ 20)]) 18 true,
 o_ 22 (.pick (t_ 18) (t_ 21) (.const (.bool false))),
 m_ 23 22,
 g_ 24 (.faddr 14 (t_ 1)) 23 true,
 g_ 25 (.load false 1 (t_ 24)) 23 true,
 g_ 26 (.call 114 [(t_ 25)]) 23 true,
 o_ 27 (.pick (t_ 23) (t_ 26) (.const (.bool false))),
 m_ 2 27])
 .ret) (.seq (.region 0 [
 o_ 29 (.binI .eql .i64 (t_ 6) (.const (.int .i64 2))),
 m_ 28 29])
 (.cond (t_ 28) (.seq (.dregion 0 [
 o_ 30 (.faddr 6 (t_ 1)),
 o_ 31 (.load true 2 (t_ 30)),
 o_ 32 (.call 112 [(t_ 31)]),
 m_ 33 32,
 g_ 34 (.faddr 8 (t_ 1)) 33 true,
 g_ 35 (.load true 2 (t_ 34)) 33 true,
 g_ 36 (.load true 2 (t_ 3)) 33 true,
 g_ 37 (.eqA false [.s,(.i .i64)] (t_ 35) (t_ 36)) 33 true,
 g_ 38 (.mov (t_ 37)) 33 true,
 g_ 39 (.faddr 8 (t_ 1)) 38 false,
 g_ 40 (.load true 2 (t_ 39)) 38 false,
 g_ 41 (.call 115 []) 38 false,
 g_ 42 (.eqA false [.s,(.i .i64)] (t_ 40) (t_ 41)) 38 false,
 g_ 43 (.pick (t_ 38) (.const (.bool true)) (t_ 42)) 33 true,
 g_ 44 (.mov (t_ 43)) 33 true,
 g_ 45 (.faddr 8 (t_ 1)) 44 false,
 g_ 46 (.load true 2 (t_ 45)) 44 false,
 g_ 47 (.call 112 [(t_ 46)]) 44 false,
 g_ 48 (.pick (t_ 44) (.const (.bool true)) (t_ 47)) 33 true,
 o_ 49 (.pick (t_ 33) (t_ 48) (.const (.bool false))),
 m_ 50 49,
 g_ 51 (.faddr 10 (t_ 1)) 50 true,
 g_ 52 (.load true 3 (t_ 51)) 50 true,
 g_ 53 (.call 113 [(t_ 52)]) 50 true,
 o_ 54 (.pick (t_ 50) (t_ 53) (.const (.bool false))),
 m_ 2 54] [[],[0],[1],[2,2],[3],[4,3],[3],[5,6,3],[7,3,3],[8],[9,8],[8,8],[10,11,8],[8,12,3],[13,11,3],[14],[15,14],[16,14,14],[14,17,3],[3,18],[19,17],[20],[21,20],[22,20,20],[20,23],[24,23,0,1,2,3,4,5,6,7,8,9,10,11,12,13,14,15,16,17,18,19,20,21,22,23,24]])
 .ret) (.seq (.region 0 [
 o_ 56 (.binI .eql .i64 (t_ 6) (.const (.int .i64 3))),
 m_ 55 56])
 (.cond (t_ 55) (.seq (.region 0 [
 o_ 57 (.faddr 6 (t_ 1)),
 o_ 58 (.load true 2 (t_ 57)),
 o_ 59 (.call 112 [(t_ 58)]),
 m_ 60 59,
 g_ 61 (.faddr 13 (t_ 1)) 60 true,
 g_ 62 (.load false 1 (t_ 61)) 60 true,
 g_ 63 (.call 114 [(t_ 62)]) 60 true,
 o_ 64 (.pick (t_ 60) (t_ 63) (.const (.bool false))),
 m_ 2 64])
 .ret) (.seq (.region 0 [
 o_ 66 (.binI .eql .i64 (t_ 6) (.const (.int .i64 4))),
 m_ 65 66])
 (.cond (t_ 65) (.seq (.region 0 [
 o_ 67 (.faddr 15 (t_ 1)),
 o_ 68 (.load true 2 (t_ 67)),
 o_ 69 (.call 112 [(t_ 68)]),
 m_ 70 69,
 g_ 71 (.faddr 15 (t_ 1)) 70 true,
 g_ 72 (.faddr 0 (t_ 71)) 70 true,
 g_ 73 (.load false 1 (t_ 72)) 70 true,
 g_ 74 (.faddr 0 (t_ 1)) 70 true,
 g_ 75 (.faddr 0 (t_ 74)) 70 true,
 g_ 76 (.load false 1 (t_ 75)) 70 true,
 g_ 77 (.binS .eql (t_ 73) (t_ 76)) 70 true,
 o_ 78 (.pick (t_ 70) (t_ 77) (.const (.bool false))),
 m_ 79 78,
 g_ 80 (.faddr 15 (t_ 1)) 79 true,
 g_ 81 (.faddr 1 (t_ 80)) 79 true,
 g_ 82 (.load false 1 (t_ 81)) 79 true,
 g_ 83 (.faddr 0 (t_ 1)) 79 true,
 g_ 84 (.faddr 1 (t_ 83)) 79 true,
 g_ 85 (.load false 1 (t_ 84)) 79 true,
 g_ 86 (.binI .lss .i64 (t_ 82) (t_ 85)) 79 true,
 o_ 87 (.pick (t_ 79) (t_ 86) (.const (.bool false))),
 m_ 2 87])
 .ret) (.seq (.region 0 [
 o_ 89 (.binI .eql .i64 (t_ 6) (.const (.int .i64 5))),
 m_ 88 89])
 (.cond (t_ 88) (.seq (.region 0 [
 o_ 90 (.faddr 0 (t_ 1)),
 o_ 91 (.faddr 0 (t_ 90)),
 o_ 92 (.load false 1 (t_ 91)),
 o_ 93 (.faddr 17 (t_ 1)),
 o_ 94 (.load false 1 (t_ 93)),
 o_ 95 (.call 116 [(t_ 92),(t_ 94)]),
 m_ 2 95])
 .ret) .skip))))))))))))
def b1055_3:AC:=(.region 0 [
 o_ 2 (.mov (.const (.bool true)))])
def b1055_4:AC:=.ret
def b1055:AC:=(.seq b1055_0 (.seq b1055_1 (.seq b1055_2 (.seq b1055_3 b1055_4))))
def ir1055:AF:=⟨96,[(.tmp 2)],b1055⟩
theorem c1055:compF tt Tryz.f79=some ir1055:=by kernel_rfl
def b2080:AC:=(.seq (.region 1 [
 o_ 5 (.box 0 (t_ 0)),
 o_ 6 (.mov (.const (.bool false)))])
 (.seq (.seq (.region 0 [
 o_ 9 (.load true 2 (t_ 5)),
 o_ 10 (.load true 2 (t_ 1)),
 o_ 11 (.eqA false [.s,(.i .i64)] (t_ 9) (t_ 10))])
 (.cond (t_ 11) (.seq (.region 0 [
 o_ 6 (.mov (.const (.bool true)))])
 .ret) .skip))
 (.seq (.region 1 [
 o_ 13 (.load false 1 (t_ 2)),
 o_ 14 (.load true 2 (t_ 5)),
 o_ 15 (.look ⟨true,[.s,(.i .i64)]⟩ (.agg [(.v (.string ⟨#[]⟩)),(.v (.int .i64 0)),(.v (.string ⟨#[]⟩)),(.v (.int .i64 0)),(.v (.bool false)),(.v (.string ⟨#[]⟩)),(.v (.string ⟨#[]⟩)),(.v (.string ⟨#[]⟩))]) (t_ 13) (t_ 14) true),
 m_ 12 15,
 o_ 16 (.ext (t_ 12) 0),
 o_ 17 (.ext (t_ 12) 1),
 o_ 7 (.zero 0 [(.v (.string ⟨#[]⟩)),(.v (.int .i64 0)),(.v (.string ⟨#[]⟩)),(.v (.int .i64 0)),(.v (.bool false)),(.v (.string ⟨#[]⟩)),(.v (.string ⟨#[]⟩)),(.v (.string ⟨#[]⟩))]),
 s_ (.store 8 (t_ 7) (t_ 16)),
 m_ 8 17])
 (.seq (.seq (.region 0 [
 m_ 18 8,
 o_ 19 (.not (t_ 18)),
 m_ 20 19,
 g_ 21 (.load false 1 (t_ 3)) 20 false,
 g_ 22 (.load true 2 (t_ 5)) 20 false,
 g_ 23 (.look ⟨true,[.s,(.i .i64)]⟩ (.c (.v (.bool false))) (t_ 21) (t_ 22) false) 20 false,
 o_ 24 (.pick (t_ 20) (.const (.bool true)) (t_ 23))])
 (.cond (t_ 24) (.seq (.region 0 [
 o_ 6 (.mov (.const (.bool false)))])
 .ret) .skip))
 (.seq (.region 0 [
 o_ 25 (.load false 1 (t_ 3)),
 o_ 26 (.load true 2 (t_ 5)),
 s_ (.mapup ⟨true,[.s,(.i .i64)]⟩ (t_ 25) (t_ 26) (.const (.bool true)))])
 (.seq (.region 0 [
 o_ 27 (.load false 1 (t_ 4)),
 o_ 28 (.faddr 2 (t_ 7)),
 o_ 29 (.load true 2 (t_ 28)),
 o_ 30 (.callv (t_ 27) [(t_ 29)]),
 m_ 6 30])
 .ret))))))
def ir2080:AF:=⟨31,[(.tmp 6)],b2080⟩
theorem c2080:compF tt Tryz.f80=some ir2080:=by kernel_rfl
def b47:AC:=(.seq (.region 0 [
 o_ 2 (.mov (.const (.int .i64 0)))])
 (.seq (.region 0 [
 o_ 3 (.mov (.const (.int .i64 0)))])
 (.seq (.seq (.region 0 [
 m_ 6 0,
 o_ 7 (.lenL (t_ 6)),
 o_ 8 (.mov (.const (.int .i64 0)))])
 (.block 0 (.loop (.seq (.region 0 [
 o_ 9 (.binI .lss .i64 (t_ 8) (t_ 7))])
 (.seq (.cond (t_ 9) .skip (.exit 0))
 (.seq (.block 1 (.seq (.region 0 [
 o_ 10 (.iaddr 1 (t_ 6) (t_ 8)),
 o_ 11 (.load false 1 (t_ 10)),
 m_ 5 11])
 (.seq (.region 0 [
 m_ 12 5,
 m_ 13 3,
 o_ 14 (.binI .neq .i64 (t_ 12) (t_ 13))])
 (.cond (t_ 14) (.seq (.region 0 [
 m_ 15 5,
 m_ 2 15])
 .ret) .skip))))
 (.region 0 [
 o_ 16 (.binI .add .i64 (t_ 8) (.const (.int .i64 1))),
 m_ 8 16])))))))
 (.seq (.region 0 [
 m_ 17 3,
 m_ 2 17])
 .ret))))
def ir47:AF:=⟨18,[(.tmp 2)],b47⟩
theorem c47:compF tt Tryz.f83=some ir47:=by kernel_rfl
def b2084:AC:=(.seq (.region 0 [
 o_ 4 (.mov (.const (.int .i64 0)))])
 (.seq (.region 0 [
 m_ 7 0,
 o_ 8 (.call 127 [(t_ 7)]),
 m_ 5 8])
 (.seq (.region 0 [
 m_ 9 1,
 o_ 10 (.call 127 [(t_ 9)]),
 m_ 6 10])
 (.seq (.seq (.region 0 [
 m_ 11 5])
 (.cond (t_ 11) (.seq (.seq (.region 0 [
 m_ 12 6])
 (.cond (t_ 12) (.seq (.region 0 [
 o_ 4 (.mov (.const (.int .i64 0)))])
 .ret) .skip))
 (.seq (.region 0 [
 o_ 4 (.mov (.const (.int .i64 (-1))))])
 .ret)) .skip))
 (.seq (.seq (.region 0 [
 m_ 13 6])
 (.cond (t_ 13) (.seq (.region 0 [
 o_ 4 (.mov (.const (.int .i64 1)))])
 .ret) .skip))
 (.seq (.seq (.region 0 [
 m_ 14 0,
 m_ 15 1,
 o_ 16 (.binS .lss (t_ 14) (t_ 15))])
 (.cond (t_ 16) (.seq (.region 0 [
 o_ 4 (.mov (.const (.int .i64 (-1))))])
 .ret) .skip))
 (.seq (.seq (.region 0 [
 m_ 17 0,
 m_ 18 1,
 o_ 19 (.binS .gtr (t_ 17) (t_ 18))])
 (.cond (t_ 19) (.seq (.region 0 [
 o_ 4 (.mov (.const (.int .i64 1)))])
 .ret) .skip))
 (.seq (.region 0 [
 o_ 4 (.mov (.const (.int .i64 0)))])
 .ret))))))))
def ir2084:AF:=⟨20,[(.tmp 4)],b2084⟩
theorem c2084:compF tt Tryz.f84=some ir2084:=by kernel_rfl
def b48:AC:=(.seq (.region 0 [
 o_ 4 (.mov (.const (.int .i64 0)))])
 (.seq (.region 0 [
 m_ 7 0,
 o_ 8 (.call 128 [(t_ 7)]),
 m_ 5 8])
 (.seq (.region 0 [
 m_ 9 1,
 o_ 10 (.call 128 [(t_ 9)]),
 m_ 6 10])
 (.seq (.seq (.region 0 [
 m_ 11 5])
 (.cond (t_ 11) (.seq (.seq (.region 0 [
 m_ 12 6])
 (.cond (t_ 12) (.seq (.region 0 [
 o_ 4 (.mov (.const (.int .i64 0)))])
 .ret) .skip))
 (.seq (.region 0 [
 o_ 4 (.mov (.const (.int .i64 (-1))))])
 .ret)) .skip))
 (.seq (.seq (.region 0 [
 m_ 13 6])
 (.cond (t_ 13) (.seq (.region 0 [
 o_ 4 (.mov (.const (.int .i64 1)))])
 .ret) .skip))
 (.seq (.seq (.region 0 [
 m_ 14 0,
 m_ 15 1,
 o_ 16 (.binI .lss .i64 (t_ 14) (t_ 15))])
 (.cond (t_ 16) (.seq (.region 0 [
 o_ 4 (.mov (.const (.int .i64 (-1))))])
 .ret) .skip))
 (.seq (.seq (.region 0 [
 m_ 17 0,
 m_ 18 1,
 o_ 19 (.binI .gtr .i64 (t_ 17) (t_ 18))])
 (.cond (t_ 19) (.seq (.region 0 [
 o_ 4 (.mov (.const (.int .i64 1)))])
 .ret) .skip))
 (.seq (.region 0 [
 o_ 4 (.mov (.const (.int .i64 0)))])
 .ret))))))))
def ir48:AF:=⟨20,[(.tmp 4)],b48⟩
theorem c48:compF tt Tryz.f85=some ir48:=by kernel_rfl
def b44:AC:=(.region 0 [
 m_ 4 0,
 m_ 5 0,
 o_ 6 (.lenL (t_ 5)),
 m_ 7 1,
 o_ 8 (.call 129 [(t_ 4),(t_ 6),(t_ 7)])])
def ir44:AF:=⟨9,[],b44⟩
theorem c44:compF tt Tryz.f86=some ir44:=by kernel_rfl
def b2087:AC:=(.seq (.region 2 [
 o_ 2 (.box 0 (t_ 0)),
 o_ 3 (.box 1 (t_ 1)),
 o_ 4 (.mov (.const (.int .i64 0)))])
 (.seq (.dregion 1 [
 o_ 5 (.faddr 4 (t_ 2)),
 o_ 6 (.load true 3 (t_ 5)),
 o_ 7 (.faddr 4 (t_ 3)),
 o_ 8 (.load true 3 (t_ 7)),
 o_ 9 (.call 24 [(t_ 6),(t_ 8)]),
 o_ 10 (.faddr 0 (t_ 2)),
 o_ 11 (.load true 2 (t_ 10)),
 o_ 12 (.faddr 0 (t_ 3)),
 o_ 13 (.load true 2 (t_ 12)),
 o_ 14 (.call 41 [(t_ 11),(t_ 13)]),
 o_ 15 (.bsl 0 1 [(.v (.int .i64 0))] 2 [(0,(t_ 9)),(1,(t_ 14))]),
 o_ 16 (.call 83 [(t_ 15)]),
 m_ 4 16] [[],[0],[],[2],[1,3],[],[5],[],[7],[6,8,4],[4,9],[10,9],[11,11,0,1,2,3,4,5,6,7,8,9,10,11]])
 .ret))
def ir2087:AF:=⟨17,[(.tmp 4)],b2087⟩
theorem c2087:compF tt Tryz.f87=some ir2087:=by kernel_rfl
def b1100_0:AC:=(.region 3 [
 o_ 2 (.box 0 (t_ 0)),
 o_ 3 (.box 1 (t_ 1)),
 o_ 4 (.zero 2 [(.v (.bool false)),(.v (.string ⟨#[]⟩)),(.v (.string ⟨#[]⟩))]),
 o_ 5 (.mov (.const (.bool false)))])
def b1100_1:AC:=(.dregion 0 [
 o_ 9 (.load true 2 (t_ 2)),
 o_ 10 (.call 130 [(t_ 9)]),
 o_ 11 (.load true 2 (t_ 3)),
 o_ 12 (.call 130 [(t_ 11)]),
 s_ (.store 2 (t_ 2) (t_ 10)),
 s_ (.store 2 (t_ 3) (t_ 12))] [[],[0],[],[2,1],[1,3,0,1],[3,4,0,1,2,3,4]])
def b1100_2:AC:=(.seq (.region 0 [
 o_ 13 (.faddr 1 (t_ 3)),
 o_ 14 (.load false 1 (t_ 13)),
 o_ 15 (.binS .eql (t_ 14) (.const (.string ⟨#[]⟩)))])
 (.cond (t_ 15) (.seq (.region 0 [
 o_ 16 (.build [(.v (.bool false)),(.v (.string ⟨#[]⟩)),(.v (.string ⟨#[]⟩))] []),
 s_ (.store 3 (t_ 4) (t_ 16)),
 o_ 5 (.mov (.const (.bool false)))])
 .ret) .skip))
def b1100_3:AC:=(.region 0 [
 o_ 17 (.faddr 0 (t_ 2)),
 o_ 18 (.load false 1 (t_ 17)),
 o_ 19 (.faddr 0 (t_ 3)),
 o_ 20 (.load false 1 (t_ 19)),
 o_ 21 (.eqB true (t_ 18) (t_ 20)),
 m_ 6 21])
def b1100_4:AC:=(.region 0 [
 o_ 22 (.faddr 0 (t_ 2)),
 s_ (.store 1 (t_ 22) (.const (.bool false))),
 o_ 23 (.faddr 0 (t_ 3)),
 s_ (.store 1 (t_ 23) (.const (.bool false)))])
def b1100_5:AC:=(.region 2 [
 o_ 24 (.load true 2 (t_ 2)),
 o_ 25 (.load true 2 (t_ 3)),
 o_ 26 (.bsl 0 2 [(.v (.bool false)),(.v (.string ⟨#[]⟩))] 2 [(0,(t_ 24)),(1,(t_ 25))]),
 o_ 27 (.call 131 [(t_ 26)]),
 o_ 7 (.zero 1 [(.v (.bool false)),(.v (.string ⟨#[]⟩))]),
 s_ (.store 2 (t_ 7) (t_ 27))])
def b1100_6:AC:=(.region 0 [
 o_ 29 (.load true 2 (t_ 2)),
 o_ 30 (.load true 2 (t_ 7)),
 o_ 31 (.call 132 [(t_ 29),(t_ 30)]),
 m_ 28 31,
 o_ 32 (.ext (t_ 28) 0),
 o_ 33 (.ext (t_ 28) 1),
 o_ 34 (.ext (t_ 28) 2),
 s_ (.store 2 (t_ 2) (t_ 32))])
def b1100_7:AC:=(.region 0 [
 o_ 36 (.load true 2 (t_ 3)),
 o_ 37 (.load true 2 (t_ 7)),
 o_ 38 (.call 132 [(t_ 36),(t_ 37)]),
 m_ 35 38,
 o_ 39 (.ext (t_ 35) 0),
 o_ 40 (.ext (t_ 35) 1),
 o_ 41 (.ext (t_ 35) 2),
 s_ (.store 2 (t_ 3) (t_ 39))])
def b1100_8:AC:=(.region 1 [
 m_ 42 6,
 o_ 43 (.faddr 1 (t_ 2)),
 o_ 44 (.load false 1 (t_ 43)),
 o_ 45 (.faddr 1 (t_ 3)),
 o_ 46 (.load false 1 (t_ 45)),
 o_ 47 (.build [(.v (.bool false)),(.v (.string ⟨#[]⟩)),(.v (.string ⟨#[]⟩))] [(0,(1,(t_ 42))),(1,(1,(t_ 44))),(2,(1,(t_ 46)))]),
 o_ 8 (.zero 0 [(.v (.bool false)),(.v (.string ⟨#[]⟩)),(.v (.string ⟨#[]⟩))]),
 s_ (.store 3 (t_ 8) (t_ 47))])
def b1100_9:AC:=(.seq (.region 0 [
 o_ 48 (.faddr 1 (t_ 8)),
 o_ 49 (.load false 1 (t_ 48)),
 o_ 50 (.binS .eql (t_ 49) (.const (.string ⟨#[]⟩)))])
 (.cond (t_ 50) (.region 0 [
 o_ 51 (.faddr 0 (t_ 8)),
 s_ (.store 1 (t_ 51) (.const (.bool false)))]) .skip))
def b1100_10:AC:=(.seq (.dregion 0 [
 o_ 52 (.load true 2 (t_ 3)),
 o_ 53 (.call 94 []),
 o_ 54 (.eqA false [.b,.s] (t_ 52) (t_ 53))] [[],[],[0,1]])
 (.cond (t_ 54) (.region 0 [
 o_ 55 (.faddr 2 (t_ 8)),
 s_ (.store 1 (t_ 55) (.const (.string ⟨#[]⟩)))]) .skip))
def b1100_11:AC:=(.region 0 [
 o_ 56 (.load true 3 (t_ 8)),
 s_ (.store 3 (t_ 4) (t_ 56)),
 o_ 5 (.mov (.const (.bool true)))])
def b1100_12:AC:=.ret
def b1100:AC:=(.seq b1100_0 (.seq b1100_1 (.seq b1100_2 (.seq b1100_3 (.seq b1100_4 (.seq b1100_5 (.seq b1100_6 (.seq b1100_7 (.seq b1100_8 (.seq b1100_9 (.seq b1100_10 (.seq b1100_11 b1100_12))))))))))))
def ir1100:AF:=⟨57,[(.cell 4 true 3),(.tmp 5)],b1100⟩
theorem c1100:compF tt Tryz.f89=some ir1100:=by kernel_rfl
def b1101:AC:=(.seq (.region 2 [
 o_ 1 (.box 0 (t_ 0)),
 o_ 2 (.zero 1 [(.v (.bool false)),(.v (.string ⟨#[]⟩))])])
 (.seq (.region 0 [
 o_ 3 (.faddr 0 (t_ 1)),
 o_ 4 (.load false 1 (t_ 3)),
 o_ 5 (.faddr 1 (t_ 1)),
 o_ 6 (.load false 1 (t_ 5)),
 o_ 7 (.build [(.v (.bool false)),(.v (.string ⟨#[]⟩))] [(0,(1,(t_ 4))),(1,(1,(t_ 6)))]),
 o_ 8 (.call 130 [(t_ 7)]),
 s_ (.store 2 (t_ 2) (t_ 8))])
 .ret))
def ir1101:AF:=⟨9,[(.cell 2 true 2)],b1101⟩
theorem c1101:compF tt Tryz.f90=some ir1101:=by kernel_rfl
def b1102:AC:=(.seq (.region 2 [
 o_ 1 (.box 0 (t_ 0)),
 o_ 2 (.zero 1 [(.v (.bool false)),(.v (.string ⟨#[]⟩))])])
 (.seq (.region 1 [
 o_ 4 (.faddr 2 (t_ 1)),
 o_ 5 (.load false 1 (t_ 4)),
 o_ 6 (.build [(.v (.bool false)),(.v (.string ⟨#[]⟩))] [(1,(1,(t_ 5)))]),
 o_ 7 (.call 130 [(t_ 6)]),
 o_ 3 (.zero 0 [(.v (.bool false)),(.v (.string ⟨#[]⟩))]),
 s_ (.store 2 (t_ 3) (t_ 7))])
 (.seq (.seq (.region 0 [
 o_ 8 (.faddr 1 (t_ 3)),
 o_ 9 (.load false 1 (t_ 8)),
 o_ 10 (.binS .eql (t_ 9) (.const (.string ⟨#[]⟩)))])
 (.cond (t_ 10) (.seq (.region 0 [
 o_ 11 (.call 94 []),
 s_ (.store 2 (t_ 2) (t_ 11))])
 .ret) .skip))
 (.seq (.region 0 [
 o_ 12 (.load true 2 (t_ 3)),
 s_ (.store 2 (t_ 2) (t_ 12))])
 .ret))))
def ir1102:AF:=⟨13,[(.cell 2 true 2)],b1102⟩
theorem c1102:compF tt Tryz.f91=some ir1102:=by kernel_rfl
def b2092_0:AC:=(.region 3 [
 o_ 3 (.box 0 (t_ 0)),
 o_ 4 (.box 1 (t_ 1)),
 o_ 6 (.zero 2 [(.v (.bool false)),(.v (.string ⟨#[]⟩)),(.v (.string ⟨#[]⟩))])])
def b2092_1:AC:=(.region 1 [
 o_ 15 (.load true 3 (t_ 3)),
 o_ 16 (.call 133 [(t_ 15)]),
 o_ 7 (.zero 0 [(.v (.bool false)),(.v (.string ⟨#[]⟩)),(.v (.string ⟨#[]⟩))]),
 s_ (.store 3 (t_ 7) (t_ 16))])
def b2092_2:AC:=(.dregion 1 [
 o_ 17 (.load true 3 (t_ 7)),
 o_ 18 (.call 52 []),
 o_ 19 (.call 53 [(t_ 17),(t_ 18)]),
 o_ 8 (.zero 0 [(.v (.bool false)),(.v (.string ⟨#[]⟩)),(.v (.string ⟨#[]⟩))]),
 s_ (.store 3 (t_ 8) (t_ 19))] [[],[],[0,1,1],[],[3,2,2,0,1,2,3]])
def b2092_3:AC:=(.seq (.region 0 [
 m_ 20 2,
 o_ 21 (.not (t_ 20)),
 m_ 22 21,
 g_ 23 (.load true 3 (t_ 8)) 22 false,
 g_ 24 (.load true 3 (t_ 4)) 22 false,
 g_ 25 (.call 24 [(t_ 23),(t_ 24)]) 22 false,
 g_ 26 (.binI .lss .i64 (t_ 25) (.const (.int .i64 0))) 22 false,
 o_ 27 (.pick (t_ 22) (.const (.bool true)) (t_ 26))])
 (.cond (t_ 27) (.seq (.region 0 [
 o_ 28 (.load true 3 (t_ 8)),
 s_ (.store 3 (t_ 6) (t_ 28))])
 .ret) .skip))
def b2092_4:AC:=(.dregion 1 [
 o_ 30 (.call 52 []),
 o_ 31 (.load true 3 (t_ 4)),
 o_ 32 (.load true 3 (t_ 7)),
 o_ 33 (.call 51 [(t_ 31),(t_ 32)]),
 o_ 34 (.call 27 [(t_ 30),(t_ 33)]),
 m_ 29 34,
 o_ 35 (.ext (t_ 29) 0),
 o_ 36 (.ext (t_ 29) 1),
 o_ 9 (.zero 0 [(.v (.bool false)),(.v (.string ⟨#[]⟩)),(.v (.string ⟨#[]⟩))]),
 s_ (.store 3 (t_ 9) (t_ 35)),
 m_ 10 36] [[],[],[],[1,2,0],[0,3,3],[4],[5],[5],[],[8,6,4,0,1,2,3,4,5,6,8],[7,9,0,1,2,3,4,5,6,7,8,9]])
def b2092_5:AC:=(.dregion 1 [
 o_ 38 (.call 52 []),
 o_ 39 (.load true 3 (t_ 3)),
 o_ 40 (.load true 3 (t_ 7)),
 o_ 41 (.call 51 [(t_ 39),(t_ 40)]),
 o_ 42 (.call 27 [(t_ 38),(t_ 41)]),
 m_ 37 42,
 o_ 43 (.ext (t_ 37) 0),
 o_ 44 (.ext (t_ 37) 1),
 o_ 11 (.zero 0 [(.v (.bool false)),(.v (.string ⟨#[]⟩)),(.v (.string ⟨#[]⟩))]),
 s_ (.store 3 (t_ 11) (t_ 43)),
 m_ 12 44] [[],[],[],[1,2,0],[0,3,3],[4],[5],[5],[],[8,6,4,0,1,2,3,4,5,6,8],[7,9,0,1,2,3,4,5,6,7,8,9]])
def b2092_6:AC:=(.dregion 1 [
 o_ 46 (.call 52 []),
 o_ 47 (.load true 3 (t_ 9)),
 o_ 48 (.load true 3 (t_ 11)),
 m_ 49 12,
 o_ 50 (.call 92 [(t_ 47),(t_ 48),(t_ 49)]),
 o_ 51 (.call 27 [(t_ 46),(t_ 50)]),
 m_ 45 51,
 o_ 52 (.ext (t_ 45) 0),
 o_ 53 (.ext (t_ 45) 1),
 o_ 13 (.zero 0 [(.v (.bool false)),(.v (.string ⟨#[]⟩)),(.v (.string ⟨#[]⟩))]),
 s_ (.store 3 (t_ 13) (t_ 52)),
 m_ 14 53] [[],[],[],[],[1,2,3,0],[0,4,4],[5],[6],[6],[],[9,7,5,0,1,2,3,4,5,6,7,9],[8,10,0,1,2,3,4,5,6,7,8,9,10]])
def b2092_7:AC:=(.region 0 [
 o_ 54 (.load true 3 (t_ 7)),
 o_ 55 (.load true 3 (t_ 13)),
 o_ 56 (.call 53 [(t_ 54),(t_ 55)]),
 s_ (.store 3 (t_ 6) (t_ 56))])
def b2092_8:AC:=.ret
def b2092:AC:=(.seq b2092_0 (.seq b2092_1 (.seq b2092_2 (.seq b2092_3 (.seq b2092_4 (.seq b2092_5 (.seq b2092_6 (.seq b2092_7 b2092_8))))))))
def ir2092:AF:=⟨57,[(.cell 6 true 3)],b2092⟩
theorem c2092:compF tt Tryz.f92=some ir2092:=by kernel_rfl
def b1135:AC:=(.seq (.region 1 [
 o_ 2 (.zero 0 [(.v (.bool false)),(.v (.string ⟨#[]⟩))])])
 (.seq (.seq (.region 0 [
 m_ 3 0,
 o_ 4 (.binI .lss .i64 (t_ 3) (.const (.int .i64 0)))])
 (.cond (t_ 4) (.seq (.region 0 [
 m_ 5 0,
 o_ 6 (.binI .add .i64 (t_ 5) (.const (.int .i64 1))),
 o_ 7 (.neg .i64 (t_ 6)),
 o_ 8 (.conv .u64 (t_ 7)),
 o_ 9 (.binI .add .u64 (t_ 8) (.const (.int .u64 1))),
 o_ 10 (.call 135 [(t_ 9)]),
 o_ 11 (.call 134 [(.const (.bool true)),(t_ 10)]),
 s_ (.store 2 (t_ 2) (t_ 11))])
 .ret) .skip))
 (.seq (.region 0 [
 m_ 12 0,
 o_ 13 (.conv .u64 (t_ 12)),
 o_ 14 (.call 135 [(t_ 13)]),
 o_ 15 (.call 134 [(.const (.bool false)),(t_ 14)]),
 s_ (.store 2 (t_ 2) (t_ 15))])
 .ret)))
def ir1135:AF:=⟨16,[(.cell 2 true 2)],b1135⟩
theorem c1135:compF tt Tryz.f93=some ir1135:=by kernel_rfl
def b1117:AC:=(.seq (.region 1 [
 o_ 0 (.zero 0 [(.v (.bool false)),(.v (.string ⟨#[]⟩))])])
 (.seq (.region 0 [
 o_ 1 (.call 93 [(.const (.int .i64 1))]),
 s_ (.store 2 (t_ 0) (t_ 1))])
 .ret))
def ir1117:AF:=⟨2,[(.cell 0 true 2)],b1117⟩
theorem c1117:compF tt Tryz.f94=some ir1117:=by kernel_rfl
def b1119:AC:=(.seq (.region 0 [
 o_ 2 (.mov (.const (.string ⟨#[]⟩)))])
 (.seq (.region 0 [
 m_ 3 0,
 o_ 4 (.call 142 [(t_ 3),(.const (.string ⟨#[0]⟩))]),
 m_ 2 4])
 .ret))
def ir1119:AF:=⟨5,[(.tmp 2)],b1119⟩
theorem c1119:compF tt Tryz.f101=some ir1119:=by kernel_rfl
def b2102:AC:=(.seq (.region 3 [
 o_ 2 (.box 0 (t_ 0)),
 o_ 3 (.box 1 (t_ 1)),
 o_ 4 (.zero 2 [(.v (.bool false)),(.v (.string ⟨#[]⟩))])])
 (.seq (.dregion 0 [
 o_ 5 (.load true 2 (t_ 2)),
 o_ 6 (.load true 2 (t_ 3)),
 o_ 7 (.call 66 [(t_ 6)]),
 o_ 8 (.call 31 [(t_ 5),(t_ 7)]),
 s_ (.store 2 (t_ 4) (t_ 8))] [[],[],[1],[0,2,2],[3,3,0,1,2,3]])
 .ret))
def ir2102:AF:=⟨9,[(.cell 4 true 2)],b2102⟩
theorem c2102:compF tt Tryz.f102=some ir2102:=by kernel_rfl
def b2103_0:AC:=(.region 0 [
 o_ 4 (.mov (.const (.string ⟨#[]⟩)))])
def b2103_1:AC:=(.region 0 [
 m_ 12 0,
 o_ 13 (.call 104 [(t_ 12)]),
 m_ 14 1,
 o_ 15 (.call 104 [(t_ 14)]),
 m_ 5 13,
 m_ 6 15])
def b2103_2:AC:=(.region 1 [
 m_ 16 5,
 o_ 17 (.lenL (t_ 16)),
 m_ 18 6,
 o_ 19 (.lenL (t_ 18)),
 o_ 20 (.binI .add .i64 (t_ 17) (t_ 19)),
 o_ 21 (.mksl 0 1 4 [(.v (.int .u32 0))] (t_ 20) (t_ 20)),
 m_ 7 21])
def b2103_3:AC:=(.seq (.region 0 [
 m_ 22 5,
 o_ 23 (.lenL (t_ 22)),
 o_ 24 (.mov (.const (.int .i64 0)))])
 (.block 0 (.loop (.seq (.region 0 [
 o_ 25 (.binI .lss .i64 (t_ 24) (t_ 23))])
 (.seq (.cond (t_ 25) .skip (.exit 0))
 (.seq (.block 1 (.seq (.region 0 [
 m_ 26 24,
 m_ 8 26])
 (.seq (.region 0 [
 o_ 9 (.mov (.const (.int .u64 0)))])
 (.seq (.seq (.region 0 [
 m_ 27 6,
 o_ 28 (.lenL (t_ 27)),
 o_ 29 (.mov (.const (.int .i64 0)))])
 (.block 2 (.loop (.seq (.region 0 [
 o_ 30 (.binI .lss .i64 (t_ 29) (t_ 28))])
 (.seq (.cond (t_ 30) .skip (.exit 2))
 (.seq (.block 3 (.seq (.region 0 [
 m_ 31 29,
 m_ 10 31])
 (.seq (.dregion 0 [
 m_ 32 5,
 m_ 33 8,
 o_ 34 (.iaddr 1 (t_ 32) (t_ 33)),
 o_ 35 (.load false 1 (t_ 34)),
 o_ 36 (.conv .u64 (t_ 35)),
 m_ 37 6,
 m_ 38 10,
 o_ 39 (.iaddr 1 (t_ 37) (t_ 38)),
 o_ 40 (.load false 1 (t_ 39)),
 o_ 41 (.conv .u64 (t_ 40)),
 o_ 42 (.binI .mul .u64 (t_ 36) (t_ 41)),
 m_ 43 7,
 m_ 44 8,
 m_ 45 10,
 o_ 46 (.binI .add .i64 (t_ 44) (t_ 45)),
 o_ 47 (.iaddr 1 (t_ 43) (t_ 46)),
 o_ 48 (.load false 1 (t_ 47)),
 o_ 49 (.conv .u64 (t_ 48)),
 o_ 50 (.binI .add .u64 (t_ 42) (t_ 49)),
 m_ 51 9,
 o_ 52 (.binI .add .u64 (t_ 50) (t_ 51)),
 m_ 11 52] [[],[],[0,1],[2],[3],[],[],[5,6],[7],[8],[4,9],[],[],[],[12,13],[11,14],[15],[16],[10,17],[],[18,19],[20,0,1,2,3,4,5,6,7,8,9,10,11,12,13,14,15,16,17,18,19,20]])
 (.region 0 [
 m_ 53 7,
 m_ 54 8,
 m_ 55 10,
 o_ 56 (.binI .add .i64 (t_ 54) (t_ 55)),
 m_ 57 11,
 o_ 58 (.conv .u32 (t_ 57)),
 m_ 59 11,
 o_ 60 (.shf .shr .u64 (t_ 59) (.const (.int .u64 32))),
 o_ 61 (.iaddr 1 (t_ 53) (t_ 56)),
 s_ (.store 1 (t_ 61) (t_ 58)),
 m_ 9 60]))))
 (.region 0 [
 o_ 62 (.binI .add .i64 (t_ 29) (.const (.int .i64 1))),
 m_ 29 62])))))))
 (.region 0 [
 m_ 63 7,
 m_ 64 8,
 m_ 65 6,
 o_ 66 (.lenL (t_ 65)),
 o_ 67 (.binI .add .i64 (t_ 64) (t_ 66)),
 m_ 68 9,
 o_ 69 (.conv .u32 (t_ 68)),
 o_ 70 (.iaddr 1 (t_ 63) (t_ 67)),
 s_ (.store 1 (t_ 70) (t_ 69))])))))
 (.region 0 [
 o_ 71 (.binI .add .i64 (t_ 24) (.const (.int .i64 1))),
 m_ 24 71])))))))
def b2103_4:AC:=(.region 0 [
 m_ 72 7,
 o_ 73 (.call 106 [(t_ 72)]),
 m_ 4 73])
def b2103_5:AC:=.ret
def b2103:AC:=(.seq b2103_0 (.seq b2103_1 (.seq b2103_2 (.seq b2103_3 (.seq b2103_4 b2103_5)))))
def ir2103:AF:=⟨74,[(.tmp 4)],b2103⟩
theorem c2103:compF tt Tryz.f103=some ir2103:=by kernel_rfl
def b1157:AC:=(.seq (.region 0 [
 o_ 2 (.mov (.const (.slice none 0 0)))])
 (.seq (.region 0 [
 m_ 5 0,
 o_ 6 (.call 101 [(t_ 5)]),
 m_ 0 6])
 (.seq (.region 1 [
 m_ 7 0,
 o_ 8 (.lenS (t_ 7)),
 o_ 9 (.binI .add .i64 (t_ 8) (.const (.int .i64 4))),
 o_ 10 (.binI .sub .i64 (t_ 9) (.const (.int .i64 1))),
 o_ 11 (.binI .quo .i64 (t_ 10) (.const (.int .i64 4))),
 o_ 12 (.mksl 0 1 4 [(.v (.int .u32 0))] (t_ 11) (t_ 11)),
 m_ 3 12])
 (.seq (.seq (.region 0 [
 m_ 13 0,
 o_ 14 (.lenS (t_ 13)),
 o_ 15 (.mov (.const (.int .i64 0)))])
 (.block 0 (.loop (.seq (.region 0 [
 o_ 16 (.binI .lss .i64 (t_ 15) (t_ 14))])
 (.seq (.cond (t_ 16) .skip (.exit 0))
 (.seq (.block 1 (.seq (.region 0 [
 m_ 17 15,
 m_ 4 17])
 (.dregion 0 [
 m_ 18 3,
 m_ 19 4,
 o_ 20 (.binI .quo .i64 (t_ 19) (.const (.int .i64 4))),
 o_ 21 (.iaddr 1 (t_ 18) (t_ 20)),
 o_ 22 (.load false 1 (t_ 21)),
 m_ 23 0,
 m_ 24 4,
 o_ 25 (.index (t_ 23) (t_ 24)),
 o_ 26 (.conv .u32 (t_ 25)),
 m_ 27 4,
 o_ 28 (.binI .rem .i64 (t_ 27) (.const (.int .i64 4))),
 o_ 29 (.binI .mul .i64 (.const (.int .i64 8)) (t_ 28)),
 o_ 30 (.shf .shl .u32 (t_ 26) (t_ 29)),
 o_ 31 (.binI .or .u32 (t_ 22) (t_ 30)),
 o_ 32 (.iaddr 1 (t_ 18) (t_ 20)),
 s_ (.store 1 (t_ 32) (t_ 31))] [[],[],[1],[0,2],[3],[],[],[5,6],[7],[],[9],[10],[8,11],[4,12],[0,2,0,1,2,3,4,5,6,7,8,9,10,11,12,13],[14,13,0,1,2,3,4,5,6,7,8,9,10,11,12,13]])))
 (.region 0 [
 o_ 33 (.binI .add .i64 (t_ 15) (.const (.int .i64 1))),
 m_ 15 33])))))))
 (.seq (.region 0 [
 m_ 34 3,
 m_ 2 34])
 .ret)))))
def ir1157:AF:=⟨35,[(.tmp 2)],b1157⟩
theorem c1157:compF tt Tryz.f104=some ir1157:=by kernel_rfl
def b1179:AC:=(.seq (.region 0 [
 o_ 6 (.mov (.const (.int .u32 0))),
 o_ 7 (.mov (.const (.int .u32 0)))])
 (.seq (.region 0 [
 m_ 9 0,
 o_ 10 (.conv .u64 (t_ 9)),
 m_ 11 1,
 o_ 12 (.conv .u64 (t_ 11)),
 o_ 13 (.binI .add .u64 (t_ 10) (t_ 12)),
 m_ 14 2,
 o_ 15 (.conv .u64 (t_ 14)),
 o_ 16 (.binI .add .u64 (t_ 13) (t_ 15)),
 m_ 8 16])
 (.seq (.region 0 [
 m_ 17 8,
 o_ 18 (.conv .u32 (t_ 17)),
 m_ 6 18])
 (.seq (.region 0 [
 m_ 19 8,
 o_ 20 (.shf .shr .u64 (t_ 19) (.const (.int .u64 32))),
 o_ 21 (.conv .u32 (t_ 20)),
 m_ 7 21])
 .ret))))
def ir1179:AF:=⟨22,[(.tmp 6),(.tmp 7)],b1179⟩
theorem c1179:compF tt Tryz.f105=some ir1179:=by kernel_rfl
def b1160:AC:=(.seq (.region 0 [
 o_ 2 (.mov (.const (.string ⟨#[]⟩)))])
 (.seq (.region 1 [
 m_ 7 0,
 o_ 8 (.lenL (t_ 7)),
 o_ 9 (.binI .mul .i64 (.const (.int .i64 4)) (t_ 8)),
 o_ 10 (.mksl 0 1 1 [(.v (.int .u8 0))] (.const (.int .i64 0)) (t_ 9)),
 m_ 3 10])
 (.seq (.seq (.region 0 [
 m_ 11 0,
 o_ 12 (.lenL (t_ 11)),
 o_ 13 (.mov (.const (.int .i64 0)))])
 (.block 0 (.loop (.seq (.region 0 [
 o_ 14 (.binI .lss .i64 (t_ 13) (t_ 12))])
 (.seq (.cond (t_ 14) .skip (.exit 0))
 (.seq (.block 1 (.seq (.region 0 [
 o_ 15 (.iaddr 1 (t_ 11) (t_ 13)),
 o_ 16 (.load false 1 (t_ 15)),
 m_ 5 16])
 (.seq (.region 0 [
 o_ 17 (.mov (.const (.int .i64 0)))])
 (.block 2 (.loop (.seq (.region 0 [
 o_ 18 (.binI .lss .i64 (t_ 17) (.const (.int .i64 4)))])
 (.seq (.cond (t_ 18) .skip (.exit 2))
 (.seq (.block 3 (.seq (.region 0 [
 m_ 19 17,
 m_ 6 19])
 (.region 2 [
 m_ 20 3,
 m_ 21 5,
 m_ 22 6,
 o_ 23 (.binI .mul .i64 (.const (.int .i64 8)) (t_ 22)),
 o_ 24 (.shf .shr .u32 (t_ 21) (t_ 23)),
 o_ 25 (.conv .u8 (t_ 24)),
 o_ 26 (.bsl 0 1 [(.v (.int .u8 0))] 1 [(0,(t_ 25))]),
 o_ 27 (.app 1 1 1 (t_ 20) (t_ 26)),
 m_ 3 27])))
 (.region 0 [
 o_ 28 (.binI .add .i64 (t_ 17) (.const (.int .i64 1))),
 m_ 17 28])))))))))
 (.region 0 [
 o_ 29 (.binI .add .i64 (t_ 13) (.const (.int .i64 1))),
 m_ 13 29])))))))
 (.seq (.region 0 [
 m_ 30 3,
 o_ 31 (.str (t_ 30)),
 o_ 32 (.call 101 [(t_ 31)]),
 m_ 2 32])
 .ret))))
def ir1160:AF:=⟨33,[(.tmp 2)],b1160⟩
theorem c1160:compF tt Tryz.f106=some ir1160:=by kernel_rfl
def b1158:AC:=(.seq (.region 0 [
 o_ 4 (.mov (.const (.int .i64 0)))])
 (.seq (.region 0 [
 m_ 7 0,
 o_ 8 (.call 101 [(t_ 7)]),
 m_ 9 1,
 o_ 10 (.call 101 [(t_ 9)]),
 m_ 0 8,
 m_ 1 10])
 (.seq (.seq (.region 0 [
 m_ 11 0,
 o_ 12 (.lenS (t_ 11)),
 m_ 13 1,
 o_ 14 (.lenS (t_ 13)),
 o_ 15 (.binI .neq .i64 (t_ 12) (t_ 14))])
 (.cond (t_ 15) (.seq (.seq (.region 0 [
 m_ 16 0,
 o_ 17 (.lenS (t_ 16)),
 m_ 18 1,
 o_ 19 (.lenS (t_ 18)),
 o_ 20 (.binI .lss .i64 (t_ 17) (t_ 19))])
 (.cond (t_ 20) (.seq (.region 0 [
 o_ 4 (.mov (.const (.int .i64 (-1))))])
 .ret) .skip))
 (.seq (.region 0 [
 o_ 4 (.mov (.const (.int .i64 1)))])
 .ret)) .skip))
 (.seq (.seq (.region 0 [
 m_ 21 0,
 o_ 22 (.lenS (t_ 21)),
 o_ 23 (.mov (.const (.int .i64 0)))])
 (.block 0 (.loop (.seq (.region 0 [
 o_ 24 (.binI .lss .i64 (t_ 23) (t_ 22))])
 (.seq (.cond (t_ 24) .skip (.exit 0))
 (.seq (.block 1 (.seq (.region 0 [
 m_ 25 23,
 m_ 5 25])
 (.seq (.region 0 [
 m_ 26 0,
 o_ 27 (.lenS (t_ 26)),
 o_ 28 (.binI .sub .i64 (t_ 27) (.const (.int .i64 1))),
 m_ 29 5,
 o_ 30 (.binI .sub .i64 (t_ 28) (t_ 29)),
 m_ 6 30])
 (.seq (.dregion 0 [
 m_ 31 0,
 m_ 32 6,
 o_ 33 (.index (t_ 31) (t_ 32)),
 m_ 34 1,
 m_ 35 6,
 o_ 36 (.index (t_ 34) (t_ 35)),
 o_ 37 (.binI .neq .u8 (t_ 33) (t_ 36))] [[],[],[0,1],[],[],[3,4],[2,5]])
 (.cond (t_ 37) (.seq (.seq (.dregion 0 [
 m_ 38 0,
 m_ 39 6,
 o_ 40 (.index (t_ 38) (t_ 39)),
 m_ 41 1,
 m_ 42 6,
 o_ 43 (.index (t_ 41) (t_ 42)),
 o_ 44 (.binI .lss .u8 (t_ 40) (t_ 43))] [[],[],[0,1],[],[],[3,4],[2,5]])
 (.cond (t_ 44) (.seq (.region 0 [
 o_ 4 (.mov (.const (.int .i64 (-1))))])
 .ret) .skip))
 (.seq (.region 0 [
 o_ 4 (.mov (.const (.int .i64 1)))])
 .ret)) .skip)))))
 (.region 0 [
 o_ 45 (.binI .add .i64 (t_ 23) (.const (.int .i64 1))),
 m_ 23 45])))))))
 (.seq (.region 0 [
 o_ 4 (.mov (.const (.int .i64 0)))])
 .ret)))))
def ir1158:AF:=⟨46,[(.tmp 4)],b1158⟩
theorem c1158:compF tt Tryz.f107=some ir1158:=by kernel_rfl
def b1178:AC:=(.seq (.region 0 [
 o_ 6 (.mov (.const (.int .u32 0))),
 o_ 7 (.mov (.const (.int .u32 0)))])
 (.seq (.region 0 [
 m_ 8 0,
 m_ 9 1,
 o_ 10 (.binI .sub .u32 (t_ 8) (t_ 9)),
 m_ 11 2,
 o_ 12 (.binI .sub .u32 (t_ 10) (t_ 11)),
 m_ 6 12])
 (.seq (.region 0 [
 m_ 13 0,
 o_ 14 (.cpl .u32 (t_ 13)),
 m_ 15 1,
 o_ 16 (.binI .and .u32 (t_ 14) (t_ 15)),
 m_ 17 0,
 m_ 18 1,
 o_ 19 (.binI .xor .u32 (t_ 17) (t_ 18)),
 o_ 20 (.cpl .u32 (t_ 19)),
 m_ 21 6,
 o_ 22 (.binI .and .u32 (t_ 20) (t_ 21)),
 o_ 23 (.binI .or .u32 (t_ 16) (t_ 22)),
 o_ 24 (.shf .shr .u32 (t_ 23) (.const (.int .u64 31))),
 m_ 7 24])
 .ret)))
def ir1178:AF:=⟨25,[(.tmp 6),(.tmp 7)],b1178⟩
theorem c1178:compF tt Tryz.f108=some ir1178:=by kernel_rfl
def b1156:AC:=(.seq (.region 0 [
 o_ 2 (.mov (.const (.int .u64 0))),
 o_ 3 (.mov (.const (.bool false)))])
 (.seq (.region 0 [
 m_ 6 0,
 o_ 7 (.call 101 [(t_ 6)]),
 m_ 0 7])
 (.seq (.seq (.region 0 [
 m_ 8 0,
 o_ 9 (.lenS (t_ 8)),
 o_ 10 (.binI .gtr .i64 (t_ 9) (.const (.int .i64 8)))])
 (.cond (t_ 10) (.seq (.region 0 [
 o_ 2 (.mov (.const (.int .u64 0))),
 o_ 3 (.mov (.const (.bool false)))])
 .ret) .skip))
 (.seq (.region 0 [
 o_ 4 (.mov (.const (.int .u64 0)))])
 (.seq (.seq (.region 0 [
 m_ 11 0,
 o_ 12 (.lenS (t_ 11)),
 o_ 13 (.mov (.const (.int .i64 0)))])
 (.block 0 (.loop (.seq (.region 0 [
 o_ 14 (.binI .lss .i64 (t_ 13) (t_ 12))])
 (.seq (.cond (t_ 14) .skip (.exit 0))
 (.seq (.block 1 (.seq (.region 0 [
 m_ 15 13,
 m_ 5 15])
 (.region 0 [
 m_ 16 4,
 m_ 17 0,
 m_ 18 5,
 o_ 19 (.index (t_ 17) (t_ 18)),
 o_ 20 (.conv .u64 (t_ 19)),
 m_ 21 5,
 o_ 22 (.binI .mul .i64 (.const (.int .i64 8)) (t_ 21)),
 o_ 23 (.shf .shl .u64 (t_ 20) (t_ 22)),
 o_ 24 (.binI .or .u64 (t_ 16) (t_ 23)),
 m_ 4 24])))
 (.region 0 [
 o_ 25 (.binI .add .i64 (t_ 13) (.const (.int .i64 1))),
 m_ 13 25])))))))
 (.seq (.region 0 [
 m_ 26 4,
 m_ 2 26,
 o_ 3 (.mov (.const (.bool true)))])
 .ret))))))
def ir1156:AF:=⟨27,[(.tmp 2),(.tmp 3)],b1156⟩
theorem c1156:compF tt Tryz.f109=some ir1156:=by kernel_rfl
def b1159:AC:=(.seq (.region 0 [
 o_ 4 (.mov (.const (.slice none 0 0))),
 o_ 5 (.mov (.const (.int .u32 0)))])
 (.seq (.region 1 [
 m_ 10 0,
 o_ 11 (.lenL (t_ 10)),
 o_ 12 (.mksl 0 1 4 [(.v (.int .u32 0))] (t_ 11) (t_ 11)),
 m_ 6 12])
 (.seq (.region 0 [
 o_ 7 (.mov (.const (.int .u32 0)))])
 (.seq (.seq (.region 0 [
 m_ 13 0,
 o_ 14 (.lenL (t_ 13)),
 o_ 15 (.mov (.const (.int .i64 0)))])
 (.block 0 (.loop (.seq (.region 0 [
 o_ 16 (.binI .lss .i64 (t_ 15) (t_ 14))])
 (.seq (.cond (t_ 16) .skip (.exit 0))
 (.seq (.block 1 (.seq (.region 0 [
 m_ 17 15,
 m_ 8 17])
 (.seq (.region 0 [
 m_ 18 0,
 o_ 19 (.lenL (t_ 18)),
 o_ 20 (.binI .sub .i64 (t_ 19) (.const (.int .i64 1))),
 m_ 21 8,
 o_ 22 (.binI .sub .i64 (t_ 20) (t_ 21)),
 m_ 9 22])
 (.region 0 [
 m_ 24 6,
 m_ 25 9,
 m_ 26 7,
 m_ 27 0,
 m_ 28 9,
 o_ 29 (.iaddr 1 (t_ 27) (t_ 28)),
 o_ 30 (.load false 1 (t_ 29)),
 m_ 31 1,
 o_ 32 (.call 143 [(t_ 26),(t_ 30),(t_ 31)]),
 m_ 23 32,
 o_ 33 (.ext (t_ 23) 0),
 o_ 34 (.ext (t_ 23) 1),
 o_ 35 (.iaddr 1 (t_ 24) (t_ 25)),
 s_ (.store 1 (t_ 35) (t_ 33)),
 m_ 7 34]))))
 (.region 0 [
 o_ 36 (.binI .add .i64 (t_ 15) (.const (.int .i64 1))),
 m_ 15 36])))))))
 (.seq (.region 0 [
 m_ 37 6,
 m_ 38 7,
 m_ 4 37,
 m_ 5 38])
 .ret)))))
def ir1159:AF:=⟨39,[(.tmp 4),(.tmp 5)],b1159⟩
theorem c1159:compF tt Tryz.f110=some ir1159:=by kernel_rfl
def b1161_0:AC:=(.region 0 [
 o_ 4 (.mov (.const (.slice none 0 0))),
 o_ 5 (.mov (.const (.slice none 0 0)))])
def b1161_1:AC:=(.region 0 [
 m_ 15 1,
 m_ 16 1,
 o_ 17 (.lenL (t_ 16)),
 o_ 18 (.binI .sub .i64 (t_ 17) (.const (.int .i64 1))),
 o_ 19 (.iaddr 1 (t_ 15) (t_ 18)),
 o_ 20 (.load false 1 (t_ 19)),
 o_ 21 (.call 144 [(t_ 20)]),
 m_ 6 21])
def b1161_2:AC:=(.region 0 [
 m_ 22 1,
 m_ 23 6,
 o_ 24 (.call 145 [(t_ 22),(t_ 23)]),
 m_ 25 1,
 o_ 26 (.lenL (t_ 25)),
 o_ 27 (.slice 1 (t_ 24) none (some (t_ 26))),
 m_ 1 27])
def b1161_3:AC:=(.region 0 [
 m_ 28 0,
 m_ 29 6,
 o_ 30 (.call 145 [(t_ 28),(t_ 29)]),
 m_ 0 30])
def b1161_4:AC:=(.region 0 [
 m_ 31 1,
 o_ 32 (.lenL (t_ 31)),
 m_ 7 32])
def b1161_5:AC:=(.region 0 [
 m_ 33 1,
 m_ 34 7,
 o_ 35 (.binI .sub .i64 (t_ 34) (.const (.int .i64 1))),
 o_ 36 (.iaddr 1 (t_ 33) (t_ 35)),
 o_ 37 (.load false 1 (t_ 36)),
 m_ 8 37])
def b1161_6:AC:=(.region 1 [
 m_ 38 0,
 o_ 39 (.lenL (t_ 38)),
 m_ 40 7,
 o_ 41 (.binI .sub .i64 (t_ 39) (t_ 40)),
 o_ 42 (.maxmin true .i64 (t_ 41) (.const (.int .i64 0))),
 o_ 43 (.mksl 0 1 4 [(.v (.int .u32 0))] (t_ 42) (t_ 42)),
 m_ 9 43])
def b1161_7:AC:=(.seq (.region 0 [
 m_ 44 9,
 o_ 45 (.lenL (t_ 44)),
 o_ 46 (.mov (.const (.int .i64 0)))])
 (.block 0 (.loop (.seq (.region 0 [
 o_ 47 (.binI .lss .i64 (t_ 46) (t_ 45))])
 (.seq (.cond (t_ 47) .skip (.exit 0))
 (.seq (.block 1 (.seq (.region 0 [
 m_ 48 46,
 m_ 10 48])
 (.seq (.region 0 [
 m_ 49 9,
 o_ 50 (.lenL (t_ 49)),
 o_ 51 (.binI .sub .i64 (t_ 50) (.const (.int .i64 1))),
 m_ 52 10,
 o_ 53 (.binI .sub .i64 (t_ 51) (t_ 52)),
 m_ 11 53])
 (.seq (.dregion 0 [
 m_ 54 0,
 m_ 55 11,
 m_ 56 7,
 o_ 57 (.binI .add .i64 (t_ 55) (t_ 56)),
 o_ 58 (.iaddr 1 (t_ 54) (t_ 57)),
 o_ 59 (.load false 1 (t_ 58)),
 o_ 60 (.conv .u64 (t_ 59)),
 o_ 61 (.shf .shl .u64 (t_ 60) (.const (.int .u64 32))),
 m_ 62 0,
 m_ 63 11,
 m_ 64 7,
 o_ 65 (.binI .add .i64 (t_ 63) (t_ 64)),
 o_ 66 (.binI .sub .i64 (t_ 65) (.const (.int .i64 1))),
 o_ 67 (.iaddr 1 (t_ 62) (t_ 66)),
 o_ 68 (.load false 1 (t_ 67)),
 o_ 69 (.conv .u64 (t_ 68)),
 o_ 70 (.binI .or .u64 (t_ 61) (t_ 69)),
 m_ 12 70] [[],[],[],[1,2],[0,3],[4],[5],[6],[],[],[],[9,10],[11],[8,12],[13],[14],[7,15],[16,0,1,2,3,4,5,6,7,8,9,10,11,12,13,14,15,16]])
 (.seq (.dregion 0 [
 m_ 71 12,
 m_ 72 8,
 o_ 73 (.conv .u64 (t_ 72)),
 o_ 74 (.binI .quo .u64 (t_ 71) (t_ 73)),
 m_ 75 12,
 m_ 76 8,
 o_ 77 (.conv .u64 (t_ 76)),
 o_ 78 (.binI .rem .u64 (t_ 75) (t_ 77)),
 m_ 13 74,
 m_ 14 78] [[],[],[1],[0,2],[],[],[5],[4,6],[3,0,1,2,3],[7,8,0,1,2,3,4,5,6,7,8]])
 (.seq (.block 2 (.loop (.seq (.seq (.dregion 0 [
 m_ 79 13,
 o_ 80 (.binI .gtr .u64 (t_ 79) (.const (.int .u64 4294967295))),
 m_ 81 80,
 g_ 82 (.mov (t_ 13)) 81 false,
 g_ 83 (.mov (t_ 1)) 81 false,
 g_ 84 (.mov (t_ 7)) 81 false,
 g_ 85 (.binI .sub .i64 (t_ 84) (.const (.int .i64 2))) 81 false,
 g_ 86 (.iaddr 1 (t_ 83) (t_ 85)) 81 false,
 g_ 87 (.load false 1 (t_ 86)) 81 false,
 g_ 88 (.conv .u64 (t_ 87)) 81 false,
 g_ 89 (.binI .mul .u64 (t_ 82) (t_ 88)) 81 false,
 g_ 90 (.mov (t_ 14)) 81 false,
 g_ 91 (.shf .shl .u64 (t_ 90) (.const (.int .u64 32))) 81 false,
 g_ 92 (.mov (t_ 0)) 81 false,
 g_ 93 (.mov (t_ 11)) 81 false,
 g_ 94 (.mov (t_ 7)) 81 false,
 g_ 95 (.binI .add .i64 (t_ 93) (t_ 94)) 81 false,
 g_ 96 (.binI .sub .i64 (t_ 95) (.const (.int .i64 2))) 81 false,
 g_ 97 (.iaddr 1 (t_ 92) (t_ 96)) 81 false,
 g_ 98 (.load false 1 (t_ 97)) 81 false,
 g_ 99 (.conv .u64 (t_ 98)) 81 false,
 g_ 100 (.binI .or .u64 (t_ 91) (t_ 99)) 81 false,
 g_ 101 (.binI .gtr .u64 (t_ 89) (t_ 100)) 81 false,
 o_ 102 (.pick (t_ 81) (.const (.bool true)) (t_ 101))] [[],[0],[1],[2],[2],[2],[5,2],[4,6,2],[7,2],[8,2],[3,9,2],[2],[11,2],[2],[2],[2],[14,15,2],[16,2],[13,17,2],[18,2],[19,2],[12,20,2],[10,21,2],[2,22]])
 (.cond (t_ 102) .skip (.exit 2)))
 (.block 3 (.seq (.region 0 [
 m_ 103 13,
 o_ 104 (.binI .sub .u64 (t_ 103) (.const (.int .u64 1))),
 m_ 105 14,
 m_ 106 8,
 o_ 107 (.conv .u64 (t_ 106)),
 o_ 108 (.binI .add .u64 (t_ 105) (t_ 107)),
 m_ 13 104,
 m_ 14 108])
 (.seq (.region 0 [
 m_ 109 14,
 o_ 110 (.binI .gtr .u64 (t_ 109) (.const (.int .u64 4294967295)))])
 (.cond (t_ 110) (.exit 2) .skip)))))))
 (.seq (.seq (.region 0 [
 m_ 111 0,
 m_ 112 11,
 m_ 113 11,
 m_ 114 7,
 o_ 115 (.binI .add .i64 (t_ 113) (t_ 114)),
 o_ 116 (.binI .add .i64 (t_ 115) (.const (.int .i64 1))),
 o_ 117 (.slice 1 (t_ 111) (some (t_ 112)) (some (t_ 116))),
 m_ 118 1,
 m_ 119 13,
 o_ 120 (.conv .u32 (t_ 119)),
 o_ 121 (.call 146 [(t_ 117),(t_ 118),(t_ 120)])])
 (.cond (t_ 121) (.region 0 [
 m_ 122 13,
 o_ 123 (.binI .sub .u64 (t_ 122) (.const (.int .u64 1))),
 m_ 13 123]) .skip))
 (.region 0 [
 m_ 124 9,
 m_ 125 11,
 m_ 126 13,
 o_ 127 (.conv .u32 (t_ 126)),
 o_ 128 (.iaddr 1 (t_ 124) (t_ 125)),
 s_ (.store 1 (t_ 128) (t_ 127))]))))))))
 (.region 0 [
 o_ 129 (.binI .add .i64 (t_ 46) (.const (.int .i64 1))),
 m_ 46 129])))))))
def b1161_8:AC:=(.region 0 [
 m_ 130 9,
 m_ 131 0,
 m_ 132 7,
 o_ 133 (.slice 1 (t_ 131) none (some (t_ 132))),
 m_ 134 6,
 o_ 135 (.call 147 [(t_ 133),(t_ 134)]),
 m_ 4 130,
 m_ 5 135])
def b1161_9:AC:=.ret
def b1161:AC:=(.seq b1161_0 (.seq b1161_1 (.seq b1161_2 (.seq b1161_3 (.seq b1161_4 (.seq b1161_5 (.seq b1161_6 (.seq b1161_7 (.seq b1161_8 b1161_9)))))))))
def ir1161:AF:=⟨136,[(.tmp 4),(.tmp 5)],b1161⟩
theorem c1161:compF tt Tryz.f111=some ir1161:=by kernel_rfl
def b1075:AC:=(.seq (.region 1 [
 o_ 1 (.box 0 (t_ 0)),
 o_ 2 (.mov (.const (.bool false)))])
 (.seq (.region 0 [
 o_ 3 (.faddr 0 (t_ 1)),
 o_ 4 (.load false 1 (t_ 3)),
 o_ 5 (.call 46 [(t_ 4)]),
 m_ 6 5,
 g_ 7 (.faddr 1 (t_ 1)) 6 true,
 g_ 8 (.load false 1 (t_ 7)) 6 true,
 g_ 9 (.binI .geq .i64 (t_ 8) (.const (.int .i64 1))) 6 true,
 o_ 10 (.pick (t_ 6) (t_ 9) (.const (.bool false))),
 m_ 11 10,
 g_ 12 (.faddr 1 (t_ 1)) 11 true,
 g_ 13 (.load false 1 (t_ 12)) 11 true,
 g_ 14 (.binI .leq .i64 (t_ 13) (.const (.int .i64 1000000000))) 11 true,
 o_ 15 (.pick (t_ 11) (t_ 14) (.const (.bool false))),
 m_ 2 15])
 .ret))
def ir1075:AF:=⟨16,[(.tmp 2)],b1075⟩
theorem c1075:compF tt Tryz.f112=some ir1075:=by kernel_rfl
def b1076:AC:=(.seq (.region 1 [
 o_ 1 (.box 0 (t_ 0)),
 o_ 2 (.mov (.const (.bool false)))])
 (.seq (.dregion 0 [
 o_ 3 (.load true 3 (t_ 1)),
 o_ 4 (.call 50 [(t_ 3)]),
 o_ 5 (.load true 3 (t_ 1)),
 o_ 6 (.eqA false [.b,.s,.s] (t_ 4) (t_ 5)),
 m_ 7 6,
 g_ 8 (.load true 3 (t_ 1)) 7 true,
 g_ 9 (.call 25 [(t_ 8),(.const (.int .i64 16))]) 7 true,
 o_ 10 (.pick (t_ 7) (t_ 9) (.const (.bool false))),
 m_ 2 10] [[],[0],[],[1,2],[3,1],[4],[5,4,4],[4,6],[7,6,0,1,2,3,4,5,6,7]])
 .ret))
def ir1076:AF:=⟨11,[(.tmp 2)],b1076⟩
theorem c1076:compF tt Tryz.f113=some ir1076:=by kernel_rfl
def b1077:AC:=(.seq (.region 0 [
 o_ 2 (.mov (.const (.bool false)))])
 (.seq (.seq (.region 0 [
 o_ 3 (.mov (.const (.int .i64 0)))])
 (.block 0 (.loop (.seq (.seq (.region 0 [
 m_ 4 3,
 m_ 5 0,
 o_ 6 (.lenS (t_ 5)),
 o_ 7 (.binI .lss .i64 (t_ 4) (t_ 6))])
 (.cond (t_ 7) .skip (.exit 0)))
 (.seq (.block 1 (.seq (.region 0 [
 m_ 10 0,
 m_ 11 3,
 o_ 12 (.index (t_ 10) (t_ 11)),
 o_ 13 (.binI .lss .u8 (t_ 12) (.const (.int .u8 97))),
 m_ 14 13,
 g_ 15 (.mov (t_ 0)) 14 false,
 g_ 16 (.mov (t_ 3)) 14 false,
 g_ 17 (.index (t_ 15) (t_ 16)) 14 false,
 g_ 18 (.binI .gtr .u8 (t_ 17) (.const (.int .u8 122))) 14 false,
 o_ 19 (.pick (t_ 14) (.const (.bool true)) (t_ 18))])
 (.cond (t_ 19) (.seq (.region 0 [
 o_ 2 (.mov (.const (.bool false)))])
 .ret) .skip)))
 (.region 0 [
 m_ 8 3,
 o_ 9 (.binI .add .i64 (t_ 8) (.const (.int .i64 1))),
 m_ 3 9]))))))
 (.seq (.region 0 [
 m_ 20 0,
 o_ 21 (.lenS (t_ 20)),
 o_ 22 (.binI .geq .i64 (t_ 21) (.const (.int .i64 1))),
 m_ 23 22,
 g_ 24 (.mov (t_ 0)) 23 true,
 g_ 25 (.lenS (t_ 24)) 23 true,
 g_ 26 (.binI .leq .i64 (t_ 25) (.const (.int .i64 24))) 23 true,
 o_ 27 (.pick (t_ 23) (t_ 26) (.const (.bool false))),
 m_ 2 27])
 .ret)))
def ir1077:AF:=⟨28,[(.tmp 2)],b1077⟩
theorem c1077:compF tt Tryz.f114=some ir1077:=by kernel_rfl
def b1078:AC:=(.seq (.region 1 [
 o_ 0 (.zero 0 [(.v (.string ⟨#[]⟩)),(.v (.int .i64 0))])])
 (.seq (.region 0 [
 o_ 1 (.build [(.v (.string ⟨#[]⟩)),(.v (.int .i64 0))] [(0,(1,(.const (.string ⟨#[45]⟩))))]),
 s_ (.store 2 (t_ 0) (t_ 1))])
 .ret))
def ir1078:AF:=⟨2,[(.cell 0 true 2)],b1078⟩
theorem c1078:compF tt Tryz.f115=some ir1078:=by kernel_rfl
def b1079:AC:=(.seq (.region 0 [
 o_ 4 (.mov (.const (.bool false)))])
 (.seq (.region 0 [
 m_ 9 1,
 o_ 10 (.call 148 [(t_ 9)]),
 m_ 8 10,
 o_ 11 (.ext (t_ 8) 0),
 o_ 12 (.ext (t_ 8) 1),
 m_ 5 11,
 m_ 6 12])
 (.seq (.seq (.region 0 [
 m_ 13 5,
 o_ 14 (.lenL (t_ 13)),
 o_ 15 (.mov (.const (.int .i64 0)))])
 (.block 0 (.loop (.seq (.region 0 [
 o_ 16 (.binI .lss .i64 (t_ 15) (t_ 14))])
 (.seq (.cond (t_ 16) .skip (.exit 0))
 (.seq (.block 1 (.seq (.region 0 [
 m_ 17 15,
 m_ 7 17])
 (.seq (.region 0 [
 m_ 18 5,
 m_ 19 7,
 o_ 20 (.iaddr 1 (t_ 18) (t_ 19)),
 o_ 21 (.load false 1 (t_ 20)),
 m_ 22 0,
 o_ 23 (.binS .eql (t_ 21) (t_ 22))])
 (.cond (t_ 23) (.seq (.region 0 [
 o_ 4 (.mov (.const (.bool false)))])
 .ret) .skip))))
 (.region 0 [
 o_ 24 (.binI .add .i64 (t_ 15) (.const (.int .i64 1))),
 m_ 15 24])))))))
 (.seq (.region 0 [
 m_ 25 6,
 m_ 4 25])
 .ret))))
def ir1079:AF:=⟨26,[(.tmp 4)],b1079⟩
theorem c1079:compF tt Tryz.f116=some ir1079:=by kernel_rfl
def b77:AC:=(.seq (.region 0 [
 m_ 10 1,
 o_ 11 (.binI .add .i64 (t_ 10) (.const (.int .i64 1))),
 m_ 8 11])
 (.block 0 (.loop (.seq (.seq (.region 0 [
 m_ 12 8,
 m_ 13 2,
 o_ 14 (.binI .lss .i64 (t_ 12) (t_ 13))])
 (.cond (t_ 14) .skip (.exit 0)))
 (.seq (.block 1 (.seq (.region 0 [
 m_ 17 8,
 m_ 9 17])
 (.block 2 (.loop (.seq (.seq (.dregion 0 [
 m_ 18 9,
 m_ 19 1,
 o_ 20 (.binI .gtr .i64 (t_ 18) (t_ 19)),
 m_ 21 20,
 g_ 22 (.mov (t_ 3)) 21 true,
 g_ 23 (.mov (t_ 0)) 21 true,
 g_ 24 (.mov (t_ 9)) 21 true,
 g_ 25 (.iaddr 8 (t_ 23) (t_ 24)) 21 true,
 g_ 26 (.load true 8 (t_ 25)) 21 true,
 g_ 27 (.mov (t_ 0)) 21 true,
 g_ 28 (.mov (t_ 9)) 21 true,
 g_ 29 (.binI .sub .i64 (t_ 28) (.const (.int .i64 1))) 21 true,
 g_ 30 (.iaddr 8 (t_ 27) (t_ 29)) 21 true,
 g_ 31 (.load true 8 (t_ 30)) 21 true,
 g_ 32 (.callv (t_ 22) [(t_ 26),(t_ 31)]) 21 true,
 g_ 33 (.binI .lss .i64 (t_ 32) (.const (.int .i64 0))) 21 true,
 o_ 34 (.pick (t_ 21) (t_ 33) (.const (.bool false)))] [[],[],[0,1],[2],[3],[3],[3],[5,6,3],[7,3],[3],[3],[10,3],[9,11,3],[12,3],[4,8,13,3,3],[14,3],[3,15]])
 (.cond (t_ 34) .skip (.exit 2)))
 (.seq (.block 3 (.dregion 0 [
 m_ 37 0,
 m_ 38 9,
 m_ 39 0,
 m_ 40 9,
 o_ 41 (.binI .sub .i64 (t_ 40) (.const (.int .i64 1))),
 m_ 42 0,
 m_ 43 9,
 o_ 44 (.binI .sub .i64 (t_ 43) (.const (.int .i64 1))),
 o_ 45 (.iaddr 8 (t_ 42) (t_ 44)),
 o_ 46 (.load true 8 (t_ 45)),
 m_ 47 0,
 m_ 48 9,
 o_ 49 (.iaddr 8 (t_ 47) (t_ 48)),
 o_ 50 (.load true 8 (t_ 49)),
 o_ 51 (.iaddr 8 (t_ 37) (t_ 38)),
 s_ (.store 8 (t_ 51) (t_ 46)),
 o_ 52 (.iaddr 8 (t_ 39) (t_ 41)),
 s_ (.store 8 (t_ 52) (t_ 50))] [[],[],[],[],[3],[],[],[6],[5,7],[8],[],[],[10,11],[12],[0,1,0,1,5,6,7,8,9,13],[14,9,0,1,5,6,7,8,9,13],[2,4,0,1,2,3,4,5,6,7,8,9,10,11,12,13,14,15],[16,13,15,0,1,2,3,4,5,6,7,8,9,10,11,12,13,14,15]]))
 (.region 0 [
 m_ 35 9,
 o_ 36 (.binI .sub .i64 (t_ 35) (.const (.int .i64 1))),
 m_ 9 36])))))))
 (.region 0 [
 m_ 15 8,
 o_ 16 (.binI .add .i64 (t_ 15) (.const (.int .i64 1))),
 m_ 8 16]))))))
def ir77:AF:=⟨53,[],b77⟩
theorem c77:compF tt Tryz.f117=some ir77:=by kernel_rfl
def b2127:AC:=(.seq (.region 0 [
 o_ 2 (.mov (.const (.bool false)))])
 (.seq (.region 0 [
 m_ 3 0,
 m_ 4 0,
 o_ 5 (.binS .neq (t_ 3) (t_ 4)),
 m_ 2 5])
 .ret))
def ir2127:AF:=⟨6,[(.tmp 2)],b2127⟩
theorem c2127:compF tt Tryz.f127=some ir2127:=by kernel_rfl
def b65:AC:=(.seq (.region 0 [
 o_ 2 (.mov (.const (.bool false)))])
 (.seq (.region 0 [
 m_ 3 0,
 m_ 4 0,
 o_ 5 (.binI .neq .i64 (t_ 3) (t_ 4)),
 m_ 2 5])
 .ret))
def ir65:AF:=⟨6,[(.tmp 2)],b65⟩
theorem c65:compF tt Tryz.f128=some ir65:=by kernel_rfl
def b64_0:AC:=(.region 0 [
 o_ 6 (.mov (.const (.int .i64 20)))])
def b64_1:AC:=(.region 0 [
 m_ 10 6,
 o_ 7 (.mov (.const (.int .i64 0))),
 m_ 8 10])
def b64_2:AC:=(.block 0 (.loop (.seq (.seq (.region 0 [
 m_ 11 8,
 m_ 12 1,
 o_ 13 (.binI .leq .i64 (t_ 11) (t_ 12))])
 (.cond (t_ 13) .skip (.exit 0)))
 (.block 1 (.seq (.region 0 [
 m_ 14 0,
 m_ 15 7,
 m_ 16 8,
 m_ 17 2,
 o_ 18 (.call 117 [(t_ 14),(t_ 15),(t_ 16),(t_ 17)])])
 (.seq (.region 0 [
 m_ 19 8,
 m_ 7 19])
 (.region 0 [
 m_ 20 8,
 m_ 21 6,
 o_ 22 (.binI .add .i64 (t_ 20) (t_ 21)),
 m_ 8 22])))))))
def b64_3:AC:=(.region 0 [
 m_ 23 0,
 m_ 24 7,
 m_ 25 1,
 m_ 26 2,
 o_ 27 (.call 117 [(t_ 23),(t_ 24),(t_ 25),(t_ 26)])])
def b64_4:AC:=(.block 2 (.loop (.seq (.seq (.region 0 [
 m_ 28 6,
 m_ 29 1,
 o_ 30 (.binI .lss .i64 (t_ 28) (t_ 29))])
 (.cond (t_ 30) .skip (.exit 2)))
 (.block 3 (.seq (.region 0 [
 m_ 31 6,
 o_ 32 (.binI .mul .i64 (.const (.int .i64 2)) (t_ 31)),
 o_ 7 (.mov (.const (.int .i64 0))),
 m_ 8 32])
 (.seq (.block 4 (.loop (.seq (.seq (.region 0 [
 m_ 33 8,
 m_ 34 1,
 o_ 35 (.binI .leq .i64 (t_ 33) (t_ 34))])
 (.cond (t_ 35) .skip (.exit 4)))
 (.block 5 (.seq (.region 0 [
 m_ 36 0,
 m_ 37 7,
 m_ 38 7,
 m_ 39 6,
 o_ 40 (.binI .add .i64 (t_ 38) (t_ 39)),
 m_ 41 8,
 m_ 42 2,
 o_ 43 (.call 154 [(t_ 36),(t_ 37),(t_ 40),(t_ 41),(t_ 42)])])
 (.seq (.region 0 [
 m_ 44 8,
 m_ 7 44])
 (.region 0 [
 m_ 45 8,
 m_ 46 6,
 o_ 47 (.binI .mul .i64 (.const (.int .i64 2)) (t_ 46)),
 o_ 48 (.binI .add .i64 (t_ 45) (t_ 47)),
 m_ 8 48])))))))
 (.seq (.seq (.region 0 [
 m_ 49 7,
 m_ 50 6,
 o_ 51 (.binI .add .i64 (t_ 49) (t_ 50)),
 m_ 9 51])
 (.seq (.region 0 [
 m_ 52 9,
 m_ 53 1,
 o_ 54 (.binI .lss .i64 (t_ 52) (t_ 53))])
 (.cond (t_ 54) (.region 0 [
 m_ 55 0,
 m_ 56 7,
 m_ 57 9,
 m_ 58 1,
 m_ 59 2,
 o_ 60 (.call 154 [(t_ 55),(t_ 56),(t_ 57),(t_ 58),(t_ 59)])]) .skip)))
 (.region 0 [
 m_ 61 6,
 o_ 62 (.binI .mul .i64 (t_ 61) (.const (.int .i64 2))),
 m_ 6 62]))))))))
def b64:AC:=(.seq b64_0 (.seq b64_1 (.seq b64_2 (.seq b64_3 b64_4))))
def ir64:AF:=⟨63,[],b64⟩
theorem c64:compF tt Tryz.f129=some ir64:=by kernel_rfl
def b1114:AC:=(.seq (.region 2 [
 o_ 1 (.box 0 (t_ 0)),
 o_ 2 (.zero 1 [(.v (.bool false)),(.v (.string ⟨#[]⟩))])])
 (.seq (.region 0 [
 o_ 3 (.faddr 0 (t_ 1)),
 o_ 4 (.load false 1 (t_ 3)),
 o_ 5 (.faddr 1 (t_ 1)),
 o_ 6 (.load false 1 (t_ 5)),
 o_ 7 (.call 134 [(t_ 4),(t_ 6)]),
 s_ (.store 2 (t_ 2) (t_ 7))])
 .ret))
def ir1114:AF:=⟨8,[(.cell 2 true 2)],b1114⟩
theorem c1114:compF tt Tryz.f130=some ir1114:=by kernel_rfl
def b1115:AC:=(.seq (.region 1 [
 o_ 2 (.zero 0 [(.v (.bool false)),(.v (.string ⟨#[]⟩))])])
 (.seq (.region 0 [
 o_ 3 (.mov (.const (.string ⟨#[]⟩)))])
 (.seq (.seq (.region 0 [
 o_ 4 (.mov (.const (.int .i64 0)))])
 (.block 0 (.loop (.seq (.seq (.region 0 [
 m_ 5 4,
 m_ 6 0,
 o_ 7 (.lenL (t_ 6)),
 o_ 8 (.binI .lss .i64 (t_ 5) (t_ 7))])
 (.cond (t_ 8) .skip (.exit 0)))
 (.seq (.block 1 (.region 0 [
 m_ 11 3,
 m_ 12 0,
 m_ 13 4,
 o_ 14 (.iaddr 2 (t_ 12) (t_ 13)),
 o_ 15 (.faddr 1 (t_ 14)),
 o_ 16 (.load false 1 (t_ 15)),
 o_ 17 (.call 155 [(t_ 11),(t_ 16)]),
 m_ 3 17]))
 (.region 0 [
 m_ 9 4,
 o_ 10 (.binI .add .i64 (t_ 9) (.const (.int .i64 1))),
 m_ 4 10]))))))
 (.seq (.region 0 [
 m_ 18 3,
 o_ 19 (.call 134 [(.const (.bool false)),(t_ 18)]),
 s_ (.store 2 (t_ 2) (t_ 19))])
 .ret))))
def ir1115:AF:=⟨20,[(.cell 2 true 2)],b1115⟩
theorem c1115:compF tt Tryz.f131=some ir1115:=by kernel_rfl
def b1116_0:AC:=(.region 4 [
 o_ 2 (.box 0 (t_ 0)),
 o_ 3 (.box 1 (t_ 1)),
 o_ 4 (.zero 2 [(.v (.bool false)),(.v (.string ⟨#[]⟩))]),
 o_ 5 (.zero 3 [(.v (.bool false)),(.v (.string ⟨#[]⟩))]),
 o_ 6 (.mov (.const (.bool false)))])
def b1116_1:AC:=(.region 0 [
 o_ 13 (.faddr 1 (t_ 2)),
 o_ 14 (.load false 1 (t_ 13)),
 o_ 15 (.faddr 1 (t_ 3)),
 o_ 16 (.load false 1 (t_ 15)),
 o_ 17 (.call 156 [(t_ 14),(t_ 16)]),
 m_ 12 17,
 o_ 18 (.ext (t_ 12) 0),
 o_ 19 (.ext (t_ 12) 1),
 o_ 20 (.ext (t_ 12) 2),
 m_ 7 18,
 m_ 8 19,
 m_ 9 20])
def b1116_2:AC:=(.seq (.region 0 [
 m_ 21 9,
 o_ 22 (.not (t_ 21))])
 (.cond (t_ 22) (.seq (.region 0 [
 o_ 23 (.build [(.v (.bool false)),(.v (.string ⟨#[]⟩))] []),
 o_ 24 (.build [(.v (.bool false)),(.v (.string ⟨#[]⟩))] []),
 s_ (.store 2 (t_ 4) (t_ 23)),
 s_ (.store 2 (t_ 5) (t_ 24)),
 o_ 6 (.mov (.const (.bool false)))])
 .ret) .skip))
def b1116_3:AC:=(.region 1 [
 o_ 25 (.faddr 0 (t_ 2)),
 o_ 26 (.load false 1 (t_ 25)),
 m_ 27 8,
 o_ 28 (.call 134 [(t_ 26),(t_ 27)]),
 o_ 10 (.zero 0 [(.v (.bool false)),(.v (.string ⟨#[]⟩))]),
 s_ (.store 2 (t_ 10) (t_ 28))])
def b1116_4:AC:=(.region 1 [
 o_ 29 (.faddr 0 (t_ 2)),
 o_ 30 (.load false 1 (t_ 29)),
 o_ 31 (.faddr 0 (t_ 3)),
 o_ 32 (.load false 1 (t_ 31)),
 o_ 33 (.eqB true (t_ 30) (t_ 32)),
 m_ 34 7,
 o_ 35 (.call 134 [(t_ 33),(t_ 34)]),
 o_ 11 (.zero 0 [(.v (.bool false)),(.v (.string ⟨#[]⟩))]),
 s_ (.store 2 (t_ 11) (t_ 35))])
def b1116_5:AC:=(.seq (.region 0 [
 o_ 36 (.load true 2 (t_ 10)),
 o_ 37 (.call 140 [(t_ 36)]),
 o_ 38 (.binI .lss .i64 (t_ 37) (.const (.int .i64 0)))])
 (.cond (t_ 38) (.seq (.dregion 0 [
 o_ 39 (.load true 2 (t_ 10)),
 o_ 40 (.faddr 1 (t_ 3)),
 o_ 41 (.load false 1 (t_ 40)),
 o_ 42 (.call 134 [(.const (.bool false)),(t_ 41)]),
 o_ 43 (.call 96 [(t_ 39),(t_ 42)]),
 s_ (.store 2 (t_ 10) (t_ 43))] [[],[],[1],[2],[0,3,3],[4,4,0,1,2,3,4]])
 (.seq (.region 0 [
 o_ 44 (.load true 2 (t_ 3)),
 o_ 45 (.call 140 [(t_ 44)]),
 o_ 46 (.binI .gtr .i64 (t_ 45) (.const (.int .i64 0)))])
 (.cond (t_ 46) (.dregion 0 [
 o_ 47 (.load true 2 (t_ 11)),
 o_ 48 (.call 93 [(.const (.int .i64 1))]),
 o_ 49 (.call 157 [(t_ 47),(t_ 48)]),
 s_ (.store 2 (t_ 11) (t_ 49))] [[],[],[0,1,1],[2,2,0,1,2]]) (.dregion 0 [
 o_ 50 (.load true 2 (t_ 11)),
 o_ 51 (.call 93 [(.const (.int .i64 1))]),
 o_ 52 (.call 96 [(t_ 50),(t_ 51)]),
 s_ (.store 2 (t_ 11) (t_ 52))] [[],[],[0,1,1],[2,2,0,1,2]])))) .skip))
def b1116_6:AC:=(.dregion 0 [
 o_ 53 (.load true 2 (t_ 11)),
 o_ 54 (.load true 2 (t_ 10)),
 s_ (.store 2 (t_ 4) (t_ 53)),
 s_ (.store 2 (t_ 5) (t_ 54)),
 o_ 6 (.mov (.const (.bool true)))] [[],[],[0,0],[1,2,0,1,2],[3,0,1,2,3]])
def b1116_7:AC:=.ret
def b1116:AC:=(.seq b1116_0 (.seq b1116_1 (.seq b1116_2 (.seq b1116_3 (.seq b1116_4 (.seq b1116_5 (.seq b1116_6 b1116_7)))))))
def ir1116:AF:=⟨55,[(.cell 4 true 2),(.cell 5 true 2),(.tmp 6)],b1116⟩
theorem c1116:compF tt Tryz.f132=some ir1116:=by kernel_rfl
def b2133:AC:=(.seq (.region 2 [
 o_ 1 (.box 0 (t_ 0)),
 o_ 2 (.zero 1 [(.v (.bool false)),(.v (.string ⟨#[]⟩)),(.v (.string ⟨#[]⟩))])])
 (.seq (.region 1 [
 o_ 4 (.load true 3 (t_ 1)),
 o_ 5 (.call 32 [(t_ 4)]),
 o_ 3 (.zero 0 [(.v (.bool false)),(.v (.string ⟨#[]⟩))]),
 s_ (.store 2 (t_ 3) (t_ 5))])
 (.seq (.region 0 [
 o_ 6 (.faddr 0 (t_ 3)),
 o_ 7 (.load false 1 (t_ 6)),
 o_ 8 (.faddr 1 (t_ 3)),
 o_ 9 (.load false 1 (t_ 8)),
 o_ 10 (.build [(.v (.bool false)),(.v (.string ⟨#[]⟩)),(.v (.string ⟨#[]⟩))] [(0,(1,(t_ 7))),(1,(1,(t_ 9)))]),
 o_ 11 (.call 54 [(t_ 10)]),
 s_ (.store 3 (t_ 2) (t_ 11))])
 .ret)))
def ir2133:AF:=⟨12,[(.cell 2 true 3)],b2133⟩
theorem c2133:compF tt Tryz.f133=some ir2133:=by kernel_rfl
def b1129:AC:=(.seq (.region 1 [
 o_ 4 (.zero 0 [(.v (.bool false)),(.v (.string ⟨#[]⟩))])])
 (.seq (.region 0 [
 m_ 6 1,
 o_ 7 (.call 158 [(t_ 6)]),
 m_ 5 7])
 (.seq (.region 0 [
 m_ 8 0,
 m_ 9 8,
 g_ 10 (.mov (t_ 5)) 9 true,
 g_ 11 (.binS .neq (t_ 10) (.const (.string ⟨#[]⟩))) 9 true,
 o_ 12 (.pick (t_ 9) (t_ 11) (.const (.bool false))),
 m_ 13 5,
 o_ 14 (.build [(.v (.bool false)),(.v (.string ⟨#[]⟩))] [(0,(1,(t_ 12))),(1,(1,(t_ 13)))]),
 s_ (.store 2 (t_ 4) (t_ 14))])
 .ret)))
def ir1129:AF:=⟨15,[(.cell 4 true 2)],b1129⟩
theorem c1129:compF tt Tryz.f134=some ir1129:=by kernel_rfl
def b1155:AC:=(.seq (.region 0 [
 o_ 2 (.mov (.const (.string ⟨#[]⟩)))])
 (.seq (.region 1 [
 o_ 4 (.bsl 0 1 [(.v (.int .u8 0))] 0 []),
 m_ 3 4])
 (.seq (.block 0 (.loop (.seq (.seq (.region 0 [
 m_ 5 0,
 o_ 6 (.binI .gtr .u64 (t_ 5) (.const (.int .u64 0)))])
 (.cond (t_ 6) .skip (.exit 0)))
 (.block 1 (.seq (.region 2 [
 m_ 7 3,
 m_ 8 0,
 o_ 9 (.binI .rem .u64 (t_ 8) (.const (.int .u64 256))),
 o_ 10 (.conv .u8 (t_ 9)),
 o_ 11 (.bsl 0 1 [(.v (.int .u8 0))] 1 [(0,(t_ 10))]),
 o_ 12 (.app 1 1 1 (t_ 7) (t_ 11)),
 m_ 3 12])
 (.region 0 [
 m_ 13 0,
 o_ 14 (.binI .quo .u64 (t_ 13) (.const (.int .u64 256))),
 m_ 0 14]))))))
 (.seq (.region 0 [
 m_ 15 3,
 o_ 16 (.str (t_ 15)),
 m_ 2 16])
 .ret))))
def ir1155:AF:=⟨17,[(.tmp 2)],b1155⟩
theorem c1155:compF tt Tryz.f135=some ir1155:=by kernel_rfl
def b1152:AC:=(.seq (.region 0 [
 o_ 4 (.mov (.const (.string ⟨#[]⟩))),
 o_ 5 (.mov (.const (.bool false)))])
 (.seq (.seq (.region 0 [
 m_ 10 0,
 m_ 11 1,
 o_ 12 (.call 160 [(t_ 10),(t_ 11)]),
 o_ 13 (.binI .lss .i64 (t_ 12) (.const (.int .i64 0)))])
 (.cond (t_ 13) (.seq (.region 0 [
 o_ 4 (.mov (.const (.string ⟨#[]⟩))),
 o_ 5 (.mov (.const (.bool false)))])
 .ret) .skip))
 (.seq (.region 1 [
 o_ 14 (.bsl 0 1 [(.v (.int .u8 0))] 0 []),
 m_ 6 14])
 (.seq (.region 0 [
 o_ 7 (.mov (.const (.int .i64 0)))])
 (.seq (.seq (.region 0 [
 o_ 8 (.mov (.const (.int .i64 0)))])
 (.block 0 (.loop (.seq (.seq (.region 0 [
 m_ 15 8,
 m_ 16 0,
 o_ 17 (.lenS (t_ 16)),
 o_ 18 (.binI .lss .i64 (t_ 15) (t_ 17))])
 (.cond (t_ 18) .skip (.exit 0)))
 (.seq (.block 1 (.seq (.region 0 [
 m_ 21 0,
 m_ 22 8,
 o_ 23 (.call 159 [(t_ 21),(t_ 22)]),
 m_ 24 1,
 m_ 25 8,
 o_ 26 (.call 159 [(t_ 24),(t_ 25)]),
 o_ 27 (.binI .sub .i64 (t_ 23) (t_ 26)),
 m_ 28 7,
 o_ 29 (.binI .sub .i64 (t_ 27) (t_ 28)),
 m_ 9 29])
 (.seq (.region 0 [
 o_ 7 (.mov (.const (.int .i64 0)))])
 (.seq (.seq (.region 0 [
 m_ 30 9,
 o_ 31 (.binI .lss .i64 (t_ 30) (.const (.int .i64 0)))])
 (.cond (t_ 31) (.seq (.region 0 [
 m_ 32 9,
 o_ 33 (.binI .add .i64 (t_ 32) (.const (.int .i64 256))),
 m_ 9 33])
 (.region 0 [
 o_ 7 (.mov (.const (.int .i64 1)))])) .skip))
 (.region 2 [
 m_ 34 6,
 m_ 35 9,
 o_ 36 (.conv .u8 (t_ 35)),
 o_ 37 (.bsl 0 1 [(.v (.int .u8 0))] 1 [(0,(t_ 36))]),
 o_ 38 (.app 1 1 1 (t_ 34) (t_ 37)),
 m_ 6 38])))))
 (.region 0 [
 m_ 19 8,
 o_ 20 (.binI .add .i64 (t_ 19) (.const (.int .i64 1))),
 m_ 8 20]))))))
 (.seq (.region 0 [
 m_ 39 6,
 o_ 40 (.str (t_ 39)),
 o_ 41 (.call 158 [(t_ 40)]),
 m_ 4 41,
 o_ 5 (.mov (.const (.bool true)))])
 .ret))))))
def ir1152:AF:=⟨42,[(.tmp 4),(.tmp 5)],b1152⟩
theorem c1152:compF tt Tryz.f138=some ir1152:=by kernel_rfl
def b1168_0:AC:=(.region 0 [
 o_ 4 (.mov (.const (.string ⟨#[]⟩)))])
def b1168_1:AC:=(.region 1 [
 m_ 13 0,
 o_ 14 (.lenS (t_ 13)),
 m_ 15 1,
 o_ 16 (.lenS (t_ 15)),
 o_ 17 (.binI .add .i64 (t_ 14) (t_ 16)),
 o_ 18 (.binI .add .i64 (t_ 17) (.const (.int .i64 1))),
 o_ 19 (.mksl 0 1 8 [(.v (.int .i64 0))] (t_ 18) (t_ 18)),
 m_ 5 19])
def b1168_2:AC:=(.seq (.region 0 [
 o_ 6 (.mov (.const (.int .i64 0)))])
 (.block 0 (.loop (.seq (.seq (.region 0 [
 m_ 20 6,
 m_ 21 0,
 o_ 22 (.lenS (t_ 21)),
 o_ 23 (.binI .lss .i64 (t_ 20) (t_ 22))])
 (.cond (t_ 23) .skip (.exit 0)))
 (.seq (.block 1 (.seq (.region 0 [
 o_ 7 (.mov (.const (.int .i64 0)))])
 (.seq (.region 0 [
 o_ 8 (.mov (.const (.int .i64 0)))])
 (.block 2 (.loop (.seq (.seq (.region 0 [
 m_ 26 8,
 m_ 27 1,
 o_ 28 (.lenS (t_ 27)),
 o_ 29 (.binI .lss .i64 (t_ 26) (t_ 28)),
 m_ 30 29,
 g_ 31 (.mov (t_ 7)) 30 false,
 g_ 32 (.binI .gtr .i64 (t_ 31) (.const (.int .i64 0))) 30 false,
 o_ 33 (.pick (t_ 30) (.const (.bool true)) (t_ 32))])
 (.cond (t_ 33) .skip (.exit 2)))
 (.seq (.block 3 (.seq (.dregion 0 [
 m_ 36 5,
 m_ 37 6,
 m_ 38 8,
 o_ 39 (.binI .add .i64 (t_ 37) (t_ 38)),
 o_ 40 (.iaddr 1 (t_ 36) (t_ 39)),
 o_ 41 (.load false 1 (t_ 40)),
 m_ 42 0,
 m_ 43 6,
 o_ 44 (.call 159 [(t_ 42),(t_ 43)]),
 m_ 45 1,
 m_ 46 8,
 o_ 47 (.call 159 [(t_ 45),(t_ 46)]),
 o_ 48 (.binI .mul .i64 (t_ 44) (t_ 47)),
 o_ 49 (.binI .add .i64 (t_ 41) (t_ 48)),
 m_ 50 7,
 o_ 51 (.binI .add .i64 (t_ 49) (t_ 50)),
 m_ 9 51] [[],[],[],[1,2],[0,3],[4],[],[],[6,7],[],[],[9,10,8],[8,11],[5,12],[],[13,14],[15,11,0,1,2,3,4,5,6,7,8,9,10,11,12,13,14,15]])
 (.seq (.region 0 [
 m_ 52 5,
 m_ 53 6,
 m_ 54 8,
 o_ 55 (.binI .add .i64 (t_ 53) (t_ 54)),
 m_ 56 9,
 o_ 57 (.binI .rem .i64 (t_ 56) (.const (.int .i64 256))),
 o_ 58 (.iaddr 1 (t_ 52) (t_ 55)),
 s_ (.store 1 (t_ 58) (t_ 57))])
 (.region 0 [
 m_ 59 9,
 o_ 60 (.binI .quo .i64 (t_ 59) (.const (.int .i64 256))),
 m_ 7 60]))))
 (.region 0 [
 m_ 34 8,
 o_ 35 (.binI .add .i64 (t_ 34) (.const (.int .i64 1))),
 m_ 8 35]))))))))
 (.region 0 [
 m_ 24 6,
 o_ 25 (.binI .add .i64 (t_ 24) (.const (.int .i64 1))),
 m_ 6 25]))))))
def b1168_3:AC:=(.region 1 [
 o_ 61 (.bsl 0 1 [(.v (.int .u8 0))] 0 []),
 m_ 10 61])
def b1168_4:AC:=(.seq (.region 0 [
 m_ 62 5,
 o_ 63 (.lenL (t_ 62)),
 o_ 64 (.mov (.const (.int .i64 0)))])
 (.block 4 (.loop (.seq (.region 0 [
 o_ 65 (.binI .lss .i64 (t_ 64) (t_ 63))])
 (.seq (.cond (t_ 65) .skip (.exit 4))
 (.seq (.block 5 (.seq (.region 0 [
 o_ 66 (.iaddr 1 (t_ 62) (t_ 64)),
 o_ 67 (.load false 1 (t_ 66)),
 m_ 12 67])
 (.region 2 [
 m_ 68 10,
 m_ 69 12,
 o_ 70 (.conv .u8 (t_ 69)),
 o_ 71 (.bsl 0 1 [(.v (.int .u8 0))] 1 [(0,(t_ 70))]),
 o_ 72 (.app 1 1 1 (t_ 68) (t_ 71)),
 m_ 10 72])))
 (.region 0 [
 o_ 73 (.binI .add .i64 (t_ 64) (.const (.int .i64 1))),
 m_ 64 73])))))))
def b1168_5:AC:=(.region 0 [
 m_ 74 10,
 o_ 75 (.str (t_ 74)),
 o_ 76 (.call 158 [(t_ 75)]),
 m_ 4 76])
def b1168_6:AC:=.ret
def b1168:AC:=(.seq b1168_0 (.seq b1168_1 (.seq b1168_2 (.seq b1168_3 (.seq b1168_4 (.seq b1168_5 b1168_6))))))
def ir1168:AF:=⟨77,[(.tmp 4)],b1168⟩
theorem c1168:compF tt Tryz.f139=some ir1168:=by kernel_rfl
def b1132:AC:=(.seq (.region 1 [
 o_ 1 (.box 0 (t_ 0)),
 o_ 2 (.mov (.const (.int .i64 0)))])
 (.seq (.seq (.region 0 [
 o_ 3 (.faddr 1 (t_ 1)),
 o_ 4 (.load false 1 (t_ 3)),
 o_ 5 (.call 158 [(t_ 4)]),
 o_ 6 (.binS .eql (t_ 5) (.const (.string ⟨#[]⟩)))])
 (.cond (t_ 6) (.seq (.region 0 [
 o_ 2 (.mov (.const (.int .i64 0)))])
 .ret) .skip))
 (.seq (.seq (.region 0 [
 o_ 7 (.faddr 0 (t_ 1)),
 o_ 8 (.load false 1 (t_ 7))])
 (.cond (t_ 8) (.seq (.region 0 [
 o_ 2 (.mov (.const (.int .i64 (-1))))])
 .ret) .skip))
 (.seq (.region 0 [
 o_ 2 (.mov (.const (.int .i64 1)))])
 .ret))))
def ir1132:AF:=⟨9,[(.tmp 2)],b1132⟩
theorem c1132:compF tt Tryz.f140=some ir1132:=by kernel_rfl
def b1172:AC:=(.seq (.region 0 [
 o_ 4 (.mov (.const (.slice none 0 0)))])
 (.seq (.region 1 [
 m_ 9 0,
 o_ 10 (.lenL (t_ 9)),
 o_ 11 (.binI .add .i64 (t_ 10) (.const (.int .i64 1))),
 o_ 12 (.mksl 0 1 4 [(.v (.int .u32 0))] (t_ 11) (t_ 11)),
 m_ 5 12])
 (.seq (.seq (.region 0 [
 m_ 13 0,
 o_ 14 (.lenL (t_ 13)),
 o_ 15 (.mov (.const (.int .i64 0)))])
 (.block 0 (.loop (.seq (.region 0 [
 o_ 16 (.binI .lss .i64 (t_ 15) (t_ 14))])
 (.seq (.cond (t_ 16) .skip (.exit 0))
 (.seq (.block 1 (.seq (.region 0 [
 m_ 17 15,
 o_ 18 (.iaddr 1 (t_ 13) (t_ 15)),
 o_ 19 (.load false 1 (t_ 18)),
 m_ 6 17,
 m_ 7 19])
 (.seq (.region 0 [
 m_ 20 7,
 o_ 21 (.conv .u64 (t_ 20)),
 m_ 22 1,
 o_ 23 (.shf .shl .u64 (t_ 21) (t_ 22)),
 m_ 8 23])
 (.seq (.region 0 [
 m_ 24 5,
 m_ 25 6,
 o_ 26 (.iaddr 1 (t_ 24) (t_ 25)),
 o_ 27 (.load false 1 (t_ 26)),
 m_ 28 8,
 o_ 29 (.conv .u32 (t_ 28)),
 o_ 30 (.binI .or .u32 (t_ 27) (t_ 29)),
 o_ 31 (.iaddr 1 (t_ 24) (t_ 25)),
 s_ (.store 1 (t_ 31) (t_ 30))])
 (.region 0 [
 m_ 32 5,
 m_ 33 6,
 o_ 34 (.binI .add .i64 (t_ 33) (.const (.int .i64 1))),
 m_ 35 8,
 o_ 36 (.shf .shr .u64 (t_ 35) (.const (.int .u64 32))),
 o_ 37 (.conv .u32 (t_ 36)),
 o_ 38 (.iaddr 1 (t_ 32) (t_ 34)),
 s_ (.store 1 (t_ 38) (t_ 37))])))))
 (.region 0 [
 o_ 39 (.binI .add .i64 (t_ 15) (.const (.int .i64 1))),
 m_ 15 39])))))))
 (.seq (.region 0 [
 m_ 40 5,
 m_ 4 40])
 .ret))))
def ir1172:AF:=⟨41,[(.tmp 4)],b1172⟩
theorem c1172:compF tt Tryz.f145=some ir1172:=by kernel_rfl
def b1173_0:AC:=(.region 0 [
 o_ 6 (.mov (.const (.bool false)))])
def b1173_1:AC:=(.region 0 [
 o_ 7 (.mov (.const (.int .u64 0))),
 o_ 8 (.mov (.const (.int .u32 0)))])
def b1173_2:AC:=(.seq (.region 0 [
 m_ 15 1,
 o_ 16 (.lenL (t_ 15)),
 o_ 17 (.mov (.const (.int .i64 0)))])
 (.block 0 (.loop (.seq (.region 0 [
 o_ 18 (.binI .lss .i64 (t_ 17) (t_ 16))])
 (.seq (.cond (t_ 18) .skip (.exit 0))
 (.seq (.block 1 (.seq (.region 0 [
 m_ 19 17,
 o_ 20 (.iaddr 1 (t_ 15) (t_ 17)),
 o_ 21 (.load false 1 (t_ 20)),
 m_ 9 19,
 m_ 10 21])
 (.seq (.region 0 [
 m_ 22 10,
 o_ 23 (.conv .u64 (t_ 22)),
 m_ 24 2,
 o_ 25 (.conv .u64 (t_ 24)),
 o_ 26 (.binI .mul .u64 (t_ 23) (t_ 25)),
 m_ 27 7,
 o_ 28 (.binI .add .u64 (t_ 26) (t_ 27)),
 m_ 11 28])
 (.seq (.region 0 [
 m_ 29 11,
 o_ 30 (.shf .shr .u64 (t_ 29) (.const (.int .u64 32))),
 m_ 7 30])
 (.region 0 [
 m_ 32 0,
 m_ 33 9,
 m_ 34 0,
 m_ 35 9,
 o_ 36 (.iaddr 1 (t_ 34) (t_ 35)),
 o_ 37 (.load false 1 (t_ 36)),
 m_ 38 11,
 o_ 39 (.conv .u32 (t_ 38)),
 m_ 40 8,
 o_ 41 (.call 108 [(t_ 37),(t_ 39),(t_ 40)]),
 m_ 31 41,
 o_ 42 (.ext (t_ 31) 0),
 o_ 43 (.ext (t_ 31) 1),
 o_ 44 (.iaddr 1 (t_ 32) (t_ 33)),
 s_ (.store 1 (t_ 44) (t_ 42)),
 m_ 8 43])))))
 (.region 0 [
 o_ 45 (.binI .add .i64 (t_ 17) (.const (.int .i64 1))),
 m_ 17 45])))))))
def b1173_3:AC:=(.region 0 [
 m_ 47 0,
 m_ 48 1,
 o_ 49 (.lenL (t_ 48)),
 m_ 50 0,
 m_ 51 1,
 o_ 52 (.lenL (t_ 51)),
 o_ 53 (.iaddr 1 (t_ 50) (t_ 52)),
 o_ 54 (.load false 1 (t_ 53)),
 m_ 55 7,
 o_ 56 (.conv .u32 (t_ 55)),
 m_ 57 8,
 o_ 58 (.call 108 [(t_ 54),(t_ 56),(t_ 57)]),
 m_ 46 58,
 o_ 59 (.ext (t_ 46) 0),
 o_ 60 (.ext (t_ 46) 1),
 o_ 61 (.iaddr 1 (t_ 47) (t_ 49)),
 s_ (.store 1 (t_ 61) (t_ 59)),
 m_ 8 60])
def b1173_4:AC:=(.seq (.region 0 [
 m_ 62 8,
 o_ 63 (.binI .eql .u32 (t_ 62) (.const (.int .u32 0)))])
 (.cond (t_ 63) (.seq (.region 0 [
 o_ 6 (.mov (.const (.bool false)))])
 .ret) .skip))
def b1173_5:AC:=(.region 0 [
 o_ 12 (.mov (.const (.int .u32 0)))])
def b1173_6:AC:=(.seq (.region 0 [
 m_ 64 1,
 o_ 65 (.lenL (t_ 64)),
 o_ 66 (.mov (.const (.int .i64 0)))])
 (.block 2 (.loop (.seq (.region 0 [
 o_ 67 (.binI .lss .i64 (t_ 66) (t_ 65))])
 (.seq (.cond (t_ 67) .skip (.exit 2))
 (.seq (.block 3 (.seq (.region 0 [
 m_ 68 66,
 o_ 69 (.iaddr 1 (t_ 64) (t_ 66)),
 o_ 70 (.load false 1 (t_ 69)),
 m_ 13 68,
 m_ 14 70])
 (.region 0 [
 m_ 72 0,
 m_ 73 13,
 m_ 74 0,
 m_ 75 13,
 o_ 76 (.iaddr 1 (t_ 74) (t_ 75)),
 o_ 77 (.load false 1 (t_ 76)),
 m_ 78 14,
 m_ 79 12,
 o_ 80 (.call 105 [(t_ 77),(t_ 78),(t_ 79)]),
 m_ 71 80,
 o_ 81 (.ext (t_ 71) 0),
 o_ 82 (.ext (t_ 71) 1),
 o_ 83 (.iaddr 1 (t_ 72) (t_ 73)),
 s_ (.store 1 (t_ 83) (t_ 81)),
 m_ 12 82])))
 (.region 0 [
 o_ 84 (.binI .add .i64 (t_ 66) (.const (.int .i64 1))),
 m_ 66 84])))))))
def b1173_7:AC:=(.region 0 [
 m_ 85 0,
 m_ 86 1,
 o_ 87 (.lenL (t_ 86)),
 o_ 88 (.iaddr 1 (t_ 85) (t_ 87)),
 o_ 89 (.load false 1 (t_ 88)),
 m_ 90 12,
 o_ 91 (.binI .add .u32 (t_ 89) (t_ 90)),
 o_ 92 (.iaddr 1 (t_ 85) (t_ 87)),
 s_ (.store 1 (t_ 92) (t_ 91))])
def b1173_8:AC:=(.region 0 [
 o_ 6 (.mov (.const (.bool true)))])
def b1173_9:AC:=.ret
def b1173:AC:=(.seq b1173_0 (.seq b1173_1 (.seq b1173_2 (.seq b1173_3 (.seq b1173_4 (.seq b1173_5 (.seq b1173_6 (.seq b1173_7 (.seq b1173_8 b1173_9)))))))))
def ir1173:AF:=⟨93,[(.tmp 6)],b1173⟩
theorem c1173:compF tt Tryz.f146=some ir1173:=by kernel_rfl
def b1174:AC:=(.seq (.region 0 [
 o_ 4 (.mov (.const (.slice none 0 0)))])
 (.seq (.region 1 [
 m_ 8 0,
 o_ 9 (.lenL (t_ 8)),
 o_ 10 (.mksl 0 1 4 [(.v (.int .u32 0))] (t_ 9) (t_ 9)),
 m_ 5 10])
 (.seq (.seq (.region 0 [
 m_ 11 0,
 o_ 12 (.lenL (t_ 11)),
 o_ 13 (.mov (.const (.int .i64 0)))])
 (.block 0 (.loop (.seq (.region 0 [
 o_ 14 (.binI .lss .i64 (t_ 13) (t_ 12))])
 (.seq (.cond (t_ 14) .skip (.exit 0))
 (.seq (.block 1 (.seq (.region 0 [
 m_ 15 13,
 m_ 6 15])
 (.seq (.region 0 [
 m_ 16 0,
 m_ 17 6,
 o_ 18 (.iaddr 1 (t_ 16) (t_ 17)),
 o_ 19 (.load false 1 (t_ 18)),
 o_ 20 (.conv .u64 (t_ 19)),
 m_ 7 20])
 (.seq (.seq (.region 0 [
 m_ 21 6,
 o_ 22 (.binI .add .i64 (t_ 21) (.const (.int .i64 1))),
 m_ 23 0,
 o_ 24 (.lenL (t_ 23)),
 o_ 25 (.binI .lss .i64 (t_ 22) (t_ 24))])
 (.cond (t_ 25) (.region 0 [
 m_ 26 7,
 m_ 27 0,
 m_ 28 6,
 o_ 29 (.binI .add .i64 (t_ 28) (.const (.int .i64 1))),
 o_ 30 (.iaddr 1 (t_ 27) (t_ 29)),
 o_ 31 (.load false 1 (t_ 30)),
 o_ 32 (.conv .u64 (t_ 31)),
 o_ 33 (.shf .shl .u64 (t_ 32) (.const (.int .u64 32))),
 o_ 34 (.binI .or .u64 (t_ 26) (t_ 33)),
 m_ 7 34]) .skip))
 (.region 0 [
 m_ 35 5,
 m_ 36 6,
 m_ 37 7,
 m_ 38 1,
 o_ 39 (.shf .shr .u64 (t_ 37) (t_ 38)),
 o_ 40 (.conv .u32 (t_ 39)),
 o_ 41 (.iaddr 1 (t_ 35) (t_ 36)),
 s_ (.store 1 (t_ 41) (t_ 40))])))))
 (.region 0 [
 o_ 42 (.binI .add .i64 (t_ 13) (.const (.int .i64 1))),
 m_ 13 42])))))))
 (.seq (.region 0 [
 m_ 43 5,
 m_ 4 43])
 .ret))))
def ir1174:AF:=⟨44,[(.tmp 4)],b1174⟩
theorem c1174:compF tt Tryz.f147=some ir1174:=by kernel_rfl
def b1092_0:AC:=(.region 0 [
 o_ 2 (.mov (.const (.slice none 0 0))),
 o_ 3 (.mov (.const (.bool false)))])
def b1092_1:AC:=(.region 1 [
 o_ 8 (.bsl 0 1 [(.v (.string ⟨#[]⟩))] 0 []),
 m_ 4 8])
def b1092_2:AC:=(.region 0 [
 o_ 5 (.mov (.const (.int .i64 0)))])
def b1092_3:AC:=(.seq (.region 0 [
 o_ 6 (.mov (.const (.int .i64 0)))])
 (.block 0 (.loop (.seq (.seq (.region 0 [
 m_ 9 6,
 m_ 10 0,
 o_ 11 (.lenS (t_ 10)),
 o_ 12 (.binI .leq .i64 (t_ 9) (t_ 11))])
 (.cond (t_ 12) .skip (.exit 0)))
 (.seq (.block 1 (.seq (.seq (.region 0 [
 m_ 15 6,
 m_ 16 0,
 o_ 17 (.lenS (t_ 16)),
 o_ 18 (.binI .lss .i64 (t_ 15) (t_ 17)),
 m_ 19 18,
 g_ 20 (.mov (t_ 0)) 19 true,
 g_ 21 (.mov (t_ 6)) 19 true,
 g_ 22 (.index (t_ 20) (t_ 21)) 19 true,
 g_ 23 (.binI .neq .u8 (t_ 22) (.const (.int .u8 44))) 19 true,
 o_ 24 (.pick (t_ 19) (t_ 23) (.const (.bool false)))])
 (.cond (t_ 24) (.exit 1) .skip))
 (.seq (.region 0 [
 m_ 25 0,
 m_ 26 5,
 m_ 27 6,
 o_ 28 (.sliceS (t_ 25) (some (t_ 26)) (some (t_ 27))),
 m_ 7 28])
 (.seq (.seq (.region 0 [
 m_ 29 7,
 o_ 30 (.call 46 [(t_ 29)]),
 o_ 31 (.not (t_ 30)),
 m_ 32 31,
 g_ 33 (.mov (t_ 4)) 32 false,
 g_ 34 (.lenL (t_ 33)) 32 false,
 g_ 35 (.binI .gtr .i64 (t_ 34) (.const (.int .i64 0))) 32 false,
 g_ 36 (.mov (t_ 35)) 32 false,
 g_ 37 (.mov (t_ 4)) 36 true,
 g_ 38 (.mov (t_ 4)) 36 true,
 g_ 39 (.lenL (t_ 38)) 36 true,
 g_ 40 (.binI .sub .i64 (t_ 39) (.const (.int .i64 1))) 36 true,
 g_ 41 (.iaddr 1 (t_ 37) (t_ 40)) 36 true,
 g_ 42 (.load false 1 (t_ 41)) 36 true,
 g_ 43 (.mov (t_ 7)) 36 true,
 g_ 44 (.binS .geq (t_ 42) (t_ 43)) 36 true,
 g_ 45 (.pick (t_ 36) (t_ 44) (.const (.bool false))) 32 false,
 o_ 46 (.pick (t_ 32) (.const (.bool true)) (t_ 45))])
 (.cond (t_ 46) (.seq (.region 1 [
 o_ 47 (.bsl 0 1 [(.v (.string ⟨#[]⟩))] 0 []),
 m_ 2 47,
 o_ 3 (.mov (.const (.bool false)))])
 .ret) .skip))
 (.seq (.region 2 [
 m_ 48 4,
 m_ 49 7,
 o_ 50 (.bsl 0 1 [(.v (.string ⟨#[]⟩))] 1 [(0,(t_ 49))]),
 o_ 51 (.app 1 1 16 (t_ 48) (t_ 50)),
 m_ 4 51])
 (.region 0 [
 m_ 52 6,
 o_ 53 (.binI .add .i64 (t_ 52) (.const (.int .i64 1))),
 m_ 5 53]))))))
 (.region 0 [
 m_ 13 6,
 o_ 14 (.binI .add .i64 (t_ 13) (.const (.int .i64 1))),
 m_ 6 14]))))))
def b1092_4:AC:=(.region 0 [
 m_ 54 4,
 m_ 2 54,
 o_ 3 (.mov (.const (.bool true)))])
def b1092_5:AC:=.ret
def b1092:AC:=(.seq b1092_0 (.seq b1092_1 (.seq b1092_2 (.seq b1092_3 (.seq b1092_4 b1092_5)))))
def ir1092:AF:=⟨55,[(.tmp 2),(.tmp 3)],b1092⟩
theorem c1092:compF tt Tryz.f148=some ir1092:=by kernel_rfl
def b78_0:AC:=(.seq (.region 0 [
 m_ 25 2,
 m_ 26 1,
 o_ 27 (.binI .sub .i64 (t_ 25) (t_ 26)),
 o_ 28 (.binI .eql .i64 (t_ 27) (.const (.int .i64 1)))])
 (.cond (t_ 28) (.seq (.region 0 [
 m_ 29 2,
 m_ 10 29])
 (.seq (.region 0 [
 m_ 30 3,
 m_ 11 30])
 (.seq (.block 0 (.loop (.seq (.seq (.region 0 [
 m_ 31 10,
 m_ 32 11,
 o_ 33 (.binI .lss .i64 (t_ 31) (t_ 32))])
 (.cond (t_ 33) .skip (.exit 0)))
 (.block 1 (.seq (.region 0 [
 m_ 34 10,
 m_ 35 11,
 o_ 36 (.binI .add .i64 (t_ 34) (t_ 35)),
 o_ 37 (.conv .u64 (t_ 36)),
 o_ 38 (.shf .shr .u64 (t_ 37) (.const (.int .u64 1))),
 o_ 39 (.conv .i64 (t_ 38)),
 m_ 12 39])
 (.seq (.dregion 0 [
 m_ 40 4,
 m_ 41 0,
 m_ 42 12,
 o_ 43 (.iaddr 8 (t_ 41) (t_ 42)),
 o_ 44 (.load true 8 (t_ 43)),
 m_ 45 0,
 m_ 46 1,
 o_ 47 (.iaddr 8 (t_ 45) (t_ 46)),
 o_ 48 (.load true 8 (t_ 47)),
 o_ 49 (.callv (t_ 40) [(t_ 44),(t_ 48)]),
 o_ 50 (.binI .lss .i64 (t_ 49) (.const (.int .i64 0)))] [[],[],[],[1,2],[3],[],[],[5,6],[7],[0,4,8],[9]])
 (.cond (t_ 50) (.region 0 [
 m_ 51 12,
 o_ 52 (.binI .add .i64 (t_ 51) (.const (.int .i64 1))),
 m_ 10 52]) (.region 0 [
 m_ 53 12,
 m_ 11 53]))))))))
 (.seq (.seq (.region 0 [
 m_ 54 1,
 m_ 13 54])
 (.block 2 (.loop (.seq (.seq (.region 0 [
 m_ 55 13,
 m_ 56 10,
 o_ 57 (.binI .sub .i64 (t_ 56) (.const (.int .i64 1))),
 o_ 58 (.binI .lss .i64 (t_ 55) (t_ 57))])
 (.cond (t_ 58) .skip (.exit 2)))
 (.seq (.block 3 (.dregion 0 [
 m_ 61 0,
 m_ 62 13,
 m_ 63 0,
 m_ 64 13,
 o_ 65 (.binI .add .i64 (t_ 64) (.const (.int .i64 1))),
 m_ 66 0,
 m_ 67 13,
 o_ 68 (.binI .add .i64 (t_ 67) (.const (.int .i64 1))),
 o_ 69 (.iaddr 8 (t_ 66) (t_ 68)),
 o_ 70 (.load true 8 (t_ 69)),
 m_ 71 0,
 m_ 72 13,
 o_ 73 (.iaddr 8 (t_ 71) (t_ 72)),
 o_ 74 (.load true 8 (t_ 73)),
 o_ 75 (.iaddr 8 (t_ 61) (t_ 62)),
 s_ (.store 8 (t_ 75) (t_ 70)),
 o_ 76 (.iaddr 8 (t_ 63) (t_ 65)),
 s_ (.store 8 (t_ 76) (t_ 74))] [[],[],[],[],[3],[],[],[6],[5,7],[8],[],[],[10,11],[12],[0,1,0,1,5,6,7,8,9,13],[14,9,0,1,5,6,7,8,9,13],[2,4,0,1,2,3,4,5,6,7,8,9,10,11,12,13,14,15],[16,13,15,0,1,2,3,4,5,6,7,8,9,10,11,12,13,14,15]]))
 (.region 0 [
 m_ 59 13,
 o_ 60 (.binI .add .i64 (t_ 59) (.const (.int .i64 1))),
 m_ 13 60]))))))
 .ret)))) .skip))
def b78_1:AC:=(.seq (.region 0 [
 m_ 77 3,
 m_ 78 2,
 o_ 79 (.binI .sub .i64 (t_ 77) (t_ 78)),
 o_ 80 (.binI .eql .i64 (t_ 79) (.const (.int .i64 1)))])
 (.cond (t_ 80) (.seq (.region 0 [
 m_ 81 1,
 m_ 14 81])
 (.seq (.region 0 [
 m_ 82 2,
 m_ 15 82])
 (.seq (.block 4 (.loop (.seq (.seq (.region 0 [
 m_ 83 14,
 m_ 84 15,
 o_ 85 (.binI .lss .i64 (t_ 83) (t_ 84))])
 (.cond (t_ 85) .skip (.exit 4)))
 (.block 5 (.seq (.region 0 [
 m_ 86 14,
 m_ 87 15,
 o_ 88 (.binI .add .i64 (t_ 86) (t_ 87)),
 o_ 89 (.conv .u64 (t_ 88)),
 o_ 90 (.shf .shr .u64 (t_ 89) (.const (.int .u64 1))),
 o_ 91 (.conv .i64 (t_ 90)),
 m_ 16 91])
 (.seq (.dregion 0 [
 m_ 92 4,
 m_ 93 0,
 m_ 94 2,
 o_ 95 (.iaddr 8 (t_ 93) (t_ 94)),
 o_ 96 (.load true 8 (t_ 95)),
 m_ 97 0,
 m_ 98 16,
 o_ 99 (.iaddr 8 (t_ 97) (t_ 98)),
 o_ 100 (.load true 8 (t_ 99)),
 o_ 101 (.callv (t_ 92) [(t_ 96),(t_ 100)]),
 o_ 102 (.binI .lss .i64 (t_ 101) (.const (.int .i64 0))),
 o_ 103 (.not (t_ 102))] [[],[],[],[1,2],[3],[],[],[5,6],[7],[0,4,8],[9],[10]])
 (.cond (t_ 103) (.region 0 [
 m_ 104 16,
 o_ 105 (.binI .add .i64 (t_ 104) (.const (.int .i64 1))),
 m_ 14 105]) (.region 0 [
 m_ 106 16,
 m_ 15 106]))))))))
 (.seq (.seq (.region 0 [
 m_ 107 2,
 m_ 17 107])
 (.block 6 (.loop (.seq (.seq (.region 0 [
 m_ 108 17,
 m_ 109 14,
 o_ 110 (.binI .gtr .i64 (t_ 108) (t_ 109))])
 (.cond (t_ 110) .skip (.exit 6)))
 (.seq (.block 7 (.dregion 0 [
 m_ 113 0,
 m_ 114 17,
 m_ 115 0,
 m_ 116 17,
 o_ 117 (.binI .sub .i64 (t_ 116) (.const (.int .i64 1))),
 m_ 118 0,
 m_ 119 17,
 o_ 120 (.binI .sub .i64 (t_ 119) (.const (.int .i64 1))),
 o_ 121 (.iaddr 8 (t_ 118) (t_ 120)),
 o_ 122 (.load true 8 (t_ 121)),
 m_ 123 0,
 m_ 124 17,
 o_ 125 (.iaddr 8 (t_ 123) (t_ 124)),
 o_ 126 (.load true 8 (t_ 125)),
 o_ 127 (.iaddr 8 (t_ 113) (t_ 114)),
 s_ (.store 8 (t_ 127) (t_ 122)),
 o_ 128 (.iaddr 8 (t_ 115) (t_ 117)),
 s_ (.store 8 (t_ 128) (t_ 126))] [[],[],[],[],[3],[],[],[6],[5,7],[8],[],[],[10,11],[12],[0,1,0,1,5,6,7,8,9,13],[14,9,0,1,5,6,7,8,9,13],[2,4,0,1,2,3,4,5,6,7,8,9,10,11,12,13,14,15],[16,13,15,0,1,2,3,4,5,6,7,8,9,10,11,12,13,14,15]]))
 (.region 0 [
 m_ 111 17,
 o_ 112 (.binI .sub .i64 (t_ 111) (.const (.int .i64 1))),
 m_ 17 112]))))))
 .ret)))) .skip))
def b78_2:AC:=(.region 0 [
 m_ 129 1,
 m_ 130 3,
 o_ 131 (.binI .add .i64 (t_ 129) (t_ 130)),
 o_ 132 (.conv .u64 (t_ 131)),
 o_ 133 (.shf .shr .u64 (t_ 132) (.const (.int .u64 1))),
 o_ 134 (.conv .i64 (t_ 133)),
 m_ 18 134])
def b78_3:AC:=(.region 0 [
 m_ 135 18,
 m_ 136 2,
 o_ 137 (.binI .add .i64 (t_ 135) (t_ 136)),
 m_ 19 137])
def b78_4:AC:=(.region 0 [
 o_ 20 (.mov (.const (.int .i64 0))),
 o_ 21 (.mov (.const (.int .i64 0)))])
def b78_5:AC:=(.seq (.region 0 [
 m_ 138 2,
 m_ 139 18,
 o_ 140 (.binI .gtr .i64 (t_ 138) (t_ 139))])
 (.cond (t_ 140) (.seq (.region 0 [
 m_ 141 19,
 m_ 142 3,
 o_ 143 (.binI .sub .i64 (t_ 141) (t_ 142)),
 m_ 20 143])
 (.region 0 [
 m_ 144 18,
 m_ 21 144])) (.seq (.region 0 [
 m_ 145 1,
 m_ 20 145])
 (.region 0 [
 m_ 146 2,
 m_ 21 146]))))
def b78_6:AC:=(.region 0 [
 m_ 147 19,
 o_ 148 (.binI .sub .i64 (t_ 147) (.const (.int .i64 1))),
 m_ 22 148])
def b78_7:AC:=(.block 8 (.loop (.seq (.seq (.region 0 [
 m_ 149 20,
 m_ 150 21,
 o_ 151 (.binI .lss .i64 (t_ 149) (t_ 150))])
 (.cond (t_ 151) .skip (.exit 8)))
 (.block 9 (.seq (.region 0 [
 m_ 152 20,
 m_ 153 21,
 o_ 154 (.binI .add .i64 (t_ 152) (t_ 153)),
 o_ 155 (.conv .u64 (t_ 154)),
 o_ 156 (.shf .shr .u64 (t_ 155) (.const (.int .u64 1))),
 o_ 157 (.conv .i64 (t_ 156)),
 m_ 23 157])
 (.seq (.dregion 0 [
 m_ 158 4,
 m_ 159 0,
 m_ 160 22,
 m_ 161 23,
 o_ 162 (.binI .sub .i64 (t_ 160) (t_ 161)),
 o_ 163 (.iaddr 8 (t_ 159) (t_ 162)),
 o_ 164 (.load true 8 (t_ 163)),
 m_ 165 0,
 m_ 166 23,
 o_ 167 (.iaddr 8 (t_ 165) (t_ 166)),
 o_ 168 (.load true 8 (t_ 167)),
 o_ 169 (.callv (t_ 158) [(t_ 164),(t_ 168)]),
 o_ 170 (.binI .lss .i64 (t_ 169) (.const (.int .i64 0))),
 o_ 171 (.not (t_ 170))] [[],[],[],[],[2,3],[1,4],[5],[],[],[7,8],[9],[0,6,10],[11],[12]])
 (.cond (t_ 171) (.region 0 [
 m_ 172 23,
 o_ 173 (.binI .add .i64 (t_ 172) (.const (.int .i64 1))),
 m_ 20 173]) (.region 0 [
 m_ 174 23,
 m_ 21 174]))))))))
def b78_8:AC:=(.region 0 [
 m_ 175 19,
 m_ 176 20,
 o_ 177 (.binI .sub .i64 (t_ 175) (t_ 176)),
 m_ 24 177])
def b78_9:AC:=(.seq (.region 0 [
 m_ 178 20,
 m_ 179 2,
 o_ 180 (.binI .lss .i64 (t_ 178) (t_ 179)),
 m_ 181 180,
 g_ 182 (.mov (t_ 2)) 181 true,
 g_ 183 (.mov (t_ 24)) 181 true,
 g_ 184 (.binI .lss .i64 (t_ 182) (t_ 183)) 181 true,
 o_ 185 (.pick (t_ 181) (t_ 184) (.const (.bool false)))])
 (.cond (t_ 185) (.region 0 [
 m_ 186 0,
 m_ 187 20,
 m_ 188 2,
 m_ 189 24,
 m_ 190 4,
 o_ 191 (.call 166 [(t_ 186),(t_ 187),(t_ 188),(t_ 189),(t_ 190)])]) .skip))
def b78_10:AC:=(.seq (.region 0 [
 m_ 192 1,
 m_ 193 20,
 o_ 194 (.binI .lss .i64 (t_ 192) (t_ 193)),
 m_ 195 194,
 g_ 196 (.mov (t_ 20)) 195 true,
 g_ 197 (.mov (t_ 18)) 195 true,
 g_ 198 (.binI .lss .i64 (t_ 196) (t_ 197)) 195 true,
 o_ 199 (.pick (t_ 195) (t_ 198) (.const (.bool false)))])
 (.cond (t_ 199) (.region 0 [
 m_ 200 0,
 m_ 201 1,
 m_ 202 20,
 m_ 203 18,
 m_ 204 4,
 o_ 205 (.call 154 [(t_ 200),(t_ 201),(t_ 202),(t_ 203),(t_ 204)])]) .skip))
def b78_11:AC:=(.region 0 [
 m_ 206 18,
 m_ 207 24,
 o_ 208 (.binI .lss .i64 (t_ 206) (t_ 207)),
 m_ 209 208,
 g_ 210 (.mov (t_ 24)) 209 true,
 g_ 211 (.mov (t_ 3)) 209 true,
 g_ 212 (.binI .lss .i64 (t_ 210) (t_ 211)) 209 true,
 o_ 213 (.pick (t_ 209) (t_ 212) (.const (.bool false)))])
def b78_12:AC:=(.cond (t_ 213) (.region 0 [
 m_ 214 0,
 m_ 215 18,
 m_ 216 24,
 m_ 217 3,
 m_ 218 4,
 o_ 219 (.call 154 [(t_ 214),(t_ 215),(t_ 216),(t_ 217),(t_ 218)])]) .skip)
def b78:AC:=(.seq b78_0 (.seq b78_1 (.seq b78_2 (.seq b78_3 (.seq b78_4 (.seq b78_5 (.seq b78_6 (.seq b78_7 (.seq b78_8 (.seq b78_9 (.seq b78_10 (.seq b78_11 b78_12))))))))))))
def ir78:AF:=⟨220,[],b78⟩
theorem c78:compF tt Tryz.f154=some ir78:=by kernel_rfl
def b1130:AC:=(.seq (.region 0 [
 o_ 4 (.mov (.const (.string ⟨#[]⟩)))])
 (.seq (.region 0 [
 m_ 10 0,
 o_ 11 (.call 158 [(t_ 10)]),
 m_ 12 1,
 o_ 13 (.call 158 [(t_ 12)]),
 m_ 5 11,
 m_ 6 13])
 (.seq (.block 0 (.loop (.seq (.seq (.region 0 [
 m_ 14 6,
 o_ 15 (.binS .neq (t_ 14) (.const (.string ⟨#[]⟩)))])
 (.cond (t_ 15) .skip (.exit 0)))
 (.block 1 (.seq (.region 0 [
 m_ 17 5,
 m_ 18 6,
 o_ 19 (.call 156 [(t_ 17),(t_ 18)]),
 m_ 16 19,
 o_ 20 (.ext (t_ 16) 0),
 o_ 21 (.ext (t_ 16) 1),
 o_ 22 (.ext (t_ 16) 2),
 m_ 7 20,
 m_ 8 21,
 m_ 9 22])
 (.seq (.region 0 [
 m_ 23 6,
 m_ 5 23])
 (.region 0 [
 m_ 24 8,
 m_ 6 24])))))))
 (.seq (.region 0 [
 m_ 25 5,
 m_ 4 25])
 .ret))))
def ir1130:AF:=⟨26,[(.tmp 4)],b1130⟩
theorem c1130:compF tt Tryz.f155=some ir1130:=by kernel_rfl
def b1131_0:AC:=(.region 0 [
 o_ 4 (.mov (.const (.string ⟨#[]⟩))),
 o_ 5 (.mov (.const (.string ⟨#[]⟩))),
 o_ 6 (.mov (.const (.bool false)))])
def b1131_1:AC:=(.seq (.region 0 [
 m_ 13 1,
 o_ 14 (.call 158 [(t_ 13)]),
 o_ 15 (.binS .eql (t_ 14) (.const (.string ⟨#[]⟩)))])
 (.cond (t_ 15) (.seq (.region 0 [
 o_ 4 (.mov (.const (.string ⟨#[]⟩))),
 o_ 5 (.mov (.const (.string ⟨#[]⟩))),
 o_ 6 (.mov (.const (.bool false)))])
 .ret) .skip))
def b1131_2:AC:=(.region 1 [
 m_ 16 0,
 o_ 17 (.lenS (t_ 16)),
 o_ 18 (.mksl 0 1 1 [(.v (.int .u8 0))] (t_ 17) (t_ 17)),
 m_ 7 18])
def b1131_3:AC:=(.region 0 [
 o_ 8 (.mov (.const (.string ⟨#[]⟩)))])
def b1131_4:AC:=(.seq (.region 0 [
 m_ 19 0,
 o_ 20 (.lenS (t_ 19)),
 o_ 21 (.binI .sub .i64 (t_ 20) (.const (.int .i64 1))),
 m_ 9 21])
 (.block 0 (.loop (.seq (.seq (.region 0 [
 m_ 22 9,
 o_ 23 (.binI .geq .i64 (t_ 22) (.const (.int .i64 0)))])
 (.cond (t_ 23) .skip (.exit 0)))
 (.seq (.block 1 (.seq (.region 0 [
 m_ 26 0,
 m_ 27 9,
 m_ 28 9,
 o_ 29 (.binI .add .i64 (t_ 28) (.const (.int .i64 1))),
 o_ 30 (.sliceS (t_ 26) (some (t_ 27)) (some (t_ 29))),
 m_ 31 8,
 o_ 32 (.binS .add (t_ 30) (t_ 31)),
 o_ 33 (.call 158 [(t_ 32)]),
 m_ 8 33])
 (.seq (.region 0 [
 o_ 10 (.mov (.const (.int .i64 0)))])
 (.seq (.region 0 [
 o_ 11 (.mov (.const (.int .i64 255)))])
 (.seq (.block 2 (.loop (.seq (.seq (.region 0 [
 m_ 34 10,
 m_ 35 11,
 o_ 36 (.binI .lss .i64 (t_ 34) (t_ 35))])
 (.cond (t_ 36) .skip (.exit 2)))
 (.block 3 (.seq (.region 0 [
 m_ 37 10,
 m_ 38 11,
 o_ 39 (.binI .add .i64 (t_ 37) (t_ 38)),
 o_ 40 (.binI .add .i64 (t_ 39) (.const (.int .i64 1))),
 o_ 41 (.binI .quo .i64 (t_ 40) (.const (.int .i64 2))),
 m_ 12 41])
 (.seq (.region 0 [
 m_ 42 1,
 m_ 43 12,
 o_ 44 (.call 167 [(t_ 42),(t_ 43)]),
 m_ 45 8,
 o_ 46 (.call 160 [(t_ 44),(t_ 45)]),
 o_ 47 (.binI .leq .i64 (t_ 46) (.const (.int .i64 0)))])
 (.cond (t_ 47) (.region 0 [
 m_ 48 12,
 m_ 10 48]) (.region 0 [
 m_ 49 12,
 o_ 50 (.binI .sub .i64 (t_ 49) (.const (.int .i64 1))),
 m_ 11 50]))))))))
 (.seq (.region 0 [
 m_ 52 8,
 m_ 53 1,
 m_ 54 10,
 o_ 55 (.call 167 [(t_ 53),(t_ 54)]),
 o_ 56 (.call 138 [(t_ 52),(t_ 55)]),
 m_ 51 56,
 o_ 57 (.ext (t_ 51) 0),
 o_ 58 (.ext (t_ 51) 1),
 m_ 8 57])
 (.region 0 [
 m_ 59 7,
 m_ 60 9,
 m_ 61 10,
 o_ 62 (.conv .u8 (t_ 61)),
 o_ 63 (.iaddr 1 (t_ 59) (t_ 60)),
 s_ (.store 1 (t_ 63) (t_ 62))])))))))
 (.region 0 [
 m_ 24 9,
 o_ 25 (.binI .sub .i64 (t_ 24) (.const (.int .i64 1))),
 m_ 9 25]))))))
def b1131_5:AC:=(.region 0 [
 m_ 64 7,
 o_ 65 (.str (t_ 64)),
 o_ 66 (.call 158 [(t_ 65)]),
 m_ 67 8,
 m_ 4 66,
 m_ 5 67,
 o_ 6 (.mov (.const (.bool true)))])
def b1131_6:AC:=.ret
def b1131:AC:=(.seq b1131_0 (.seq b1131_1 (.seq b1131_2 (.seq b1131_3 (.seq b1131_4 (.seq b1131_5 b1131_6))))))
def ir1131:AF:=⟨68,[(.tmp 4),(.tmp 5),(.tmp 6)],b1131⟩
theorem c1131:compF tt Tryz.f156=some ir1131:=by kernel_rfl
def b1149:AC:=(.seq (.region 0 [
 o_ 2 (.mov (.const (.string ⟨#[]⟩)))])
 (.seq (.region 0 [
 m_ 4 0,
 o_ 5 (.lenS (t_ 4)),
 m_ 3 5])
 (.seq (.block 0 (.loop (.seq (.seq (.region 0 [
 m_ 6 3,
 o_ 7 (.binI .gtr .i64 (t_ 6) (.const (.int .i64 0))),
 m_ 8 7,
 g_ 9 (.mov (t_ 0)) 8 true,
 g_ 10 (.mov (t_ 3)) 8 true,
 g_ 11 (.binI .sub .i64 (t_ 10) (.const (.int .i64 1))) 8 true,
 g_ 12 (.index (t_ 9) (t_ 11)) 8 true,
 g_ 13 (.binI .eql .u8 (t_ 12) (.const (.int .u8 0))) 8 true,
 o_ 14 (.pick (t_ 8) (t_ 13) (.const (.bool false)))])
 (.cond (t_ 14) .skip (.exit 0)))
 (.block 1 (.region 0 [
 m_ 15 3,
 o_ 16 (.binI .sub .i64 (t_ 15) (.const (.int .i64 1))),
 m_ 3 16])))))
 (.seq (.region 0 [
 m_ 17 0,
 m_ 18 3,
 o_ 19 (.sliceS (t_ 17) none (some (t_ 18))),
 m_ 2 19])
 .ret))))
def ir1149:AF:=⟨20,[(.tmp 2)],b1149⟩
theorem c1149:compF tt Tryz.f158=some ir1149:=by kernel_rfl
def b1169:AC:=(.seq (.region 0 [
 o_ 4 (.mov (.const (.int .i64 0)))])
 (.seq (.seq (.region 0 [
 m_ 5 1,
 m_ 6 0,
 o_ 7 (.lenS (t_ 6)),
 o_ 8 (.binI .lss .i64 (t_ 5) (t_ 7))])
 (.cond (t_ 8) (.seq (.region 0 [
 m_ 9 0,
 m_ 10 1,
 o_ 11 (.index (t_ 9) (t_ 10)),
 o_ 12 (.conv .i64 (t_ 11)),
 m_ 4 12])
 .ret) .skip))
 (.seq (.region 0 [
 o_ 4 (.mov (.const (.int .i64 0)))])
 .ret)))
def ir1169:AF:=⟨13,[(.tmp 4)],b1169⟩
theorem c1169:compF tt Tryz.f159=some ir1169:=by kernel_rfl
def b1150:AC:=(.seq (.region 0 [
 o_ 4 (.mov (.const (.int .i64 0)))])
 (.seq (.region 0 [
 m_ 8 0,
 o_ 9 (.call 158 [(t_ 8)]),
 m_ 10 1,
 o_ 11 (.call 158 [(t_ 10)]),
 m_ 5 9,
 m_ 6 11])
 (.seq (.seq (.region 0 [
 m_ 12 5,
 o_ 13 (.lenS (t_ 12)),
 m_ 14 6,
 o_ 15 (.lenS (t_ 14)),
 o_ 16 (.binI .lss .i64 (t_ 13) (t_ 15))])
 (.cond (t_ 16) (.seq (.region 0 [
 o_ 4 (.mov (.const (.int .i64 (-1))))])
 .ret) .skip))
 (.seq (.seq (.region 0 [
 m_ 17 5,
 o_ 18 (.lenS (t_ 17)),
 m_ 19 6,
 o_ 20 (.lenS (t_ 19)),
 o_ 21 (.binI .gtr .i64 (t_ 18) (t_ 20))])
 (.cond (t_ 21) (.seq (.region 0 [
 o_ 4 (.mov (.const (.int .i64 1)))])
 .ret) .skip))
 (.seq (.seq (.region 0 [
 m_ 22 5,
 o_ 23 (.lenS (t_ 22)),
 o_ 24 (.binI .sub .i64 (t_ 23) (.const (.int .i64 1))),
 m_ 7 24])
 (.block 0 (.loop (.seq (.seq (.region 0 [
 m_ 25 7,
 o_ 26 (.binI .geq .i64 (t_ 25) (.const (.int .i64 0)))])
 (.cond (t_ 26) .skip (.exit 0)))
 (.seq (.block 1 (.seq (.seq (.dregion 0 [
 m_ 29 5,
 m_ 30 7,
 o_ 31 (.index (t_ 29) (t_ 30)),
 m_ 32 6,
 m_ 33 7,
 o_ 34 (.index (t_ 32) (t_ 33)),
 o_ 35 (.binI .lss .u8 (t_ 31) (t_ 34))] [[],[],[0,1],[],[],[3,4],[2,5]])
 (.cond (t_ 35) (.seq (.region 0 [
 o_ 4 (.mov (.const (.int .i64 (-1))))])
 .ret) .skip))
 (.seq (.dregion 0 [
 m_ 36 5,
 m_ 37 7,
 o_ 38 (.index (t_ 36) (t_ 37)),
 m_ 39 6,
 m_ 40 7,
 o_ 41 (.index (t_ 39) (t_ 40)),
 o_ 42 (.binI .gtr .u8 (t_ 38) (t_ 41))] [[],[],[0,1],[],[],[3,4],[2,5]])
 (.cond (t_ 42) (.seq (.region 0 [
 o_ 4 (.mov (.const (.int .i64 1)))])
 .ret) .skip))))
 (.region 0 [
 m_ 27 7,
 o_ 28 (.binI .sub .i64 (t_ 27) (.const (.int .i64 1))),
 m_ 7 28]))))))
 (.seq (.region 0 [
 o_ 4 (.mov (.const (.int .i64 0)))])
 .ret))))))
def ir1150:AF:=⟨43,[(.tmp 4)],b1150⟩
theorem c1150:compF tt Tryz.f160=some ir1150:=by kernel_rfl
def b95:AC:=(.seq (.region 0 [
 m_ 12 2,
 m_ 13 1,
 o_ 14 (.binI .sub .i64 (t_ 12) (t_ 13)),
 m_ 10 14])
 (.seq (.region 0 [
 m_ 15 3,
 m_ 16 2,
 o_ 17 (.binI .sub .i64 (t_ 15) (t_ 16)),
 m_ 11 17])
 (.seq (.block 0 (.loop (.seq (.seq (.region 0 [
 m_ 18 10,
 m_ 19 11,
 o_ 20 (.binI .neq .i64 (t_ 18) (t_ 19))])
 (.cond (t_ 20) .skip (.exit 0)))
 (.block 1 (.seq (.region 0 [
 m_ 21 10,
 m_ 22 11,
 o_ 23 (.binI .gtr .i64 (t_ 21) (t_ 22))])
 (.cond (t_ 23) (.seq (.region 0 [
 m_ 24 0,
 m_ 25 2,
 m_ 26 10,
 o_ 27 (.binI .sub .i64 (t_ 25) (t_ 26)),
 m_ 28 2,
 m_ 29 11,
 m_ 30 4,
 o_ 31 (.call 171 [(t_ 24),(t_ 27),(t_ 28),(t_ 29),(t_ 30)])])
 (.region 0 [
 m_ 32 10,
 m_ 33 11,
 o_ 34 (.binI .sub .i64 (t_ 32) (t_ 33)),
 m_ 10 34])) (.seq (.region 0 [
 m_ 35 0,
 m_ 36 2,
 m_ 37 10,
 o_ 38 (.binI .sub .i64 (t_ 36) (t_ 37)),
 m_ 39 2,
 m_ 40 11,
 o_ 41 (.binI .add .i64 (t_ 39) (t_ 40)),
 m_ 42 10,
 o_ 43 (.binI .sub .i64 (t_ 41) (t_ 42)),
 m_ 44 10,
 m_ 45 4,
 o_ 46 (.call 171 [(t_ 35),(t_ 38),(t_ 43),(t_ 44),(t_ 45)])])
 (.region 0 [
 m_ 47 11,
 m_ 48 10,
 o_ 49 (.binI .sub .i64 (t_ 47) (t_ 48)),
 m_ 11 49]))))))))
 (.region 0 [
 m_ 50 0,
 m_ 51 2,
 m_ 52 10,
 o_ 53 (.binI .sub .i64 (t_ 51) (t_ 52)),
 m_ 54 2,
 m_ 55 10,
 m_ 56 4,
 o_ 57 (.call 171 [(t_ 50),(t_ 53),(t_ 54),(t_ 55),(t_ 56)])]))))
def ir95:AF:=⟨58,[],b95⟩
theorem c95:compF tt Tryz.f166=some ir95:=by kernel_rfl
def b1151:AC:=(.seq (.region 0 [
 o_ 4 (.mov (.const (.string ⟨#[]⟩)))])
 (.seq (.region 1 [
 m_ 5 0,
 m_ 6 1,
 o_ 7 (.conv .u8 (t_ 6)),
 o_ 8 (.bsl 0 1 [(.v (.int .u8 0))] 1 [(0,(t_ 7))]),
 o_ 9 (.str (t_ 8)),
 o_ 10 (.call 139 [(t_ 5),(t_ 9)]),
 m_ 4 10])
 .ret))
def ir1151:AF:=⟨11,[(.tmp 4)],b1151⟩
theorem c1151:compF tt Tryz.f167=some ir1151:=by kernel_rfl
def b103:AC:=(.seq (.region 0 [
 o_ 10 (.mov (.const (.int .i64 0)))])
 (.block 0 (.loop (.seq (.seq (.region 0 [
 m_ 11 10,
 m_ 12 3,
 o_ 13 (.binI .lss .i64 (t_ 11) (t_ 12))])
 (.cond (t_ 13) .skip (.exit 0)))
 (.seq (.block 1 (.dregion 0 [
 m_ 16 0,
 m_ 17 1,
 m_ 18 10,
 o_ 19 (.binI .add .i64 (t_ 17) (t_ 18)),
 m_ 20 0,
 m_ 21 2,
 m_ 22 10,
 o_ 23 (.binI .add .i64 (t_ 21) (t_ 22)),
 m_ 24 0,
 m_ 25 2,
 m_ 26 10,
 o_ 27 (.binI .add .i64 (t_ 25) (t_ 26)),
 o_ 28 (.iaddr 8 (t_ 24) (t_ 27)),
 o_ 29 (.load true 8 (t_ 28)),
 m_ 30 0,
 m_ 31 1,
 m_ 32 10,
 o_ 33 (.binI .add .i64 (t_ 31) (t_ 32)),
 o_ 34 (.iaddr 8 (t_ 30) (t_ 33)),
 o_ 35 (.load true 8 (t_ 34)),
 o_ 36 (.iaddr 8 (t_ 16) (t_ 19)),
 s_ (.store 8 (t_ 36) (t_ 29)),
 o_ 37 (.iaddr 8 (t_ 20) (t_ 23)),
 s_ (.store 8 (t_ 37) (t_ 35))] [[],[],[],[1,2],[],[],[],[5,6],[],[],[],[9,10],[8,11],[12],[],[],[],[15,16],[14,17],[18],[0,3,0,1,2,3,8,9,10,11,12,13,19],[20,13,0,1,2,3,8,9,10,11,12,13,19],[4,7,0,1,2,3,4,5,6,7,8,9,10,11,12,13,14,15,16,17,18,19,20,21],[22,19,21,0,1,2,3,4,5,6,7,8,9,10,11,12,13,14,15,16,17,18,19,20,21]]))
 (.region 0 [
 m_ 14 10,
 o_ 15 (.binI .add .i64 (t_ 14) (.const (.int .i64 1))),
 m_ 10 15]))))))
def ir103:AF:=⟨38,[],b103⟩
theorem c103:compF tt Tryz.f171=some ir103:=by kernel_rfl
end Go.Aw.Try
namespace Go.Aw
section
variable {E:Type} [Inhabited E]
def mv (es:List E) (i j:Nat):List E:=es.take j ++ (nth es i :: ((es.drop j).take (i-j) ++ es.drop (i+1)))
theorem mv_get (es:List E) {i j:Nat} (hj:j≤i) (hi:i<es.length) (k:Nat) :
  (mv es i j)[k]? = if k<j then es[k]? else if k=j then some (nth es i) else if k≤i then es[k-1]? else es[k]? := by
 unfold mv
 rw [List.getElem?_append]
 have hl:(es.take j).length=j:=by simp; omega
 rw [hl]
 by_cases h1:k<j
 ·rw [if_pos h1,if_pos h1,List.getElem?_take,if_pos h1]
 ·rw [if_neg h1,if_neg h1]
  by_cases h2:k=j
  ·rw [if_pos h2,h2]; simp
  ·rw [if_neg h2,show k-j=(k-j-1)+1 by omega,List.getElem?_cons_succ,List.getElem?_append]
   have hl2:((es.drop j).take (i-j)).length=i-j:=by simp; omega
   rw [hl2]
   by_cases h3:k≤i
   ·rw [if_pos h3,if_pos (by omega),List.getElem?_take,if_pos (by omega),List.getElem?_drop]; congr 1; omega
   ·rw [if_neg h3,if_neg (by omega),List.getElem?_drop]; congr 1; omega
theorem mv_len (es:List E) {i j:Nat} (hj:j≤i) (hi:i<es.length):(mv es i j).length=es.length:=by
 unfold mv; simp; omega
theorem mv_self (es:List E) {i:Nat} (hi:i<es.length):mv es i i=es:=by
 apply List.ext_getElem?
 intro k
 rw [mv_get es (Nat.le_refl _) hi]
 by_cases h1:k<i
 ·rw [if_pos h1]
 ·rw [if_neg h1]
  by_cases h2:k=i
  ·rw [if_pos h2,h2]; simp [nth,List.getD_eq_getElem?_getD,hi]
  ·rw [if_neg h2,if_neg (by omega)]
theorem nth_of_get {l:List E} {k:Nat} {x:E} (h:l[k]? = some x):nth l k=x:=by simp [nth,List.getD_eq_getElem?_getD,h]
theorem get_nth {l:List E} {k:Nat} (h:k<l.length):l[k]? = some (nth l k):=by simp [nth,List.getD_eq_getElem?_getD,h]
theorem mv_at (es:List E) {i j:Nat} (hj:j≤i) (hi:i<es.length):nth (mv es i j) j=nth es i :=
 nth_of_get (by rw [mv_get es hj hi,if_neg (by omega),if_pos rfl])
theorem mv_pred (es:List E) {i j:Nat} (hj:j≤i) (hi:i<es.length) (h0:0<j):nth (mv es i j) (j-1)=nth es (j-1) :=
 nth_of_get (by rw [mv_get es hj hi,if_pos (by omega),get_nth (by omega)])
theorem mv_swap (es:List E) {i j:Nat} (hj:j≤i) (hi:i<es.length) (h0:0<j):((mv es i j).set j (nth es (j-1))).set (j-1) (nth es i)=mv es i (j-1):=by
 apply List.ext_getElem?
 intro k
 have hl:=mv_len es hj hi
 rw [mv_get es (by omega) hi,List.getElem?_set,List.getElem?_set,List.length_set,hl,mv_get es hj hi]
 by_cases h1:j-1=k
 ·rw [if_pos h1,if_pos (by omega),if_neg (by omega),if_pos h1.symm]
 ·rw [if_neg h1]
  by_cases h2:j=k
  ·rw [if_pos h2,if_pos (by omega),if_neg (by omega),if_neg (by omega),if_pos (by omega),← h2,get_nth (by omega)]
  ·rw [if_neg h2]
   by_cases h3:k<j
   ·rw [if_pos h3,if_pos (by omega)]
   ·rw [if_neg h3,if_neg (show ¬ k=j by omega)]
    by_cases h4:k≤i
    ·rw [if_pos h4,if_neg (show ¬ k<j-1 by omega),if_neg (show ¬ k=j-1 by omega)]
    ·rw [if_neg h4,if_neg (show ¬ k<j-1 by omega),if_neg (show ¬ k=j-1 by omega)]
end
section
variable {E:Type}
structure Pre (cmp:E→E→Int):Prop where
 sgn:∀ a b,cmp a b<0↔0<cmp b a
 tr:∀ a b c,cmp a b≤0→cmp b c≤0→cmp a c≤0
variable {cmp:E→E→Int}
theorem Pre.rf (h:Pre cmp) (a:E):cmp a a=0:=by have:=h.sgn a a; omega
theorem Pre.le_of_not (h:Pre cmp) {a b:E} (k:¬ cmp a b<0):cmp b a≤0:=by have:=h.sgn a b; have:=h.sgn b a; omega
theorem Pre.not_lt (h:Pre cmp) {a b:E} (k:cmp b a≤0):¬ cmp a b<0:=by have:=h.sgn a b; omega
theorem Pre.lt_le (h:Pre cmp) {a b c:E} (k:cmp a b<0) (l:cmp b c≤0):cmp a c<0:=by
 have h1:=h.tr a b c (by omega) l
 have:¬ cmp c a≤0:=fun q=>by
  have:=h.tr b c a l q
  have:=h.sgn a b
  omega
 have:=h.sgn a c; omega
theorem Pre.le_lt (h:Pre cmp) {a b c:E} (k:cmp a b≤0) (l:cmp b c<0):cmp a c<0:=by
 have h1:=h.tr a b c k (by omega)
 have:¬ cmp c a≤0:=fun q=>by
  have:=h.tr c a b q k
  have:=h.sgn b c
  omega
 have:=h.sgn a c; omega
theorem Pre.eq_symm (h:Pre cmp) {a b:E} (k:cmp a b=0):cmp b a=0:=by have:=h.sgn a b; have:=h.sgn b a; omega
theorem Pre.eq_tr (h:Pre cmp) {a b c:E} (k:cmp a b=0) (l:cmp b c=0):cmp a c=0:=by
 have:=h.tr a b c (by omega) (by omega)
 have:=h.tr c b a (by have:=h.eq_symm l; omega) (by have:=h.eq_symm k; omega)
 have:=h.sgn a c
 omega
def Srt (cmp:E→E→Int) (l:List E):Prop:=l.Pairwise fun a b=>cmp a b≤0
def cls (cmp:E→E→Int) (x:E) (l:List E):List E:=l.filter fun y=>decide (cmp x y=0)
def Flt (cmp:E→E→Int) (l l':List E):Prop:=∀ x,cls cmp x l=cls cmp x l'
theorem cls_app (x:E) (l l':List E):cls cmp x (l ++ l')=cls cmp x l ++ cls cmp x l':=List.filter_append ..
theorem cls_cons (x y:E) (l:List E):cls cmp x (y :: l)=if cmp x y=0 then y :: cls cmp x l else cls cmp x l:=by
 simp only [cls,List.filter_cons,decide_eq_true_eq]
theorem mem_cls {x y:E} {l:List E}:y∈cls cmp x l↔y∈l∧cmp x y=0:=by simp [cls]
theorem cls_none {x:E} {l:List E} (h:∀ y∈l,cmp x y≠0):cls cmp x l=[]:=by
 simp only [cls,List.filter_eq_nil_iff,decide_eq_true_eq]; exact h
theorem Flt.refl (l:List E):Flt cmp l l:=fun _=>rfl
theorem Flt.symm {l l':List E} (h:Flt cmp l l'):Flt cmp l' l:=fun x=>(h x).symm
theorem Flt.trans {l l' l'':List E} (h:Flt cmp l l') (k:Flt cmp l' l''):Flt cmp l l'':=fun x=>(h x).trans (k x)
theorem Flt.app {a b c d:List E} (h:Flt cmp a b) (k:Flt cmp c d):Flt cmp (a ++ c) (b ++ d):=fun x=>by rw [cls_app,cls_app,h x,k x]
theorem Flt.mem (hp:Pre cmp) {l l':List E} (h:Flt cmp l l') {x:E}:x∈l↔x∈l':=by
 have:=h x
 constructor
 ·intro hx
  have:x∈cls cmp x l':=by rw [← this]; exact mem_cls.2 ⟨hx,hp.rf x⟩
  exact (mem_cls.1 this).1
 ·intro hx
  have:x∈cls cmp x l:=by rw [this]; exact mem_cls.2 ⟨hx,hp.rf x⟩
  exact (mem_cls.1 this).1
theorem Flt.swap (hp:Pre cmp) {u v:List E} (h:∀ y∈v,∀ x∈u,cmp y x<0):Flt cmp (v ++ u) (u ++ v):=fun z=>by
 rw [cls_app,cls_app]
 by_cases hu:cls cmp z u=[]
 ·rw [hu]; simp
 ·have hv:cls cmp z v=[]:=cls_none fun y hy h0=>by
   apply hu
   exact cls_none fun x hx h1=>by
    have h2:=h y hy x hx
    have:=hp.eq_tr (hp.eq_symm h0) h1
    omega
  rw [hv]; simp
theorem srt_flt_unique (hp:Pre cmp):∀ {l l':List E},Srt cmp l→Srt cmp l'→Flt cmp l l'→l=l'
 | [],[],_,_,_=>rfl
 | [],b :: t,_,_,h=>by have:=(h.mem hp (x:=b)).2 List.mem_cons_self; simp at this
 | a :: t,[],_,_,h=>by have:=(h.mem hp (x:=a)).1 List.mem_cons_self; simp at this
 | a :: t,b :: t',h1,h2,h=>by
  have ha:cmp b a≤0:=by
   have:=(h.mem hp (x:=a)).1 List.mem_cons_self
   rcases List.mem_cons.1 this with e | e
   ·subst e; have:=hp.rf a; omega
   ·exact (List.pairwise_cons.1 h2).1 a e
  have hb:cmp a b≤0:=by
   have:=(h.mem hp (x:=b)).2 List.mem_cons_self
   rcases List.mem_cons.1 this with e | e
   ·subst e; have:=hp.rf b; omega
   ·exact (List.pairwise_cons.1 h1).1 b e
  have hab:cmp a b=0:=by have:=hp.sgn a b; have:=hp.sgn b a; omega
  have e:=h a
  rw [cls_cons,cls_cons,if_pos (hp.rf a),if_pos hab] at e
  injection e with e1 e2
  subst e1
  have ht:Flt cmp t t':=fun x=>by
   have:=h x
   rw [cls_cons,cls_cons] at this
   split at this
   ·injection this
   ·exact this
  rw [srt_flt_unique hp (List.pairwise_cons.1 h1).2 (List.pairwise_cons.1 h2).2 ht]
def insF (cmp:E→E→Int) (x:E):List E→List E
 | []=>[x]
 | y :: l=>if cmp x y≤0 then x :: y :: l else y :: insF cmp x l
def ssort (cmp:E→E→Int):List E→List E
 | []=>[]
 | x :: l=>insF cmp x (ssort cmp l)
theorem insF_mem {x y:E}:∀ {l:List E},y∈insF cmp x l↔y=x∨y∈l
 | []=>by simp [insF]
 | z :: l=>by
  simp only [insF]
  split
  ·simp
  ·simp only [List.mem_cons,insF_mem (l:=l)]
   constructor
   ·rintro (h | h | h)
    ·exact .inr (.inl h)
    ·exact .inl h
    ·exact .inr (.inr h)
   ·rintro (h | h | h)
    ·exact .inr (.inl h)
    ·exact .inl h
    ·exact .inr (.inr h)
theorem insF_srt (hp:Pre cmp) {x:E}:∀ {l:List E},Srt cmp l→Srt cmp (insF cmp x l)
 | [],_=>by simp [insF,Srt]
 | y :: l,h=>by
  have ⟨h1,h2⟩:=List.pairwise_cons.1 h
  simp only [insF]
  split
  ·rename_i hxy
   exact List.pairwise_cons.2 ⟨fun z hz=>by
    rcases List.mem_cons.1 hz with e | e
    ·subst e; exact hxy
    ·exact hp.tr _ _ _ hxy (h1 z e),h⟩
  ·rename_i hxy
   refine List.pairwise_cons.2 ⟨fun z hz=>?_,insF_srt hp h2⟩
   rcases insF_mem.1 hz with e | e
   ·subst e; have:=hp.sgn y z; omega
   ·exact h1 z e
theorem insF_flt (hp:Pre cmp) {x:E}:∀ {l:List E},Flt cmp (insF cmp x l) (x :: l)
 | []=>Flt.refl _
 | y :: l=>by
  simp only [insF]
  split
  ·exact Flt.refl _
  ·rename_i hxy
   intro z
   have:=insF_flt hp (x:=x) (l:=l) z
   rw [cls_cons] at this ⊢
   rw [this,cls_cons,cls_cons]
   by_cases h1:cmp z y=0
   ·by_cases h2:cmp z x=0
    ·have:=hp.eq_tr (hp.eq_symm h2) h1; omega
    ·simp [h1,h2]
   ·simp [h1]
theorem ssort_srt (hp:Pre cmp):∀ l:List E,Srt cmp (ssort cmp l)
 | []=>List.Pairwise.nil
 | x :: l=>insF_srt hp (ssort_srt hp l)
theorem ssort_flt (hp:Pre cmp):∀ l:List E,Flt cmp (ssort cmp l) l
 | []=>Flt.refl _
 | x :: l=>fun z=>by
  have h1:=insF_flt hp (x:=x) (l:=ssort cmp l) z
  have h2:=ssort_flt hp l z
  simp only [ssort]
  rw [h1,cls_cons,cls_cons,h2]
theorem insF_len {x:E}:∀ {l:List E},(insF cmp x l).length=l.length+1
 | []=>rfl
 | y :: l=>by simp only [insF]; split <;> simp [insF_len (l:=l)]
theorem ssort_len:∀ l:List E,(ssort cmp l).length=l.length
 | []=>rfl
 | x :: l=>by simp [ssort,insF_len,ssort_len l]
theorem ssort_of (hp:Pre cmp) {l w:List E} (h1:Srt cmp w) (h2:Flt cmp w l):w=ssort cmp l :=
 srt_flt_unique hp h1 (ssort_srt hp l) (h2.trans (ssort_flt hp l).symm)
theorem Srt.app {a b:List E} (ha:Srt cmp a) (hb:Srt cmp b) (h:∀ x∈a,∀ y∈b,cmp x y≤0):Srt cmp (a ++ b):=List.pairwise_append.2 ⟨ha,hb,h⟩
theorem Srt.left {a b:List E} (h:Srt cmp (a ++ b)):Srt cmp a:=(List.pairwise_append.1 h).1
theorem Srt.right {a b:List E} (h:Srt cmp (a ++ b)):Srt cmp b:=(List.pairwise_append.1 h).2.1
theorem Srt.cross {a b:List E} (h:Srt cmp (a ++ b)) {x y:E} (hx:x∈a) (hy:y∈b):cmp x y≤0:=(List.pairwise_append.1 h).2.2 x hx y hy
theorem Srt.nth_le (hp:Pre cmp) [Inhabited E] {l:List E} (h:Srt cmp l) {i j:Nat} (hij:i≤j) (hj:j<l.length):cmp (nth l i) (nth l j)≤0:=by
 have e:∀ k (hk:k<l.length),nth l k=l[k]:=fun k hk=>by simp [nth,List.getD_eq_getElem?_getD,hk]
 rw [e i (by omega),e j hj]
 by_cases hh:i=j
 ·subst hh; have:=hp.rf l[i]; omega
 ·exact List.pairwise_iff_getElem.1 h i j (by omega) hj (by omega)
theorem mem_nth [Inhabited E] {l:List E} {x:E} (h:x∈l):∃ k,k<l.length∧nth l k=x:=by
 obtain ⟨k,hk,e⟩:=List.getElem_of_mem h
 exact ⟨k,hk,by simp [nth,List.getD_eq_getElem?_getD,hk,e]⟩
end
section
variable {E:Type} [Inhabited E]
theorem nth_app_l {a b:List E} {i:Nat} (h:i<a.length):nth (a ++ b) i=nth a i:=by simp [nth,List.getD_eq_getElem?_getD,List.getElem?_append,h]
theorem nth_app_r {a b:List E} {i:Nat} (h:a.length≤i):nth (a ++ b) i=nth b (i-a.length):=by simp [nth,List.getD_eq_getElem?_getD,List.getElem?_append,Nat.not_lt.2 h]
theorem nth_take {l:List E} {n i:Nat} (h:i<n):nth (l.take n) i=nth l i:=by simp [nth,List.getD_eq_getElem?_getD,List.getElem?_take,h]
end
open Go
theorem cb_sgn:∀ a b:List UInt8,Lib.compareBytes a b = - Lib.compareBytes b a
 | [],[]=>rfl
 | [],_ :: _=>by simp [Lib.compareBytes]
 | _ :: _,[]=>by simp [Lib.compareBytes]
 | x :: a,y :: b=>by
  simp only [Lib.compareBytes]
  have h1:∀ p q:UInt8,p<q↔p.toNat<q.toNat:=fun p q=>UInt8.lt_iff_toNat_lt
  by_cases c1:x<y
  ·have:¬ y<x:=by rw [h1] at *; omega
   simp [c1,this]
  ·by_cases c2:y<x
   ·simp [c1,c2]
   ·simp [c1,c2,cb_sgn a b]
theorem cb_eq:∀ a b:List UInt8,Lib.compareBytes a b=0↔a=b
 | [],[]=>by simp [Lib.compareBytes]
 | [],_ :: _=>by simp [Lib.compareBytes]
 | _ :: _,[]=>by simp [Lib.compareBytes]
 | x :: a,y :: b=>by
  simp only [Lib.compareBytes]
  have h1:∀ p q:UInt8,p<q↔p.toNat<q.toNat:=fun p q=>UInt8.lt_iff_toNat_lt
  by_cases c1:x<y
  ·rw [if_pos c1]
   constructor
   ·intro h; omega
   ·intro h; injection h with e _; subst e; rw [h1] at c1; omega
  ·rw [if_neg c1]
   by_cases c2:y<x
   ·rw [if_pos c2]
    constructor
    ·intro h; omega
    ·intro h; injection h with e _; subst e; rw [h1] at c2; omega
   ·rw [if_neg c2,cb_eq a b]
    have:x=y:=by
     apply UInt8.toNat.inj
     rw [h1] at c1 c2; omega
    subst this
    simp
theorem cb_tr:∀ a b c:List UInt8,Lib.compareBytes a b≤0→Lib.compareBytes b c≤0→Lib.compareBytes a c≤0
 | [],b,c,_,_=>by cases c <;> simp [Lib.compareBytes]
 | x :: a,[],c,h,_=>by simp [Lib.compareBytes] at h
 | x :: a,y :: b,[],_,h=>by simp [Lib.compareBytes] at h
 | x :: a,y :: b,z :: c,h,k=>by
  have h1:∀ p q:UInt8,p<q↔p.toNat<q.toNat:=fun p q=>UInt8.lt_iff_toNat_lt
  simp only [Lib.compareBytes,h1] at h k ⊢
  split at h
  ·split at k
   ·rw [if_pos (by omega)]; omega
   ·split at k
    ·omega
    ·rw [if_pos (by omega)]; omega
  ·split at h
   ·omega
   ·split at k
    ·rw [if_pos (by omega)]; omega
    ·split at k
     ·omega
     ·rw [if_neg (by omega),if_neg (by omega)]; exact cb_tr a b c h k
def cmpS (a b:ByteArray):Int:=Lib.compareBytes a.data.toList b.data.toList
theorem cmpS_eq (a b:ByteArray):cmpS a b=0↔a=b:=by
 unfold cmpS
 rw [cb_eq]
 constructor
 ·intro h; cases a; cases b; congr 1; exact Array.toList_inj.1 h
 ·intro h; rw [h]
theorem cmpS_sgn (a b:ByteArray):cmpS a b = - cmpS b a:=cb_sgn _ _
theorem cmpS_pre:Pre cmpS:=⟨fun a b=>by have:=cmpS_sgn a b; omega,fun a b c=>cb_tr _ _ _⟩
theorem bl_cb:∀ a b:List UInt8,Op.bytesLess a b=decide (Lib.compareBytes a b<0)
 | [],[]=>rfl
 | [],_ :: _=>rfl
 | _ :: _,[]=>rfl
 | x :: a,y :: b=>by
  simp only [Op.bytesLess,Lib.compareBytes]
  have h1:∀ p q:UInt8,p<q↔p.toNat<q.toNat:=fun p q=>UInt8.lt_iff_toNat_lt
  by_cases c1:x<y
  ·simp [c1]
  ·by_cases c2:y<x
   ·have:¬ x=y:=fun e=>by subst e; rw [h1] at c2; omega
    simp [c1,c2,this]
   ·have:x=y:=by apply UInt8.toNat.inj; rw [h1] at c1 c2; omega
    subst this
    simp [c1,bl_cb a b]
theorem strLt_eq (a b:ByteArray):strLt a b=decide (cmpS a b<0):=by
 unfold strLt cmpS
 have e:∀ x:ByteArray,x.toList=x.data.toList:=fun x=>ByteArray.toList_eq x
 rw [e,e]; exact bl_cb _ _
end Go.Aw
namespace Go.Aw.Try
open Go Go.Proofs Go.Aw
set_option maxRecDepth 100000
set_option maxHeartbeats 4000000
def G0:Gl:=fun _=>none
theorem hmix:Tryz.prog.follows .mixedOrders=true:=Checked.mixed Tryz.checked
abbrev I (n:Int):V:=.c (.d (.v (.int .i64 n)))
abbrev Sx (n:ByteArray):V:=.c (.d (.v (.string n)))
structure Id where
 a:ByteArray
 n:Int
def Id.row (x:Id):List D:=[.v (.string x.a),.v (.int .i64 x.n)]
structure Edit where
 id:Id
 clock:Int
 floor:Int
 deps:List Id
 kind:Int
 node:Id
 parent:Id
 neg:Bool
 num:ByteArray
 den:ByteArray
 field:ByteArray
 value:ByteArray
 target:Id
 who:ByteArray
def Edit.row (e:Edit):List D:=[.v (.string e.id.a),.v (.int .i64 e.id.n),.v (.int .i64 e.clock),.v (.int .i64 e.floor),.sl (e.deps.map Id.row),.v (.int .i64 e.kind),.v (.string e.node.a),.v (.int .i64 e.node.n),.v (.string e.parent.a),.v (.int .i64 e.parent.n),.v (.bool e.neg),.v (.string e.num),.v (.string e.den),.v (.string e.field),.v (.string e.value),.v (.string e.target.a),.v (.int .i64 e.target.n),.v (.string e.who)]
theorem Edit.row_eq (e:Edit):e.row=[.v (.string e.id.a),.v (.int .i64 e.id.n),.v (.int .i64 e.clock),.v (.int .i64 e.floor),.sl (e.deps.map Id.row),.v (.int .i64 e.kind),.v (.string e.node.a),.v (.int .i64 e.node.n),.v (.string e.parent.a),.v (.int .i64 e.parent.n),.v (.bool e.neg),.v (.string e.num),.v (.string e.den),.v (.string e.field),.v (.string e.value),.v (.string e.target.a),.v (.int .i64 e.target.n),.v (.string e.who)]:=rfl
def cmpI (a b:Int):Int:=if a<b then -1 else if b<a then 1 else 0
def x48:XE:=⟨true,fun ps=>match ps with | [.c (.v (.int .i64 a)),.c (.v (.int .i64 b))]=>some (True,.int .i64 (cmpI a b)) | _=>none⟩
def intsOf:List (List D)→Option (List Int)
 | []=>some []
 | [.v (.int .i64 a)] :: r=>match intsOf r with | some l=>some (a :: l) | none=>none
 | _=>none
def orI:List Int→Int
 | []=>0
 | a :: r=>if a≠0 then a else orI r
theorem intsOf_get:∀ {xs:List (List D)} {l:List Int},intsOf xs=some l→xs=l.map fun n=>[.v (.int .i64 n)]
 | [],l,h=>by simp only [intsOf,Option.some.injEq] at h; subst h; rfl
 | [.v (.int .i64 a)] :: r,l,h=>by
  simp only [intsOf] at h
  split at h
  ·rename_i l' h'; injection h with h; subst h; rw [intsOf_get h']; rfl
  ·cases h
theorem k47 (l:List Int) (hl:l.length<4611686018427387904):ACalls Tryz.prog G0 83 [.c (.d (.sl (l.map fun n=>[.v (.int .i64 n)])))] [] fun t H=>t = .int .i64 (orI l)∧H=[]:=by
 refine acallsX (X:=[]) trivial tab hmix Tryz.func83 c47 (by rfl) fun hw=>?_
 simp [ir47,b47]
 refine loopX (fun k s=>∃ i,i≤l.length∧k=l.length-i∧orI l=orI (l.drop i)∧s=⟨ofL [(3,.int .i64 0),(6,.v (.c (.d (.sl (l.map fun n=>[.v (.int .i64 n)]))))),(7,.int .i64 l.length),(8,.int .i64 i)],[]⟩) ?_ ?_
 ·refine wk_nil [] [3,6,7,8] rfl ⟨_,0,Nat.zero_le _,rfl,rfl,?_⟩
  simp
 ·rintro k s ⟨i,hi,rfl,ho,rfl⟩
  by_cases hlt:i<l.length
  ·have hd:l.drop i=l[i] :: l.drop (i+1):=List.drop_eq_getElem_cons hlt
   simp (disch:=omega) [hlt,nth_map,nth_eq,wrap64]
   refine ⟨fun h0=>fin_nil ⟨by rw [ho,hd]; simp [orI,h0],rfl⟩,fun h0=>wk_nil [] [3,6,7,8] rfl ⟨l.length-(i+1),by omega,i+1,hlt,rfl,?_,?_⟩⟩
   ·rw [ho,hd]; simp [orI,h0]
   ·simp
  ·have hd:l.drop i=[]:=List.drop_eq_nil_of_le (by omega)
   simp [hlt,ho,hd,orI]
   exact fin_nil ⟨rfl,rfl⟩
end Go.Aw.Try
namespace Go.Aw
section
variable {E:Type} [Inhabited E] {cmp:E→E→Int}
def insP (cmp:E→E→Int) (es:List E) (a:Nat) (v:E):Nat→Nat
 | 0=>0
 | j+1=>if a<j+1∧cmp v (nth es j)<0 then insP cmp es a v j else j+1
def insN (cmp:E→E→Int) (a:Nat):Nat→Nat→List E→List E
 | 0,i,es=>es
 | n+1,i,es=>insN cmp a n (i+1) (mv es i (insP cmp es a (nth es i) i))
theorem insP_spec {P s S:List E} {v:E}:∀ k,k≤s.length→(∀ x∈s.drop k,cmp v x<0) →
  ∃ k',k'≤k∧insP cmp (P ++ s ++ S) P.length v (P.length+k)=P.length+k'∧(∀ x∈s.drop k',cmp v x<0)∧(∀ h:0<k',¬ cmp v (nth s (k'-1))<0)
 | 0,hk,hd=>⟨0,Nat.le_refl _,by
   show insP cmp _ P.length v P.length=P.length
   cases h:P.length with
   | zero=>rfl
   | succ n=>simp only [insP]; rw [if_neg (by omega)],hd,fun h=>absurd h (by omega)⟩
 | k+1,hk,hd=>by
  have e:nth (P ++ s ++ S) (P.length+k)=nth s k:=by
   rw [List.append_assoc,nth_app_r (by omega),nth_app_l (by omega)]; congr 1; omega
  show ∃ k',k'≤k+1∧insP cmp (P ++ s ++ S) P.length v (P.length+k+1)=_∧_
  simp only [insP,e]
  by_cases hc:cmp v (nth s k)<0
  ·rw [if_pos ⟨by omega,hc⟩]
   obtain ⟨k',h1,h2,h3,h4⟩:=insP_spec (P:=P) (s:=s) (S:=S) (v:=v) k (by omega) (fun x hx=>by
    have:s.drop k=nth s k :: s.drop (k+1):=by rw [List.drop_eq_getElem_cons (by omega)]; congr 1; simp [nth,List.getD_eq_getElem?_getD,show k<s.length by omega]
    rw [this] at hx
    rcases List.mem_cons.1 hx with e | e
    ·subst e; exact hc
    ·exact hd x e)
   exact ⟨k',by omega,h2,h3,h4⟩
  ·rw [if_neg fun q=>hc q.2]
   exact ⟨k+1,Nat.le_refl _,by omega,hd,fun _=>by simpa using hc⟩
theorem mv_app {P s1 s2 S:List E} {v:E}:mv (P ++ (s1 ++ s2) ++ v :: S) (P.length+(s1 ++ s2).length) (P.length+s1.length)=P ++ (s1 ++ v :: s2) ++ S:=by
 unfold mv
 have e0:P ++ (s1 ++ s2) ++ v :: S=(P ++ s1) ++ (s2 ++ v :: S):=by simp
 have e1:nth (P ++ (s1 ++ s2) ++ v :: S) (P.length+(s1 ++ s2).length)=v:=by
  rw [nth_app_r (by simp)]; simp [nth]
 rw [e1,e0,List.take_left' (by simp),List.drop_left' (by simp)]
 have e2:(s2 ++ v :: S).take (P.length+(s1 ++ s2).length-(P.length+s1.length))=s2:=List.take_left' (by simp; omega)
 have e3:(P ++ s1 ++ (s2 ++ v :: S)).drop (P.length+(s1 ++ s2).length+1)=S:=by
  have:P ++ s1 ++ (s2 ++ v :: S)=(P ++ s1 ++ s2 ++ [v]) ++ S:=by simp
  rw [this]; exact List.drop_left' (by simp; omega)
 rw [e2,e3]; simp
theorem ins_step (hp:Pre cmp) {P s S:List E} {v:E} (hs:Srt cmp s) :
  ∃ w,mv (P ++ s ++ v :: S) (P.length+s.length) (insP cmp (P ++ s ++ v :: S) P.length v (P.length+s.length))=P ++ w ++ S∧Srt cmp w∧Flt cmp w (s ++ [v])∧w.length=s.length+1:=by
 obtain ⟨k,h1,h2,h3,h4⟩:=insP_spec (P:=P) (s:=s) (S:=v :: S) (v:=v) (cmp:=cmp) s.length (Nat.le_refl _) (by simp)
 rw [h2]
 have hsp:s=s.take k ++ s.drop k:=(List.take_append_drop k s).symm
 have hl:(s.take k).length=k:=by simp; omega
 have:=mv_app (P:=P) (s1:=s.take k) (s2:=s.drop k) (S:=S) (v:=v)
 rw [← hsp,hl] at this
 refine ⟨s.take k ++ v :: s.drop k,this,?_,?_,by simp; omega⟩
 ·have h5:∀ x∈s.take k,cmp x v≤0:=fun x hx=>by
   by_cases hk:k=0
   ·subst hk; simp at hx
   obtain ⟨i,hi,e⟩:=mem_nth hx
   rw [hl] at hi
   rw [nth_take hi] at e
   have h6:=hp.le_of_not (h4 (by omega))
   have h7:=hs.nth_le hp (show i≤k-1 by omega) (by omega)
   rw [e] at h7
   exact hp.tr _ _ _ h7 h6
  refine Srt.app (by rw [hsp] at hs; exact hs.left) (List.pairwise_cons.2 ⟨fun x hx=>by have:=h3 x hx; omega,by rw [hsp] at hs; exact hs.right⟩) fun x hx y hy=>?_
  rcases List.mem_cons.1 hy with e | e
  ·subst e; exact h5 x hx
  ·rw [hsp] at hs; exact hs.cross hx e
 ·rw [show s ++ [v]=s.take k ++ (s.drop k ++ [v]) by rw [← List.append_assoc,← hsp]]
  refine (Flt.refl _).app ?_
  have:=Flt.swap hp (u:=s.drop k) (v:=[v]) (fun y hy x hx=>by simp at hy; subst hy; exact h3 x hx)
  simpa using this
theorem insN_spec (hp:Pre cmp) {P S:List E}:∀ (t s:List E),Srt cmp s →
  ∃ w,insN cmp P.length t.length (P.length+s.length) (P ++ s ++ (t ++ S))=P ++ w ++ S∧Srt cmp w∧Flt cmp w (s ++ t)∧w.length=s.length+t.length
 | [],s,hs=>⟨s,by simp [insN],hs,by simpa using Flt.refl _,by simp⟩
 | v :: t,s,hs=>by
  have e1:nth (P ++ s ++ (v :: t ++ S)) (P.length+s.length)=v:=by rw [nth_app_r (by simp)]; simp [nth]
  obtain ⟨w,h1,h2,h3,h4⟩:=ins_step (P:=P) (S:=t ++ S) (v:=v) hp hs
  have h1':mv (P ++ s ++ (v :: t ++ S)) (P.length+s.length) (insP cmp (P ++ s ++ (v :: t ++ S)) P.length v (P.length+s.length))=P ++ w ++ (t ++ S):=h1
  simp only [List.length_cons,insN,e1,h1']
  obtain ⟨w',g1,g2,g3,g4⟩:=insN_spec (P:=P) (S:=S) hp t w h2
  rw [show P.length+s.length+1=P.length+w.length by omega,g1]
  refine ⟨w',rfl,g2,g3.trans ?_,by omega⟩
  have:=h3.app (Flt.refl (cmp:=cmp) t)
  simpa using this
theorem ins_sorts (hp:Pre cmp) {P u S:List E}:∃ w,insN cmp P.length (P.length+u.length-(P.length+1)) (P.length+1) (P ++ u ++ S)=P ++ w ++ S∧Srt cmp w∧Flt cmp w u∧w.length=u.length:=by
 cases u with
 | nil=>exact ⟨[],by rw [show P.length+([]:List E).length-(P.length+1)=0 by simp]; rfl,List.Pairwise.nil,Flt.refl _,rfl⟩
 | cons x t =>
  obtain ⟨w,h1,h2,h3,h4⟩:=insN_spec (P:=P) (S:=S) hp t [x] (by simp [Srt])
  have e:P.length+(x :: t).length-(P.length+1)=t.length:=by simp; omega
  rw [e]
  simp only [List.length_singleton] at h1
  refine ⟨w,by rw [← h1]; simp,h2,by simpa using h3,by simp at h4 ⊢; omega⟩
def swap2 (l:List E) (p q:Nat):List E:=(l.set p (nth l q)).set q (nth l p)
def swp (es:List E) (a b:Nat):Nat→List E
 | 0=>es
 | i+1=>swap2 (swp es a b i) (a+i) (b+i)
theorem swp_len (es:List E) (a b:Nat):∀ i,(swp es a b i).length=es.length
 | 0=>rfl
 | i+1=>by simp [swp,swap2,swp_len es a b i]
theorem swap2_get {l:List E} {p q:Nat} (hp:p<l.length) (hq:q<l.length) (k:Nat):(swap2 l p q)[k]? = if k=q then l[p]? else if k=p then l[q]? else l[k]? := by
 unfold swap2
 rw [List.getElem?_set,List.getElem?_set,List.length_set,get_nth hp,get_nth hq]
 (repeat' split) <;> first | rfl | omega
theorem swp_get {es:List E} {a b:Nat}:∀ {n:Nat},a+n≤b→b+n≤es.length→∀ k,
  (swp es a b n)[k]? = if a≤k∧k<a+n then es[k-a+b]? else if b≤k∧k<b+n then es[k-b+a]? else es[k]?
 | 0,h1,h2,k=>by rw [if_neg (by omega),if_neg (by omega)]; rfl
 | n+1,h1,h2,k=>by
  have hl:=swp_len es a b n
  have ih:=swp_get (es:=es) (a:=a) (b:=b) (n:=n) (by omega) (by omega)
  simp only [swp]
  rw [swap2_get (by omega) (by omega),ih,ih,ih]
  (repeat' split) <;> first | rfl | omega | (congr 1; omega)
theorem swp_app {Q x y z T:List E} {n a b:Nat} (hx:x.length=n) (hz:z.length=n) (ha:a=Q.length) (hb:b=Q.length+x.length+y.length) :
  swp (Q ++ (x ++ (y ++ (z ++ T)))) a b n=Q ++ (z ++ (y ++ (x ++ T))):=by
 apply List.ext_getElem?
 intro k
 rw [swp_get (by omega) (by simp; omega)]
 subst ha; subst hb
 simp only [List.getElem?_append]
 repeat' split
 all_goals first | omega | rfl | (congr 1; omega)
def rotN (m:Nat):Nat→Nat→Nat→List E→List E
 | 0,i,j,es=>es
 | n+1,i,j,es=>if i=j then swp es (m-i) m i else if j<i then rotN m n (i-j) j (swp es (m-i) m j) else rotN m n i (j-i) (swp es (m-i) (m+j-i) i)
theorem rotN_more (m:Nat):∀ (n n' i j:Nat) (es:List E),0<i→0<j→i+j≤n→i+j≤n'→rotN m n i j es=rotN m n' i j es
 | 0,n',i,j,es,hi,hj,h,h'=>by omega
 | n+1,0,i,j,es,hi,hj,h,h'=>by omega
 | n+1,n'+1,i,j,es,hi,hj,h,h'=>by
  simp only [rotN]
  by_cases e:i=j
  ·rw [if_pos e,if_pos e]
  ·rw [if_neg e,if_neg e]
   by_cases e2:j<i
   ·rw [if_pos e2,if_pos e2]; exact rotN_more m n n' _ _ _ (by omega) hj (by omega) (by omega)
   ·rw [if_neg e2,if_neg e2]; exact rotN_more m n n' _ _ _ hi (by omega) (by omega) (by omega)
theorem rotN_app {m:Nat}:∀ (n:Nat) {i j:Nat} {Q u v T:List E},i=u.length→j=v.length→m=Q.length+u.length→0<i→0<j→i+j≤n →
  rotN m n i j (Q ++ (u ++ (v ++ T)))=Q ++ (v ++ (u ++ T))
 | 0,i,j,Q,u,v,T,hu,hv,hm,hi,hj,hn=>by omega
 | n+1,i,j,Q,u,v,T,hu,hv,hm,hi,hj,hn=>by
  simp only [rotN]
  by_cases e:i=j
  ·rw [if_pos e]
   have:=swp_app (Q:=Q) (x:=u) (y:=[]) (z:=v) (T:=T) (n:=i) (a:=m-i) (b:=m) (by omega) (by omega) (by omega) (by simp; omega)
   simpa using this
  ·rw [if_neg e]
   by_cases e2:j<i
   ·rw [if_pos e2]
    have hs:u=u.take j ++ u.drop j:=(List.take_append_drop j u).symm
    have hl:(u.take j).length=j:=by simp; omega
    have hl2:(u.drop j).length=i-j:=by simp; omega
    generalize u.take j=x at hs hl
    generalize u.drop j=y at hs hl2
    subst hs
    have:=swp_app (Q:=Q) (x:=x) (y:=y) (z:=v) (T:=T) (n:=j) (a:=m-i) (b:=m) hl (by omega) (by omega) (by simp at hm; omega)
    rw [List.append_assoc x y,this]
    have:=rotN_app n (m:=m) (i:=i-j) (j:=j) (Q:=Q ++ v) (u:=y) (v:=x) (T:=T) (by omega) (by omega) (by simp at hm ⊢; omega) (by omega) hj (by omega)
    simpa using this
   ·rw [if_neg e2]
    have hs:v=v.take (j-i) ++ v.drop (j-i):=(List.take_append_drop (j-i) v).symm
    have hl:(v.take (j-i)).length=j-i:=by simp; omega
    have hl2:(v.drop (j-i)).length=i:=by simp; omega
    generalize v.take (j-i)=x at hs hl
    generalize v.drop (j-i)=y at hs hl2
    subst hs
    have:=swp_app (Q:=Q) (x:=u) (y:=x) (z:=y) (T:=T) (n:=i) (a:=m-i) (b:=m+j-i) (by omega) hl2 (by omega) (by omega)
    rw [List.append_assoc x y,this]
    have:=rotN_app n (m:=m) (i:=i) (j:=j-i) (Q:=Q) (u:=y) (v:=x) (T:=u ++ T) (by omega) (by omega) (by omega) hi (by omega) (by omega)
    rw [this]; simp
def Merged (cmp:E→E→Int) (u w:List E):Prop:=Srt cmp w∧Flt cmp w u∧w.length=u.length
theorem merge_split (hp:Pre cmp) {u1 u2 v1 v2 w1 w2:List E} (hu:Srt cmp (u1 ++ u2)) (hv:Srt cmp (v1 ++ v2))
  (h1:∀ x∈v1,∀ y∈u2,cmp x y<0) (h2:∀ x∈u1,∀ y∈v2,cmp x y≤0) (k1:Merged cmp (u1 ++ v1) w1) (k2:Merged cmp (u2 ++ v2) w2) :
  Merged cmp ((u1 ++ u2) ++ (v1 ++ v2)) (w1 ++ w2):=by
 refine ⟨k1.1.app k2.1 fun x hx y hy=>?_,?_,by have:=k1.2.2; have:=k2.2.2; simp at *; omega⟩
 ·have hx:=(k1.2.1.mem hp).1 hx
  have hy:=(k2.2.1.mem hp).1 hy
  rcases List.mem_append.1 hx with hx | hx <;> rcases List.mem_append.1 hy with hy | hy
  ·exact hu.cross hx hy
  ·exact h2 x hx y hy
  ·have:=h1 x hx y hy; omega
  ·exact hv.cross hx hy
 ·have e1:=k1.2.1.app k2.2.1
  refine e1.trans ?_
  have:=((Flt.refl (cmp:=cmp) u1).app (Flt.swap hp h1)).app (Flt.refl (cmp:=cmp) v2)
  simpa using this
end
end Go.Aw
namespace Go.Aw.Try
open Go Go.Proofs Go.Aw
set_option maxRecDepth 100000
set_option maxHeartbeats 4000000
section
variable {E:Type} [Inhabited E]
theorem k77 (row:E→List D) (hrow:∀ e,RowOk 8 (row e)) (cmp:E→E→Int) (f:Nat) (xf:XE) (hx:Contract Tryz.prog G0 f xf) (hsc:xf.sc=true)
  (hxg:∀ a b,xf.g [.agg (row a),.agg (row b)]=some (True,.int .i64 (cmp a b))) (es:List E) (a b:Nat) (hab:a≤b) (hb:b≤es.length) (hl:es.length<4611686018427387904)
  (H:List O) (r:Nat) (hr:r<H.length) :
  ACalls Tryz.prog G0 117 [.c (.os r 8 0 es.length),I a,I b,.c (.fn f [])] (H.set r (.row 8 (es.map row))) fun t H'=>t = .tup []∧H'=H.set r (.row 8 ((insN cmp a (b-(a+1)) (a+1) es).map row)):=by
 refine acallsX (X:=[(f,xf)]) ⟨hx,trivial⟩ tab hmix Tryz.func117 c77 (by rfl) fun hw=>?_
 simp (implicitDefEqProofs:=false) (disch:=omega) [gz,ir77,b77,wrap64]
 refine loopX (fun k s=>∃ i es',a<i∧(i≤b∨i=a+1)∧k=b-i∧es'.length=es.length∧insN cmp a (b-i) i es'=insN cmp a (b-(a+1)) (a+1) es ∧
  s=⟨ofL [(0,.v (.c (.os r 8 0 es.length))),(1,.int .i64 a),(2,.int .i64 b),(3,.v (.c (.fn f []))),(8,.int .i64 i)],H.set r (.row 8 (es'.map row))⟩) ?_ ?_
 ·refine wk_keep [0,1,2,3,8] ⟨_,a+1,es,by omega,by omega,rfl,rfl,rfl,?_⟩
  simp
 ·rintro k s ⟨i,es',hai,hib,rfl,hle,hins,rfl⟩
  by_cases hlt:i<b
  ·simp (implicitDefEqProofs:=false) (disch:=omega) [gz,hlt,wrap64]
   refine loopX (fun k s=>∃ j,a≤j∧j≤i∧k=j∧insP cmp es' a (nth es' i) i=insP cmp es' a (nth es' i) j ∧
    s=⟨ofL [(0,.v (.c (.os r 8 0 es.length))),(1,.int .i64 a),(2,.int .i64 b),(3,.v (.c (.fn f []))),(8,.int .i64 i),(9,.int .i64 j)],H.set r (.row 8 ((mv es' i j).map row))⟩) ?_ ?_
   ·refine wk_keep [0,1,2,3,8,9] ⟨_,i,by omega,by omega,rfl,rfl,?_⟩
    simp [mv_self es' (show i<es'.length by omega)]
   ·rintro j s ⟨_,haj,hji,rfl,hp,rfl⟩
    by_cases hj:a<j
    ·have hil:i<es'.length:=by omega
     have hml:=mv_len es' hji hil
     have hjl:j<(mv es' i j).length:=by omega
     have hjl':j-1<(mv es' i j).length:=by omega
     have e1:=mv_at es' hji hil
     have e2:=mv_pred es' hji hil (by omega)
     have eN:((j:Int)-1).toNat=j-1:=by omega
     simp (implicitDefEqProofs:=false) (disch:=omega) [gz,hj,wrap64,hr,nth_map,hjl,hjl',e1,e2,eN,(hrow _).len,take_of_len,(hrow _).mapO,(hrow _).tk,(hrow _).nrm,borRow,(hrow _).cl,borV_map,osR_map,frz_map,nth_set_ne,(hrow _).spl (hrow _),hsc,hxg]
     have hcast:((j-1:Nat):Int)=(j:Int)-1:=by omega
     have hsw:(((mv es' i j).map row).set j (row (nth es' (j-1)))).set (j-1) (row (nth es' i))=(mv es' i (j-1)).map row:=by
      rw [← List.map_set,← List.map_set,mv_swap es' hji hil (by omega)]
     refine ⟨by kernel_rfl,by omega,by omega,fun hc=>?_,fun hc=>?_⟩
     ·repeat' apply And.intro
      all_goals first | omega | kernel_rfl | skip
      refine wk_keep [0,1,2,3,8,9] ⟨j-1,by omega,j-1,by omega,by omega,rfl,?_,?_⟩
      ·rw [hp]
       obtain ⟨m,rfl⟩:∃ m,j=m+1:=⟨j-1,by omega⟩
       simp only [insP]
       rw [if_pos ⟨hj,by simpa using hc⟩]; rfl
      ·simp [hcast,hsw]
     ·have hpj:insP cmp es' a (nth es' i) i=j:=by
       rw [hp]
       obtain ⟨m,rfl⟩:∃ m,j=m+1:=⟨j-1,by omega⟩
       simp only [insP]
       rw [if_neg (fun q=>absurd q.2 (by simpa using hc))]
      have e3:b-i=(b-(i+1))+1:=by omega
      refine wk_keep [0,1,2,3,8] ⟨b-(i+1),by omega,i+1,by omega,by omega,rfl,mv es' i j,by omega,?_,?_⟩
      ·rw [← hins,e3]; simp only [insN,hpj]
      ·simp
    ·have hil:i<es'.length:=by omega
     have hml:=mv_len es' hji hil
     simp (implicitDefEqProofs:=false) (disch:=omega) [gz,hj,wrap64]
     have hpj:insP cmp es' a (nth es' i) i=j:=by
      rw [hp]
      cases j with
      | zero=>rfl
      | succ m=>simp only [insP]; rw [if_neg (fun q=>hj q.1)]
     have e3:b-i=(b-(i+1))+1:=by omega
     refine ⟨by kernel_rfl,?_⟩
     refine wk_keep [0,1,2,3,8] ⟨b-(i+1),by omega,i+1,by omega,by omega,rfl,mv es' i j,by omega,?_,?_⟩
     ·rw [← hins,e3]; simp only [insN,hpj]
     ·simp
  ·simp (implicitDefEqProofs:=false) (disch:=omega) [gz,hlt,wrap64]
   have e:b-i=0:=by omega
   rw [e] at hins
   simp only [insN] at hins
   exact fin_here (by simp) ⟨rfl,by rw [hins]⟩
end
section
variable {E:Type} [Inhabited E]
theorem k103 (row:E→List D) (hrow:∀ e,RowOk 8 (row e)) (es:List E) (a b n:Nat) (hab:a+n≤b) (hb:b+n≤es.length) (hl:es.length<4611686018427387904) (f:Nat)
  (H:List O) (r:Nat) (hr:r<H.length) :
  ACalls Tryz.prog G0 171 [.c (.os r 8 0 es.length),I a,I b,I n,.c (.fn f [])] (H.set r (.row 8 (es.map row))) fun t H'=>t = .tup []∧H'=H.set r (.row 8 ((swp es a b n).map row)):=by
 refine acallsX (X:=[]) trivial tab hmix Tryz.func171 c103 (by rfl) fun hw=>?_
 simp (implicitDefEqProofs:=false) (disch:=omega) [gz,ir103,b103,wrap64]
 refine loopX (fun k s=>∃ i,i≤n∧k=n-i ∧
  s=⟨ofL [(0,.v (.c (.os r 8 0 es.length))),(1,.int .i64 a),(2,.int .i64 b),(3,.int .i64 n),(10,.int .i64 i)],H.set r (.row 8 ((swp es a b i).map row))⟩) ?_ ?_
 ·refine wk_keep [0,1,2,3,10] ⟨_,0,by omega,rfl,?_⟩
  simp [swp]
 ·rintro k s ⟨i,hi,rfl,rfl⟩
  have hsl:=swp_len es a b i
  by_cases hlt:i<n
  ·have n1:((a:Int)+i).toNat=a+i:=by omega
   have n2:((b:Int)+i).toNat=b+i:=by omega
   simp (implicitDefEqProofs:=false) (disch:=omega) [gz,hlt,wrap64,hr,nth_map,hsl,n1,n2,(hrow _).len,take_of_len,(hrow _).mapO,(hrow _).tk,(hrow _).nrm,borRow,(hrow _).cl,borV_map,osR_map,frz_map,nth_set_ne,(hrow _).spl (hrow _)]
   repeat' apply And.intro
   all_goals first | omega | kernel_rfl | skip
   refine wk_keep [0,1,2,3,10] ⟨n-(i+1),by omega,i+1,by omega,rfl,?_⟩
   simp [swp,swap2,List.map_set]
  ·have:i=n:=by omega
   subst this
   simp (implicitDefEqProofs:=false) (disch:=omega) [gz,hlt,wrap64]
   exact fin_here (by simp) ⟨rfl,rfl⟩
end
section
variable {E:Type} [Inhabited E]
theorem k95 (row:E→List D) (hrow:∀ e,RowOk 8 (row e)) (es:List E) (a m b:Nat) (ham:a<m) (hmb:m<b) (hb:b≤es.length) (hl:es.length<4611686018427387904) (f:Nat)
  (H:List O) (r:Nat) (hr:r<H.length) :
  ACalls Tryz.prog G0 166 [.c (.os r 8 0 es.length),I a,I m,I b,.c (.fn f [])] (H.set r (.row 8 (es.map row))) fun t H'=>t = .tup []∧H'=H.set r (.row 8 ((rotN m (b-a) (m-a) (b-m) es).map row)):=by
 refine acallsX (X:=[]) trivial tab hmix Tryz.func166 c95 (by rfl) fun hw=>?_
 simp (implicitDefEqProofs:=false) (disch:=omega) [gz,ir95,b95,wrap64]
 refine loopG (fun k s=>∃ i j es',0<i∧0<j∧i≤m-a∧j≤b-m∧k=i+j∧es'.length=es.length∧rotN m (b-a) i j es'=rotN m (b-a) (m-a) (b-m) es ∧
  s=⟨ofL [(0,.v (.c (.os r 8 0 es.length))),(2,.int .i64 m),(4,.v (.c (.fn f []))),(10,.int .i64 i),(11,.int .i64 j)],H.set r (.row 8 (es'.map row))⟩) ?_ ?_
 ·have c1:((m-a:Nat):Int)=m-a:=by omega
  have c2:((b-m:Nat):Int)=b-m:=by omega
  refine wk_keep [0,2,4,10,11] ⟨_,m-a,b-m,es,by omega,by omega,by omega,by omega,rfl,rfl,rfl,?_⟩
  simp [c1,c2]
 ·rintro J hJ k s ⟨i,j,es',hi,hj,hia,hjb,rfl,hle,hrot,rfl⟩
  obtain ⟨n0,hn0⟩:∃ n0,b-a=n0+1:=⟨b-a-1,by omega⟩
  have ci:((m-i:Nat):Int)=m-i:=by omega
  by_cases he:i=j
  ·subst he
   simp (implicitDefEqProofs:=false) (disch:=omega) [gz,wrap64]
   have hc:=k103 row hrow es' (m-i) m i (by omega) (by omega) (by omega) f H r hr
   rw [hle,ci] at hc
   refine hc.mono ?_
   rintro t H' ⟨rfl,rfl⟩
   simp only [callK]
   refine fin_here (by simp) ⟨rfl,?_⟩
   rw [← hrot,hn0]; simp only [rotN,if_true]
  ·have hec:¬ (i:Int)=j:=by omega
   by_cases hlt:j<i
   ·simp (implicitDefEqProofs:=false) (disch:=omega) [gz,hec,hlt,wrap64]
    have hc:=k103 row hrow es' (m-i) m j (by omega) (by omega) (by omega) f H r hr
    rw [hle,ci] at hc
    refine hc.mono ?_
    rintro t H' ⟨rfl,rfl⟩
    simp (implicitDefEqProofs:=false) (disch:=omega) [callK,List.getElem?_cons_zero,wrap64]
    have cij:((i-j:Nat):Int)=i-j:=by omega
    subst hJ
    refine wk_keep [0,2,4,10,11] ⟨i-j+j,by omega,i-j,j,swp es' (m-i) m j,by omega,by omega,by omega,by omega,rfl,by rw [swp_len]; exact hle,?_,?_⟩
    ·have e:rotN m (b-a) i j es'=rotN m n0 (i-j) j (swp es' (m-i) m j):=by rw [hn0]; simp only [rotN,if_neg he,if_pos hlt]
     rw [← hrot,e]
     exact rotN_more m (b-a) n0 (i-j) j _ (by omega) hj (by omega) (by omega)
    ·simp [cij]
   ·simp (implicitDefEqProofs:=false) (disch:=omega) [gz,hec,hlt,wrap64]
    have cm:((m+j-i:Nat):Int)=m+j-i:=by omega
    have hc:=k103 row hrow es' (m-i) (m+j-i) i (by omega) (by omega) (by omega) f H r hr
    rw [hle,ci,cm] at hc
    refine hc.mono ?_
    rintro t H' ⟨rfl,rfl⟩
    have cij:((j-i:Nat):Int)=j-i:=by omega
    simp (implicitDefEqProofs:=false) (disch:=omega) [callK,List.getElem?_cons_zero,wrap64]
    subst hJ
    refine wk_keep [0,2,4,10,11] ⟨i+(j-i),by omega,i,j-i,swp es' (m-i) (m+j-i) i,by omega,by omega,by omega,by omega,rfl,by rw [swp_len]; exact hle,?_,?_⟩
    ·have e:rotN m (b-a) i j es'=rotN m n0 i (j-i) (swp es' (m-i) (m+j-i) i):=by rw [hn0]; simp only [rotN,if_neg he,if_neg hlt]
     rw [← hrot,e]
     exact rotN_more m (b-a) n0 i (j-i) _ hi (by omega) (by omega) (by omega)
    ·simp [cij]
end
end Go.Aw.Try
namespace Go.Aw
theorem wrapU64 {n:Int} (h1:0≤n) (h2:n≤18446744073709551615):IntKind.u64.wrap n=n:=by
 simp [IntKind.wrap,IntKind.bits,IntKind.signed]; omega
theorem half (i j:Nat):Int.fdiv ((i:Int)+j) (2^min 1 IntKind.u64.bits)=(((i+j) / 2:Nat):Int):=by
 show Int.fdiv ((i:Int)+j) 2=_
 rw [Int.fdiv_eq_ediv_of_nonneg _ (by omega)]; omega
theorem seq_assoc {P:Program} {G:Gl} {X:XT} {N0:Nat} {a b c:AC} {st:St} {Q:Qt}:wcodeX P G X N0 (.seq a (.seq b c)) st Q=wcodeX P G X N0 (.seq (.seq a b) c) st Q:=by
 show wcodeX P G X N0 a st (thenQ (wcodeX P G X N0 (.seq b c)) Q)=wcodeX P G X N0 a st (thenQ (wcodeX P G X N0 b) (thenQ (wcodeX P G X N0 c) Q))
 congr 1
 funext e s
 cases e <;> rfl
section
variable {E:Type}
theorem swap_adj {P A T:List E} {x y:E} {q:Nat} (hq:q=P.length+A.length):((P ++ (A ++ (x :: (y :: T)))).set q y).set (q+1) x=P ++ ((A ++ [y]) ++ (x :: T)):=by
 subst hq
 rw [← List.append_assoc P A,← List.length_append,List.set_append_right _ _ (by omega),Nat.sub_self,List.set_cons_zero,List.set_append_right _ _ (by omega),Nat.add_sub_cancel_left]
 simp
theorem swap_adj2 {P U A T:List E} {z y:E} {q:Nat} (hq:q=P.length+U.length+A.length+1):((P ++ (U ++ ((A ++ [z]) ++ (y :: T)))).set q z).set (q-1) y=P ++ (U ++ (A ++ (y :: (z :: T)))):=by
 subst hq
 have e:P ++ (U ++ ((A ++ [z]) ++ (y :: T)))=(P ++ U ++ A) ++ (z :: y :: T):=by simp
 have l:P.length+U.length+A.length=(P ++ U ++ A).length:=by simp; omega
 rw [e,l,Nat.add_sub_cancel,List.set_append_right _ _ (by omega),Nat.add_sub_cancel_left,List.set_cons_succ,List.set_cons_zero,List.set_append_right _ _ (by omega),Nat.sub_self]
 simp
theorem split_at (l:List E) {n:Nat} (h:n≤l.length):∃ x y,l=x ++ y∧x.length=n:=⟨l.take n,l.drop n,(List.take_append_drop n l).symm,by simp; omega⟩
end
structure Mg {E:Type} [Inhabited E] (cmp:E→E→Int) (P u v S es:List E) (a m b:Nat):Prop where
 hes:es=P ++ (u ++ (v ++ S))
 ha:a=P.length
 hm:m=P.length+u.length
 hb:b=P.length+u.length+v.length
 hul:0<u.length
 hvl:0<v.length
 hus:Srt cmp u
 hvs:Srt cmp v
 heL:es.length=b+S.length
 nu:∀ c,a≤c→c<m→nth es c=nth u (c-a)
 nv:∀ c,m≤c→c<b→nth es c=nth v (c-m)
 mu:∀ c c',a≤c→c≤c'→c'<m→cmp (nth es c) (nth es c')≤0
 mv:∀ c c',m≤c→c≤c'→c'<b→cmp (nth es c) (nth es c')≤0
theorem Mg.mk' {E:Type} [Inhabited E] {cmp:E→E→Int} (hp:Pre cmp) {P u v S:List E} (hu0:u≠[]) (hv0:v≠[]) (hus:Srt cmp u) (hvs:Srt cmp v) :
  Mg cmp P u v S (P ++ (u ++ (v ++ S))) P.length (P.length+u.length) (P.length+u.length+v.length):=by
 obtain ⟨es,hes⟩:∃ es,es=P ++ (u ++ (v ++ S)):=⟨_,rfl⟩
 obtain ⟨a,ha⟩:∃ a,a=P.length:=⟨_,rfl⟩
 obtain ⟨m,hm⟩:∃ m,m=P.length+u.length:=⟨_,rfl⟩
 obtain ⟨b,hb⟩:∃ b,b=P.length+u.length+v.length:=⟨_,rfl⟩
 have hul:0<u.length:=List.length_pos_iff.2 hu0
 have hvl:0<v.length:=List.length_pos_iff.2 hv0
 have heL:es.length=b+S.length:=by rw [hes,hb]; simp; omega
 have nu:∀ c,a≤c→c<m→nth es c=nth u (c-a):=fun c h1 h2=>by
  rw [hes,nth_app_r (by omega),nth_app_l (by omega),ha]
 have nv:∀ c,m≤c→c<b→nth es c=nth v (c-m):=fun c h1 h2=>by
  rw [hes,nth_app_r (by omega),nth_app_r (by omega),nth_app_l (by omega)]; congr 1; omega
 have mu:∀ c c',a≤c→c≤c'→c'<m→cmp (nth es c) (nth es c')≤0:=fun c c' h1 h2 h3=>by
  rw [nu c h1 (by omega),nu c' (by omega) h3]; exact hus.nth_le hp (by omega) (by omega)
 have mv:∀ c c',m≤c→c≤c'→c'<b→cmp (nth es c) (nth es c')≤0:=fun c c' h1 h2 h3=>by
  rw [nv c h1 (by omega),nv c' (by omega) h3]; exact hvs.nth_le hp (by omega) (by omega)
 rw [← hes,← hb,← hm,← ha]
 exact ⟨hes,ha,hm,hb,hul,hvl,hus,hvs,heL,nu,nv,mu,mv⟩
end Go.Aw
namespace Go.Aw.Try
open Go Go.Proofs Go.Aw
set_option maxRecDepth 100000
set_option maxHeartbeats 4000000
section
variable {E:Type} [Inhabited E]
theorem k78_p0 (row:E→List D) (hrow:∀ e,RowOk 8 (row e)) (cmp:E→E→Int) (hp:Pre cmp) (f:Nat) (xf:XE) (hsc:xf.sc=true) (hf1:f≠166) (hf2:f≠154)
  (hxg:∀ a b,xf.g [.agg (row a),.agg (row b)]=some (True,.int .i64 (cmp a b))) (H:List O) (r:Nat) (hr:r<H.length) {P u v S es:List E} {a m b:Nat} (M:Mg cmp P u v S es a m b) (hlen:es.length<4611686018427387904) (hw:Wf (H.set r (.row 8 (es.map row)))) :
  wcodeX Tryz.prog G0 [(f,xf)] (H.set r (.row 8 (es.map row))).length b78_0 ⟨argSl [.c (.os r 8 0 es.length),I a,I m,I b,.c (.fn f [])],(H.set r (.row 8 (es.map row)))⟩ (cutQ (fun s=>m≠a+1∧AtS [(0,.v (.c (.os r 8 0 es.length))),(1,.int .i64 a),(2,.int .i64 m),(3,.int .i64 b),(4,.v (.c (.fn f [])))] (H.set r (.row 8 (es.map row))) s) (retQ Tryz.prog (H.set r (.row 8 (es.map row))).length ir78.res (fun t H'=>t = .tup []∧∃ w,Merged cmp (u ++ v) w∧H'=H.set r (.row 8 ((P ++ (w ++ S)).map row))))):=by
 obtain ⟨hes,ha,hm,hb,hul,hvl,hus,hvs,heL,nu,nv,mu,mv⟩:=M
 obtain ⟨n,hn⟩:∃ n,u.length+v.length=n:=⟨_,rfl⟩
 generalize hJJ:(fun s=>m≠a+1∧AtS [(0,.v (.c (.os r 8 0 es.length))),(1,.int .i64 a),(2,.int .i64 m),(3,.int .i64 b),(4,.v (.c (.fn f [])))] (H.set r (.row 8 (es.map row))) s)=JJ
 by_cases h1:m=a+1
 ·have h1':(m:Int)-a=1:=by omega
  simp (implicitDefEqProofs:=false) (disch:=omega) [gz,b78_0,wrap64,h1']
  refine loopE (fun k s=>∃ i j,m≤i∧i≤j∧j≤b∧k=j-i∧(∀ c,m≤c→c<i→cmp (nth es c) (nth es a)<0)∧(∀ c,j≤c→c<b→¬ cmp (nth es c) (nth es a)<0) ∧
   s=⟨ofL [(0,.v (.c (.os r 8 0 es.length))),(1,.int .i64 a),(4,.v (.c (.fn f []))),(10,.int .i64 i),(11,.int .i64 j)],H.set r (.row 8 (es.map row))⟩)
   (fun s=>∃ i:Nat,m≤i∧i≤b∧(∀ c,m≤c→c<i→cmp (nth es c) (nth es a)<0)∧(∀ c,i≤c→c<b→¬ cmp (nth es c) (nth es a)<0)∧AtS [(0,.v (.c (.os r 8 0 es.length))),(1,.int .i64 a),(10,.int .i64 i)] (H.set r (.row 8 (es.map row))) s) ?_ ?_ ?_
  ·refine wk_keep [0,1,4,10,11] ⟨_,m,b,Nat.le_refl _,by omega,Nat.le_refl _,rfl,fun c h1 h2=>by omega,fun c h1 h2=>by omega,?_⟩
   simp
  ·rintro J L hJ hL k s ⟨i,j,hmi,hij,hjb,rfl,hlo,hhi,rfl⟩
   by_cases hlt:i<j
   ·have n1:(((i+j) / 2:Nat):Int).toNat=(i+j) / 2:=by omega
    have c1:(((i+j) / 2:Nat):Int)+1=(((i+j) / 2+1:Nat):Int):=by omega
    obtain ⟨c,hc⟩:∃ c,c=(i+j) / 2:=⟨_,rfl⟩
    simp (implicitDefEqProofs:=false) (disch:=omega) [gz,hlt,wrap64,wrapU64,half,← hc,hr,nth_map,(hrow _).len,take_of_len,(hrow _).mapO,(hrow _).tk,(hrow _).nrm,borRow,(hrow _).cl,borV_map,osR_map,frz_map,nth_set_ne,(hrow _).spl (hrow _),hsc,hxg]
    repeat' apply And.intro
    all_goals first | omega | kernel_rfl | skip
    ·intro h
     subst hJ
     refine wk_keep [0,1,4,10,11] ⟨j-(c+1),by omega,c+1,j,by omega,by omega,by omega,rfl,fun c' q1 q2=>hp.le_lt (mv c' c q1 (by omega) (by omega)) h,hhi,?_⟩
     simp
    ·intro h
     subst hJ
     refine wk_keep [0,1,4,10,11] ⟨c-i,by omega,i,c,by omega,by omega,by omega,rfl,hlo,fun c' q1 q2 q=>?_,?_⟩
     ·have:=hp.le_lt (mv c c' (by omega) q1 (by omega)) q
      omega
     ·simp
   ·simp (implicitDefEqProofs:=false) (disch:=omega) [gz,hlt]
    subst hL
    have:i=j:=by omega
    subst this
    exact ⟨i,hmi,hjb,hlo,hhi,at_mk (by simp) rfl⟩
  ·rintro _ ⟨i,hmi,hib,hlo,hhi,sl,rfl⟩
   simp (implicitDefEqProofs:=false) (disch:=omega) [gz,wrap64]
   obtain ⟨x,rfl⟩:∃ x,u=[x]:=List.length_eq_one_iff.1 (by omega)
   obtain ⟨V1,V2,rfl,hV⟩:=split_at v (n:=i-m) (by omega)
   have hx0:nth es a=x:=by rw [nu a (by omega) (by omega),Nat.sub_self]; rfl
   simp only [List.length_append,List.length_singleton] at hm hb hn hvl
   have hV1:∀ y∈V1,cmp y x<0:=fun y hy=>by
    obtain ⟨k,hk,e⟩:=mem_nth hy
    have:=hlo (m+k) (by omega) (by omega)
    rw [hx0,nv _ (by omega) (by omega),Nat.add_sub_cancel_left,nth_app_l hk,e] at this; exact this
   have hV2:∀ y∈V2,cmp x y≤0:=fun y hy=>by
    obtain ⟨k,hk,e⟩:=mem_nth hy
    have:=hhi (i+k) (by omega) (by omega)
    rw [hx0,nv _ (by omega) (by omega),nth_app_r (by omega),show i+k-m-V1.length=k by omega,e] at this; exact hp.le_of_not this
   refine loopG (fun k s=>∃ A B q,V1=A ++ B∧k=B.length∧q=a+A.length∧s=⟨ofL [(0,.v (.c (.os r 8 0 es.length))),(10,.int .i64 i),(13,.int .i64 q)],H.set r (.row 8 ((P ++ (A ++ (x :: (B ++ (V2 ++ S))))).map row))⟩) ?_ ?_
   ·refine wk_keep [0,10,13] ⟨_,[],V1,a,rfl,rfl,rfl,?_⟩
    simp [hes]
   ·rintro J hJ k s ⟨A,B,q,rfl,rfl,hq,rfl⟩
    simp only [List.length_append] at hV hb hn
    cases B with
    | nil =>
     have hlt:¬ (q:Int)<(i:Int)-1:=by simp at hV; omega
     simp (implicitDefEqProofs:=false) (disch:=omega) [gz,hlt,wrap64]
     refine fin_here (by simp) ⟨rfl,(A ++ []) ++ ([x] ++ V2),?_,by simp⟩
     have:=merge_split hp (u1:=[]) (u2:=[x]) (v1:=A ++ []) (v2:=V2) (w1:=A ++ []) (w2:=[x] ++ V2) hus hvs (fun y hy z hz=>by simp at hz; subst hz; exact hV1 y hy) (by simp)
      ⟨hvs.left,Flt.refl _,rfl⟩ ⟨(by simpa using hus:Srt cmp [x]).app hvs.right fun y hy z hz=>by simp at hy; subst hy; exact hV2 z hz,Flt.refl _,rfl⟩
     simpa using this
    | cons y B =>
     simp only [List.length_cons] at hV hb hn
     have hlt:(q:Int)<(i:Int)-1:=by omega
     obtain ⟨es',he'⟩:∃ es',es'=P ++ (A ++ (x :: (y :: (B ++ (V2 ++ S))))):=⟨_,rfl⟩
     have hl':es'.length=es.length:=by rw [he',hes]; simp; omega
     have e1:nth es' q=x:=by rw [he',nth_app_r (by omega),nth_app_r (by omega),show q-P.length-A.length=0 by omega]; rfl
     have e2:nth es' (q+1)=y:=by rw [he',nth_app_r (by omega),nth_app_r (by omega),show q+1-P.length-A.length=1 by omega]; rfl
     have n1:((q:Int)+1).toNat=q+1:=by omega
     have hd:P ++ (A ++ (x :: (y :: B ++ (V2 ++ S))))=es':=by rw [he']; simp
     rw [hd]
     have hsw:(((es'.map row).set q (row y)).set (q+1) (row x))=((P ++ ((A ++ [y]) ++ (x :: (B ++ (V2 ++ S))))).map row):=by
      rw [← List.map_set,← List.map_set,he',swap_adj (by omega)]
     simp (implicitDefEqProofs:=false) (disch:=omega) [gz,hlt,wrap64,n1,e1,e2,hl',hr,nth_map,(hrow _).len,take_of_len,(hrow _).mapO,(hrow _).tk,(hrow _).nrm,borRow,(hrow _).cl,borV_map,osR_map,frz_map,nth_set_ne,(hrow _).spl (hrow _),hsc,hxg]
     repeat' apply And.intro
     all_goals first | omega | kernel_rfl | skip
     subst hJ
     refine wk_keep [0,10,13] ⟨B.length,by simp,A ++ [y],B,q+1,by simp,rfl,by simp; omega,?_⟩
     rw [hsw]
     simp
 ·have h1':¬ (m:Int)-a=1:=by omega
  simp (implicitDefEqProofs:=false) (disch:=omega) [gz,b78_0,wrap64,h1']
  subst JJ
  exact ⟨h1,at_mk (by simp) rfl⟩
end
section
variable {E:Type} [Inhabited E]
theorem k78_p1 (row:E→List D) (hrow:∀ e,RowOk 8 (row e)) (cmp:E→E→Int) (hp:Pre cmp) (f:Nat) (xf:XE) (hsc:xf.sc=true) (hf1:f≠166) (hf2:f≠154)
  (hxg:∀ a b,xf.g [.agg (row a),.agg (row b)]=some (True,.int .i64 (cmp a b))) (H:List O) (r:Nat) (hr:r<H.length) {P u v S es:List E} {a m b:Nat} (M:Mg cmp P u v S es a m b) (hlen:es.length<4611686018427387904) (hma:m≠a+1) (sl:Nat→T) :
  wcodeX Tryz.prog G0 [(f,xf)] (H.set r (.row 8 (es.map row))).length b78_1 ⟨ofLr [(0,.v (.c (.os r 8 0 es.length))),(1,.int .i64 a),(2,.int .i64 m),(3,.int .i64 b),(4,.v (.c (.fn f [])))] sl,(H.set r (.row 8 (es.map row)))⟩ (cutQ (fun s=>b≠m+1∧AtS [(0,.v (.c (.os r 8 0 es.length))),(1,.int .i64 a),(2,.int .i64 m),(3,.int .i64 b),(4,.v (.c (.fn f [])))] (H.set r (.row 8 (es.map row))) s) (retQ Tryz.prog (H.set r (.row 8 (es.map row))).length ir78.res (fun t H'=>t = .tup []∧∃ w,Merged cmp (u ++ v) w∧H'=H.set r (.row 8 ((P ++ (w ++ S)).map row))))):=by
 obtain ⟨hes,ha,hm,hb,hul,hvl,hus,hvs,heL,nu,nv,mu,mv⟩:=M
 obtain ⟨n,hn⟩:∃ n,u.length+v.length=n:=⟨_,rfl⟩
 generalize hJJ:(fun s=>b≠m+1∧AtS [(0,.v (.c (.os r 8 0 es.length))),(1,.int .i64 a),(2,.int .i64 m),(3,.int .i64 b),(4,.v (.c (.fn f [])))] (H.set r (.row 8 (es.map row))) s)=JJ
 by_cases h1:b=m+1
 ·have h1':(b:Int)-m=1:=by omega
  simp (implicitDefEqProofs:=false) (disch:=omega) [gz,b78_1,wrap64,h1']
  refine loopE (fun k s=>∃ i j,a≤i∧i≤j∧j≤m∧k=j-i∧(∀ c,a≤c→c<i→¬ cmp (nth es m) (nth es c)<0)∧(∀ c,j≤c→c<m→cmp (nth es m) (nth es c)<0) ∧
   s=⟨ofL [(0,.v (.c (.os r 8 0 es.length))),(2,.int .i64 m),(4,.v (.c (.fn f []))),(14,.int .i64 i),(15,.int .i64 j)],H.set r (.row 8 (es.map row))⟩)
   (fun s=>∃ i:Nat,a≤i∧i≤m∧(∀ c,a≤c→c<i→¬ cmp (nth es m) (nth es c)<0)∧(∀ c,i≤c→c<m→cmp (nth es m) (nth es c)<0)∧AtS [(0,.v (.c (.os r 8 0 es.length))),(2,.int .i64 m),(14,.int .i64 i)] (H.set r (.row 8 (es.map row))) s) ?_ ?_ ?_
  ·refine wk_keep [0,2,4,14,15] ⟨_,a,m,Nat.le_refl _,by omega,Nat.le_refl _,rfl,fun c h1 h2=>by omega,fun c h1 h2=>by omega,?_⟩
   simp
  ·rintro J L hJ hL k s ⟨i,j,hmi,hij,hjb,rfl,hlo,hhi,rfl⟩
   by_cases hlt:i<j
   ·obtain ⟨c,hc⟩:∃ c,c=(i+j) / 2:=⟨_,rfl⟩
    simp (implicitDefEqProofs:=false) (disch:=omega) [gz,hlt,wrap64,wrapU64,half,← hc,hr,nth_map,(hrow _).len,take_of_len,(hrow _).mapO,(hrow _).tk,(hrow _).nrm,borRow,(hrow _).cl,borV_map,osR_map,frz_map,nth_set_ne,(hrow _).spl (hrow _),hsc,hxg]
    repeat' apply And.intro
    all_goals first | omega | kernel_rfl | skip
    ·intro h
     subst hJ
     refine wk_keep [0,2,4,14,15] ⟨j-(c+1),by omega,c+1,j,by omega,by omega,by omega,rfl,fun c' q1 q2 q=>?_,hhi,?_⟩
     ·have:=hp.lt_le q (mu c' c q1 (by omega) (by omega)); omega
     ·simp
    ·intro h
     subst hJ
     refine wk_keep [0,2,4,14,15] ⟨c-i,by omega,i,c,by omega,by omega,by omega,rfl,hlo,fun c' q1 q2=>hp.lt_le h (mu c c' (by omega) q1 (by omega)),?_⟩
     simp
   ·simp (implicitDefEqProofs:=false) (disch:=omega) [gz,hlt]
    subst hL
    have:i=j:=by omega
    subst this
    exact ⟨i,hmi,hjb,hlo,hhi,at_mk (by simp) rfl⟩
  ·rintro _ ⟨i,hmi,hib,hlo,hhi,sl,rfl⟩
   simp (implicitDefEqProofs:=false) (disch:=omega) [gz,wrap64]
   obtain ⟨y,rfl⟩:∃ y,v=[y]:=List.length_eq_one_iff.1 (by omega)
   obtain ⟨U1,U2,rfl,hU⟩:=split_at u (n:=i-a) (by omega)
   have hy0:nth es m=y:=by rw [nv m (by omega) (by omega),Nat.sub_self]; rfl
   simp only [List.length_append,List.length_singleton] at hm hb hn hul
   have hU1:∀ x∈U1,cmp x y≤0:=fun x hx=>by
    obtain ⟨k,hk,e⟩:=mem_nth hx
    have:=hlo (a+k) (by omega) (by omega)
    rw [hy0,nu _ (by omega) (by omega),Nat.add_sub_cancel_left,nth_app_l hk,e] at this; exact hp.le_of_not this
   have hU2:∀ x∈U2,cmp y x<0:=fun x hx=>by
    obtain ⟨k,hk,e⟩:=mem_nth hx
    have:=hhi (i+k) (by omega) (by omega)
    rw [hy0,nu _ (by omega) (by omega),nth_app_r (by omega),show i+k-a-U1.length=k by omega,e] at this; exact this
   refine loopG (fun k s=>∃ A B q,U2=A ++ B∧k=A.length∧q=i+A.length∧s=⟨ofL [(0,.v (.c (.os r 8 0 es.length))),(14,.int .i64 i),(17,.int .i64 q)],H.set r (.row 8 ((P ++ (U1 ++ (A ++ (y :: (B ++ S))))).map row))⟩) ?_ ?_
   ·refine wk_keep [0,14,17] ⟨_,U2,[],m,by simp,rfl,by omega,?_⟩
    simp [hes]
   ·rintro J hJ k s ⟨A,B,q,rfl,rfl,hq,rfl⟩
    rcases List.eq_nil_or_concat A with rfl | ⟨A,z,rfl⟩
    ·have hlt:¬ i<q:=by simp at hq; omega
     simp (implicitDefEqProofs:=false) (disch:=omega) [gz,hlt,wrap64]
     refine fin_here (by simp) ⟨rfl,(U1 ++ [y]) ++ B,?_,by simp⟩
     have:=merge_split hp (u1:=U1) (u2:=[] ++ B) (v1:=[y]) (v2:=[]) (w1:=U1 ++ [y]) (w2:=B) hus (by simpa using hvs) (fun x hx z hz=>by simp at hx; subst hx; exact hU2 z hz) (by simp)
      ⟨hus.left.app hvs fun x hx z hz=>by simp at hz; subst hz; exact hU1 x hx,Flt.refl _,rfl⟩ ⟨by have:=hus.right; simpa using this,by simpa using Flt.refl _,by simp⟩
     simpa using this
    ·simp only [List.concat_eq_append,List.length_append,List.length_singleton] at *
     have hlt:i<q:=by omega
     obtain ⟨es',he'⟩:∃ es',es'=P ++ (U1 ++ ((A ++ [z]) ++ (y :: (B ++ S)))):=⟨_,rfl⟩
     have hl':es'.length=es.length:=by rw [he',hes]; simp; omega
     have e1:nth es' q=y:=by rw [he',nth_app_r (by omega),nth_app_r (by omega),nth_app_r (by simp; omega),show q-P.length-U1.length-(A ++ [z]).length=0 by simp; omega]; rfl
     have e2:nth es' (q-1)=z:=by rw [he',nth_app_r (by omega),nth_app_r (by omega),nth_app_l (by simp; omega),nth_app_r (by omega),show q-1-P.length-U1.length-A.length=0 by omega]; rfl
     have n1:((q:Int)-1).toNat=q-1:=by omega
     have c1:((q-1:Nat):Int)=(q:Int)-1:=by omega
     rw [← he']
     have hsw:(((es'.map row).set q (row z)).set (q-1) (row y))=((P ++ (U1 ++ (A ++ (y :: (z :: (B ++ S)))))).map row):=by
      rw [← List.map_set,← List.map_set,he',swap_adj2 (by omega)]
     simp (implicitDefEqProofs:=false) (disch:=omega) [gz,hlt,wrap64,n1,e1,e2,hl',hr,nth_map,(hrow _).len,take_of_len,(hrow _).mapO,(hrow _).tk,(hrow _).nrm,borRow,(hrow _).cl,borV_map,osR_map,frz_map,nth_set_ne,(hrow _).spl (hrow _),hsc,hxg]
     repeat' apply And.intro
     all_goals first | omega | kernel_rfl | skip
     subst hJ
     refine wk_keep [0,14,17] ⟨A.length,by simp,A,z :: B,q-1,by simp,rfl,by omega,?_⟩
     rw [hsw,c1]
     simp
 ·have h1':¬ (b:Int)-m=1:=by omega
  simp (implicitDefEqProofs:=false) (disch:=omega) [gz,b78_1,wrap64,h1']
  subst JJ
  exact ⟨h1,at_mk (by simp) rfl⟩
end
section
variable {E:Type} [Inhabited E]
theorem k78_p2 (row:E→List D) (hrow:∀ e,RowOk 8 (row e)) (cmp:E→E→Int) (hp:Pre cmp) (f:Nat) (xf:XE) (hsc:xf.sc=true) (hf1:f≠166) (hf2:f≠154)
  (hxg:∀ a b,xf.g [.agg (row a),.agg (row b)]=some (True,.int .i64 (cmp a b))) (H:List O) (r:Nat) (hr:r<H.length) {P u v S es:List E} {a m b:Nat} (M:Mg cmp P u v S es a m b) (hlen:es.length<4611686018427387904) (R:T→List O→Prop) (sl:Nat→T) (mid:Nat) (hmid:mid=(a+b) / 2) :
  wcodeX Tryz.prog G0 [(f,xf)] (H.set r (.row 8 (es.map row))).length (.seq (.seq (.seq b78_2 b78_3) b78_4) b78_5) ⟨ofLr [(0,.v (.c (.os r 8 0 es.length))),(1,.int .i64 a),(2,.int .i64 m),(3,.int .i64 b),(4,.v (.c (.fn f [])))] sl,(H.set r (.row 8 (es.map row)))⟩ (cutQ (fun s=>∃ lo hi:Nat,(mid<m→lo+b=mid+m∧hi=mid)∧(¬ mid<m→lo=a∧hi=m)∧AtS [(0,.v (.c (.os r 8 0 es.length))),(1,.int .i64 a),(2,.int .i64 m),(3,.int .i64 b),(4,.v (.c (.fn f []))),(18,.int .i64 mid),(19,.int .i64 (mid+m:Nat)),(20,.int .i64 lo),(21,.int .i64 hi)] (H.set r (.row 8 (es.map row))) s) (retQ Tryz.prog (H.set r (.row 8 (es.map row))).length ir78.res R)):=by
 obtain ⟨hes,ha,hm,hb,hul,hvl,hus,hvs,heL,nu,nv,mu,mv⟩:=M
 generalize hJJ:(fun s=>∃ lo hi:Nat,(mid<m→lo+b=mid+m∧hi=mid)∧(¬ mid<m→lo=a∧hi=m)∧AtS [(0,.v (.c (.os r 8 0 es.length))),(1,.int .i64 a),(2,.int .i64 m),(3,.int .i64 b),(4,.v (.c (.fn f []))),(18,.int .i64 mid),(19,.int .i64 (mid+m:Nat)),(20,.int .i64 lo),(21,.int .i64 hi)] (H.set r (.row 8 (es.map row))) s)=JJ
 by_cases hc:mid<m
 ·simp (implicitDefEqProofs:=false) (disch:=omega) [gz,b78_2,b78_3,b78_4,b78_5,wrap64,wrapU64,half,← hmid,hc]
  subst JJ
  exact ⟨mid+m-b,mid,fun _=>⟨by omega,rfl⟩,fun h=>absurd hc h,at_mk (by simp; omega) rfl⟩
 ·simp (implicitDefEqProofs:=false) (disch:=omega) [gz,b78_2,b78_3,b78_4,b78_5,wrap64,wrapU64,half,← hmid,hc]
  subst JJ
  exact ⟨a,m,fun h=>absurd h hc,fun _=>⟨rfl,rfl⟩,at_mk (by simp) rfl⟩
theorem k78_p3 (row:E→List D) (hrow:∀ e,RowOk 8 (row e)) (cmp:E→E→Int) (hp:Pre cmp) (f:Nat) (xf:XE) (hsc:xf.sc=true) (hf1:f≠166) (hf2:f≠154)
  (hxg:∀ a b,xf.g [.agg (row a),.agg (row b)]=some (True,.int .i64 (cmp a b))) (H:List O) (r:Nat) (hr:r<H.length) {P u v S es:List E} {a m b:Nat} (M:Mg cmp P u v S es a m b) (hlen:es.length<4611686018427387904) (R:T→List O→Prop) (sl:Nat→T) (mid N lo hi:Nat) (hmid:mid=(a+b) / 2) (hN:N=mid+m) (k1:a≤lo) (k2:lo≤hi) (k3:hi≤m) (k4:hi≤mid) (k5:N≤lo+b) :
  wcodeX Tryz.prog G0 [(f,xf)] (H.set r (.row 8 (es.map row))).length (.seq b78_6 b78_7) ⟨ofLr [(0,.v (.c (.os r 8 0 es.length))),(1,.int .i64 a),(2,.int .i64 m),(3,.int .i64 b),(4,.v (.c (.fn f []))),(18,.int .i64 mid),(19,.int .i64 N),(20,.int .i64 lo),(21,.int .i64 hi)] sl,(H.set r (.row 8 (es.map row)))⟩ (cutQ (fun s=>∃ st:Nat,lo≤st∧st≤hi∧(∀ c,lo≤c→c<st→¬ cmp (nth es (N-1-c)) (nth es c)<0)∧(∀ c,st≤c→c<hi→cmp (nth es (N-1-c)) (nth es c)<0)∧AtS [(0,.v (.c (.os r 8 0 es.length))),(1,.int .i64 a),(2,.int .i64 m),(3,.int .i64 b),(4,.v (.c (.fn f []))),(18,.int .i64 mid),(19,.int .i64 N),(20,.int .i64 st)] (H.set r (.row 8 (es.map row))) s) (retQ Tryz.prog (H.set r (.row 8 (es.map row))).length ir78.res R)):=by
 obtain ⟨hes,ha,hm,hb,hul,hvl,hus,hvs,heL,nu,nv,mu,mv⟩:=M
 generalize hJJ:(fun s=>∃ st:Nat,lo≤st∧st≤hi∧(∀ c,lo≤c→c<st→¬ cmp (nth es (N-1-c)) (nth es c)<0)∧(∀ c,st≤c→c<hi→cmp (nth es (N-1-c)) (nth es c)<0)∧AtS [(0,.v (.c (.os r 8 0 es.length))),(1,.int .i64 a),(2,.int .i64 m),(3,.int .i64 b),(4,.v (.c (.fn f []))),(18,.int .i64 mid),(19,.int .i64 N),(20,.int .i64 st)] (H.set r (.row 8 (es.map row))) s)=JJ
 simp (implicitDefEqProofs:=false) (disch:=omega) [gz,b78_6,b78_7,wrap64]
 refine loopE (fun k s=>∃ i j,lo≤i∧i≤j∧j≤hi∧k=j-i∧(∀ c,lo≤c→c<i→¬ cmp (nth es (N-1-c)) (nth es c)<0)∧(∀ c,j≤c→c<hi→cmp (nth es (N-1-c)) (nth es c)<0) ∧
  s=⟨ofL [(0,.v (.c (.os r 8 0 es.length))),(1,.int .i64 a),(2,.int .i64 m),(3,.int .i64 b),(4,.v (.c (.fn f []))),(18,.int .i64 mid),(19,.int .i64 N),(20,.int .i64 i),(21,.int .i64 j),(22,.int .i64 (N-1))],(H.set r (.row 8 (es.map row)))⟩)
  JJ ?_ ?_ ?_
 ·refine wk_keep [0,1,2,3,4,18,19,20,21,22] ⟨_,lo,hi,Nat.le_refl _,by omega,Nat.le_refl _,rfl,fun c h1 h2=>by omega,fun c h1 h2=>by omega,?_⟩
  simp
 ·rintro J L hJ hL k s ⟨i,j,hmi,hij,hjb,rfl,hlo,hhi,rfl⟩
  by_cases hlt:i<j
  ·obtain ⟨c,hc⟩:∃ c,c=(i+j) / 2:=⟨_,rfl⟩
   have n1:((N:Int)-1-c).toNat=N-1-c:=by omega
   simp (implicitDefEqProofs:=false) (disch:=omega) [gz,hlt,wrap64,wrapU64,half,← hc,n1,hr,nth_map,(hrow _).len,take_of_len,(hrow _).mapO,(hrow _).tk,(hrow _).nrm,borRow,(hrow _).cl,borV_map,osR_map,frz_map,nth_set_ne,(hrow _).spl (hrow _),hsc,hxg]
   repeat' apply And.intro
   all_goals first | omega | kernel_rfl | skip
   ·intro h
    subst hJ
    refine wk_keep [0,1,2,3,4,18,19,20,21,22] ⟨j-(c+1),by omega,c+1,j,by omega,by omega,by omega,rfl,fun c' q1 q2 q=>?_,hhi,?_⟩
    ·have e1:=mu c' c (by omega) (by omega) (by omega)
     have e2:=mv (N-1-c) (N-1-c') (by omega) (by omega) (by omega)
     have:=hp.le_lt e2 (hp.lt_le q e1); omega
    ·simp
   ·intro h
    subst hJ
    refine wk_keep [0,1,2,3,4,18,19,20,21,22] ⟨c-i,by omega,i,c,by omega,by omega,by omega,rfl,hlo,fun c' q1 q2=>?_,?_⟩
    ·have e1:=mu c c' (by omega) (by omega) (by omega)
     have e2:=mv (N-1-c') (N-1-c) (by omega) (by omega) (by omega)
     exact hp.le_lt e2 (hp.lt_le h e1)
    ·simp
  ·simp (implicitDefEqProofs:=false) (disch:=omega) [gz,hlt]
   subst JJ
   subst hL
   have:i=j:=by omega
   subst this
   exact ⟨i,hmi,hjb,hlo,hhi,at_mk (by simp) rfl⟩
 ·intro s hs
  exact hs
end
section
variable {E:Type} [Inhabited E]
theorem k78_p4 (row:E→List D) (hrow:∀ e,RowOk 8 (row e)) (cmp:E→E→Int) (hp:Pre cmp) (f:Nat) (xf:XE) (hsc:xf.sc=true) (hf1:f≠166) (hf2:f≠154)
  (hxg:∀ a b,xf.g [.agg (row a),.agg (row b)]=some (True,.int .i64 (cmp a b))) (H:List O) (r:Nat) (hr:r<H.length) {P u v S es:List E} {a m b:Nat} (M:Mg cmp P u v S es a m b) (hlen:es.length<4611686018427387904) (R:T→List O→Prop) (sl:Nat→T) (mid N st en:Nat) (k1:a≤st) (k2:st≤m) (k3:m≤en) (k4:en≤b) (hen:N=st+en) {u1 u2 v1 v2:List E} (hu:u=u1 ++ u2) (hv:v=v1 ++ v2) (hU:u1.length=st-a) (hV:v1.length=en-m) :
  wcodeX Tryz.prog G0 [(f,xf)] (H.set r (.row 8 (es.map row))).length (.seq b78_8 b78_9) ⟨ofLr [(0,.v (.c (.os r 8 0 es.length))),(1,.int .i64 a),(2,.int .i64 m),(3,.int .i64 b),(4,.v (.c (.fn f []))),(18,.int .i64 mid),(19,.int .i64 N),(20,.int .i64 st)] sl,(H.set r (.row 8 (es.map row)))⟩ (cutQ (fun s=>AtS [(0,.v (.c (.os r 8 0 es.length))),(1,.int .i64 a),(3,.int .i64 b),(4,.v (.c (.fn f []))),(18,.int .i64 mid),(20,.int .i64 st),(24,.int .i64 en)] (H.set r (.row 8 ((P ++ (u1 ++ (v1 ++ (u2 ++ (v2 ++ S))))).map row))) s) (retQ Tryz.prog (H.set r (.row 8 (es.map row))).length ir78.res R)):=by
 obtain ⟨hes,ha,hm,hb,hul,hvl,hus,hvs,heL,nu,nv,mu,mv⟩:=M
 have cen:(N:Int)-st=en:=by omega
 subst hu
 subst hv
 simp only [List.length_append] at hm hb hul hvl
 have hf1':¬ f=166:=hf1
 generalize hJJ:(fun s=>AtS [(0,.v (.c (.os r 8 0 es.length))),(1,.int .i64 a),(3,.int .i64 b),(4,.v (.c (.fn f []))),(18,.int .i64 mid),(20,.int .i64 st),(24,.int .i64 en)] (H.set r (.row 8 ((P ++ (u1 ++ (v1 ++ (u2 ++ (v2 ++ S))))).map row))) s)=JJ
 by_cases c1:st<m
 ·by_cases c2:m<en
  ·simp (implicitDefEqProofs:=false) (disch:=omega) [gz,b78_8,b78_9,wrap64,cen,c1,c2,hf1']
   have hc:=k95 row hrow es st m en c1 c2 (by omega) hlen f H r hr
   refine hc.mono ?_
   rintro t H' ⟨rfl,rfl⟩
   simp only [callK]
   have:=rotN_app (m:=m) (en-st) (i:=m-st) (j:=en-m) (Q:=P ++ u1) (u:=u2) (v:=v1) (T:=v2 ++ S) (by omega) (by omega) (by simp; omega) (by omega) (by omega) (by omega)
   simp only [List.append_assoc] at this hes
   subst JJ
   exact at_mk (by simp) (by rw [hes,this])
  ·have hv:v1=[]:=List.length_eq_zero_iff.1 (by omega)
   subst hv
   simp (implicitDefEqProofs:=false) (disch:=omega) [gz,b78_8,b78_9,wrap64,cen,c1,c2,hf1']
   subst JJ
   exact at_mk (by simp) (by rw [hes]; simp)
 ·have hu:u2=[]:=List.length_eq_zero_iff.1 (by omega)
  subst hu
  simp (implicitDefEqProofs:=false) (disch:=omega) [gz,b78_8,b78_9,wrap64,cen,c1,hf1']
  subst JJ
  exact at_mk (by simp) (by rw [hes]; simp)
end
section
variable {E:Type} [Inhabited E]
theorem k78_p5 (row:E→List D) (hrow:∀ e,RowOk 8 (row e)) (cmp:E→E→Int) (hp:Pre cmp) (f:Nat) (xf:XE) (hsc:xf.sc=true) (hf1:f≠166) (hf2:f≠154)
  (hxg:∀ a b,xf.g [.agg (row a),.agg (row b)]=some (True,.int .i64 (cmp a b))) (H:List O) (r:Nat) (hr:r<H.length) {P u v S es:List E} {a m b:Nat} (M:Mg cmp P u v S es a m b) (hlen:es.length<4611686018427387904) (ih:∀ P' u' v' S':List E,u'.length+v'.length<u.length+v.length→u'≠[]→v'≠[]→Srt cmp u'→Srt cmp v'→(P' ++ (u' ++ (v' ++ S'))).length<4611686018427387904→ACalls Tryz.prog G0 154 [.c (.os r 8 0 (P' ++ (u' ++ (v' ++ S'))).length),I P'.length,I (P'.length+u'.length:Nat),I (P'.length+u'.length+v'.length:Nat),.c (.fn f [])] (H.set r (.row 8 ((P' ++ (u' ++ (v' ++ S'))).map row))) fun t H'=>t = .tup []∧∃ w,Merged cmp (u' ++ v') w∧H'=H.set r (.row 8 ((P' ++ (w ++ S')).map row))) (R:T→List O→Prop) (sl:Nat→T) (mid st en:Nat) (hmid:mid=(a+b) / 2) (k1:a≤st) (k2:st≤m) (k3:m≤en) (k4:en≤b) (hen:mid+m=st+en) (k5:1<u.length) (k6:1<v.length) {u1 u2 v1 v2:List E} (hu:u=u1 ++ u2) (hv:v=v1 ++ v2) (hU:u1.length=st-a) (hV:v1.length=en-m) :
  wcodeX Tryz.prog G0 [(f,xf)] (H.set r (.row 8 (es.map row))).length b78_10 ⟨ofLr [(0,.v (.c (.os r 8 0 es.length))),(1,.int .i64 a),(3,.int .i64 b),(4,.v (.c (.fn f []))),(18,.int .i64 mid),(20,.int .i64 st),(24,.int .i64 en)] sl,(H.set r (.row 8 ((P ++ (u1 ++ (v1 ++ (u2 ++ (v2 ++ S))))).map row)))⟩ (cutQ (fun s=>∃ w1,Merged cmp (u1 ++ v1) w1∧AtS [(0,.v (.c (.os r 8 0 es.length))),(3,.int .i64 b),(4,.v (.c (.fn f []))),(18,.int .i64 mid),(24,.int .i64 en)] (H.set r (.row 8 ((P ++ (w1 ++ (u2 ++ (v2 ++ S)))).map row))) s) (retQ Tryz.prog (H.set r (.row 8 (es.map row))).length ir78.res R)):=by
 obtain ⟨hes,ha,hm,hb,hul,hvl,hus,hvs,heL,nu,nv,mu,mv⟩:=M
 subst hu
 subst hv
 simp only [List.length_append] at hm hb hul hvl k5 k6 ih
 have hf2':¬ f=154:=hf2
 generalize hJJ:(fun s=>∃ w1,Merged cmp (u1 ++ v1) w1∧AtS [(0,.v (.c (.os r 8 0 es.length))),(3,.int .i64 b),(4,.v (.c (.fn f []))),(18,.int .i64 mid),(24,.int .i64 en)] (H.set r (.row 8 ((P ++ (w1 ++ (u2 ++ (v2 ++ S)))).map row))) s)=JJ
 by_cases c1:a<st
 ·by_cases c2:st<mid
  ·simp (implicitDefEqProofs:=false) (disch:=omega) [gz,b78_10,wrap64,c1,c2,hf2']
   have hc:=ih P u1 v1 (u2 ++ (v2 ++ S)) (by omega) (fun e=>by subst e; simp at hU; omega) (fun e=>by subst e; simp at hV; omega) hus.left hvs.left (by rw [hes] at hlen; simp at hlen ⊢; omega)
   have el:P.length+(u1.length+(v1.length+(u2 ++ (v2 ++ S)).length))=es.length:=by rw [hes]; simp; omega
   rw [el,show P.length+u1.length+v1.length=mid by omega,show P.length+u1.length=st by omega,← ha] at hc
   simp only [List.map_append] at hc ⊢
   refine hc.mono ?_
   rintro t H' ⟨rfl,w1,hw1,rfl⟩
   simp only [callK]
   subst JJ
   exact ⟨w1,hw1,at_mk (by simp) (by simp)⟩
  ·have hv:v1=[]:=List.length_eq_zero_iff.1 (by omega)
   subst hv
   simp (implicitDefEqProofs:=false) (disch:=omega) [gz,b78_10,wrap64,c1,c2,hf2']
   subst JJ
   exact ⟨u1,⟨hus.left,by simpa using Flt.refl _,by simp⟩,at_mk (by simp) (by simp)⟩
 ·have hu:u1=[]:=List.length_eq_zero_iff.1 (by omega)
  subst hu
  simp (implicitDefEqProofs:=false) (disch:=omega) [gz,b78_10,wrap64,c1,hf2']
  subst JJ
  exact ⟨v1,⟨hvs.left,Flt.refl _,rfl⟩,at_mk (by simp) (by simp)⟩
theorem k78_p6 (row:E→List D) (hrow:∀ e,RowOk 8 (row e)) (cmp:E→E→Int) (hp:Pre cmp) (f:Nat) (xf:XE) (hsc:xf.sc=true) (hf1:f≠166) (hf2:f≠154)
  (hxg:∀ a b,xf.g [.agg (row a),.agg (row b)]=some (True,.int .i64 (cmp a b))) (H:List O) (r:Nat) (hr:r<H.length) {P u v S es:List E} {a m b:Nat} (M:Mg cmp P u v S es a m b) (hlen:es.length<4611686018427387904) (ih:∀ P' u' v' S':List E,u'.length+v'.length<u.length+v.length→u'≠[]→v'≠[]→Srt cmp u'→Srt cmp v'→(P' ++ (u' ++ (v' ++ S'))).length<4611686018427387904→ACalls Tryz.prog G0 154 [.c (.os r 8 0 (P' ++ (u' ++ (v' ++ S'))).length),I P'.length,I (P'.length+u'.length:Nat),I (P'.length+u'.length+v'.length:Nat),.c (.fn f [])] (H.set r (.row 8 ((P' ++ (u' ++ (v' ++ S'))).map row))) fun t H'=>t = .tup []∧∃ w,Merged cmp (u' ++ v') w∧H'=H.set r (.row 8 ((P' ++ (w ++ S')).map row))) (sl:Nat→T) (mid st en:Nat) (hmid:mid=(a+b) / 2) (k1:a≤st) (k2:st≤m) (k3:m≤en) (k4:en≤b) (hen:mid+m=st+en) (k5:1<u.length) (k6:1<v.length) {u1 u2 v1 v2:List E} (hu:u=u1 ++ u2) (hv:v=v1 ++ v2) (hU:u1.length=st-a) (hV:v1.length=en-m) (R:T→List O→Prop) (hR:∀ w,Merged cmp (u ++ v) w→R (T.tup []) (H.set r (.row 8 ((P ++ (w ++ S)).map row)))) (w1:List E) (hw1:Merged cmp (u1 ++ v1) w1) (g1:∀ x∈v1,∀ y∈u2,cmp x y<0) (g2:∀ x∈u1,∀ y∈v2,cmp x y≤0) :
  wcodeX Tryz.prog G0 [(f,xf)] (H.set r (.row 8 (es.map row))).length (.seq b78_11 b78_12) ⟨ofLr [(0,.v (.c (.os r 8 0 es.length))),(3,.int .i64 b),(4,.v (.c (.fn f []))),(18,.int .i64 mid),(24,.int .i64 en)] sl,(H.set r (.row 8 ((P ++ (w1 ++ (u2 ++ (v2 ++ S)))).map row)))⟩ (retQ Tryz.prog (H.set r (.row 8 (es.map row))).length ir78.res R):=by
 obtain ⟨hes,ha,hm,hb,hul,hvl,hus,hvs,heL,nu,nv,mu,mv⟩:=M
 have hl1:=hw1.2.2
 have fin:∀ w2,Merged cmp (u2 ++ v2) w2→∃ w,Merged cmp (u ++ v) w∧P ++ (w1 ++ (w2 ++ S))=P ++ (w ++ S):=fun w2 h=>⟨w1 ++ w2,by rw [hu,hv] at *; exact merge_split hp hus hvs g1 g2 hw1 h,by simp⟩
 have fin2:∀ w2,Merged cmp (u2 ++ v2) w2→R (T.tup []) (H.set r (.row 8 ((P ++ (w1 ++ (w2 ++ S))).map row))):=fun w2 h=>by
  obtain ⟨w,q1,q2⟩:=fin w2 h
  rw [q2]; exact hR w q1
 have ul:=congrArg List.length hu
 have vl:=congrArg List.length hv
 rw [hu] at hus
 rw [hv] at hvs
 simp only [List.length_append] at hl1 ul vl
 have hf2':¬ f=154:=hf2
 by_cases c1:mid<en
 ·by_cases c2:en<b
  ·simp (implicitDefEqProofs:=false) (disch:=omega) [gz,b78_11,b78_12,ir78,wrap64,c1,c2,hf2']
   have hc:=ih (P ++ w1) u2 v2 S (by omega) (fun e=>by subst e; simp at ul; omega) (fun e=>by subst e; simp at vl; omega) hus.right hvs.right (by rw [hes] at hlen; simp at hlen ⊢; omega)
   have el:(P ++ w1 ++ (u2 ++ (v2 ++ S))).length=es.length:=by rw [hes]; simp; omega
   rw [el,show (P ++ w1).length+u2.length+v2.length=b by simp; omega,show (P ++ w1).length+u2.length=en by simp; omega,show (P ++ w1).length=mid by simp; omega] at hc
   simp only [List.map_append,List.append_assoc] at hc ⊢
   refine hc.mono ?_
   rintro t H' ⟨rfl,w2,hw2,rfl⟩
   simp only [callK]
   have:=fin2 w2 hw2
   exact fin_here (by simp) (by simpa using this)
  ·have hv:v2=[]:=List.length_eq_zero_iff.1 (by omega)
   subst hv
   simp (implicitDefEqProofs:=false) (disch:=omega) [gz,b78_11,b78_12,ir78,wrap64,c1,c2,hf2']
   have:=fin2 u2 ⟨hus.right,by simpa using Flt.refl _,by simp⟩
   exact fin_here (by simp) (by simpa using this)
 ·have hu:u2=[]:=List.length_eq_zero_iff.1 (by omega)
  subst hu
  simp (implicitDefEqProofs:=false) (disch:=omega) [gz,b78_11,b78_12,ir78,wrap64,c1,hf2']
  have:=fin2 v2 ⟨hvs.right,Flt.refl _,rfl⟩
  exact fin_here (by simp) (by simpa using this)
end
section
variable {E:Type} [Inhabited E]
theorem k78 (row:E→List D) (hrow:∀ e,RowOk 8 (row e)) (cmp:E→E→Int) (hp:Pre cmp) (f:Nat) (xf:XE) (hx:Contract Tryz.prog G0 f xf) (hsc:xf.sc=true) (hf1:f≠166) (hf2:f≠154)
  (hxg:∀ a b,xf.g [.agg (row a),.agg (row b)]=some (True,.int .i64 (cmp a b))) (H:List O) (r:Nat) (hr:r<H.length):∀ (n:Nat) (P u v S:List E),u.length+v.length=n→u≠[]→v≠[]→Srt cmp u→Srt cmp v →
  (P ++ (u ++ (v ++ S))).length<4611686018427387904 →
  ACalls Tryz.prog G0 154 [.c (.os r 8 0 (P ++ (u ++ (v ++ S))).length),I P.length,I (P.length+u.length:Nat),I (P.length+u.length+v.length:Nat),.c (.fn f [])] (H.set r (.row 8 ((P ++ (u ++ (v ++ S))).map row)))
   fun t H'=>t = .tup []∧∃ w,Merged cmp (u ++ v) w∧H'=H.set r (.row 8 ((P ++ (w ++ S)).map row)):=by
 intro n
 induction n using Nat.strongRecOn with
 | _ n ih =>
 intro P u v S hn hu0 hv0 hus hvs hlen
 have M:=Mg.mk' hp (P:=P) (S:=S) hu0 hv0 hus hvs
 obtain ⟨es,hes⟩:∃ es,es=P ++ (u ++ (v ++ S)):=⟨_,rfl⟩
 obtain ⟨a,ha⟩:∃ a,a=P.length:=⟨_,rfl⟩
 obtain ⟨m,hm⟩:∃ m,m=P.length+u.length:=⟨_,rfl⟩
 obtain ⟨b,hb⟩:∃ b,b=P.length+u.length+v.length:=⟨_,rfl⟩
 rw [← hes,← hb,← hm,← ha] at M
 rw [← hes,← hb,← hm,← ha]
 rw [← hes] at hlen
 have hul:=M.hul
 have hvl:=M.hvl
 obtain ⟨mid,hmid⟩:∃ mid,mid=(a+b) / 2:=⟨_,rfl⟩
 refine acallsX (X:=[(f,xf)]) ⟨hx,trivial⟩ tab hmix Tryz.func154 c78 (by rfl) fun hw=>?_
 show wcodeX _ _ _ _ b78 _ _
 unfold b78
 refine seqX _ (k78_p0 row hrow cmp hp f xf hsc hf1 hf2 hxg H r hr M hlen hw) ?_
 rintro _ ⟨hma,sl,rfl⟩
 refine seqX _ (k78_p1 row hrow cmp hp f xf hsc hf1 hf2 hxg H r hr M hlen hma sl) ?_
 rintro _ ⟨hbm,sl,rfl⟩
 rw [seq_assoc,seq_assoc,seq_assoc]
 refine seqX _ (k78_p2 row hrow cmp hp f xf hsc hf1 hf2 hxg H r hr M hlen _ sl mid hmid) ?_
 rintro _ ⟨lo,hi,hc1,hc2,sl,rfl⟩
 obtain ⟨N,hN⟩:∃ N,N=mid+m:=⟨_,rfl⟩
 rw [← hN]
 have hall:a≤lo∧lo≤hi∧hi≤m∧hi≤mid∧N≤lo+b∧(lo=a∨lo+b=N)∧(hi=m∨hi=mid)∧a<mid∧mid<b:=by
  by_cases hc:mid<m
  ·have:=hc1 hc; omega
  ·have:=hc2 hc; omega
 obtain ⟨k1,k2,k3,k4,k5,k6,k7,k8,k9⟩:=hall
 rw [seq_assoc]
 refine seqX _ (k78_p3 row hrow cmp hp f xf hsc hf1 hf2 hxg H r hr M hlen _ sl mid N lo hi hmid hN k1 k2 k3 k4 k5) ?_
 rintro _ ⟨st,hmi,hib,hlo,hhi,sl,rfl⟩
 obtain ⟨en,hen⟩:∃ en,en=N-st:=⟨_,rfl⟩
 obtain ⟨u1,u2,hu,hU⟩:=split_at u (n:=st-a) (by omega)
 obtain ⟨v1,v2,hv,hV⟩:=split_at v (n:=en-m) (by omega)
 have ul:=congrArg List.length hu
 have vl:=congrArg List.length hv
 simp only [List.length_append] at ul vl
 have eu1:∀ x∈u1,∃ c,a≤c∧c<st∧nth es c=x:=fun x hx=>by
  obtain ⟨k,hk,e⟩:=mem_nth hx
  exact ⟨a+k,by omega,by omega,by rw [M.nu _ (by omega) (by omega),Nat.add_sub_cancel_left,hu,nth_app_l hk,e]⟩
 have eu2:∀ x∈u2,∃ c,st≤c∧c<m∧nth es c=x:=fun x hx=>by
  obtain ⟨k,hk,e⟩:=mem_nth hx
  exact ⟨st+k,by omega,by omega,by rw [M.nu _ (by omega) (by omega),hu,nth_app_r (by omega),show st+k-a-u1.length=k by omega,e]⟩
 have ev1:∀ x∈v1,∃ c,m≤c∧c<en∧nth es c=x:=fun x hx=>by
  obtain ⟨k,hk,e⟩:=mem_nth hx
  exact ⟨m+k,by omega,by omega,by rw [M.nv _ (by omega) (by omega),Nat.add_sub_cancel_left,hv,nth_app_l hk,e]⟩
 have ev2:∀ x∈v2,∃ c,en≤c∧c<b∧nth es c=x:=fun x hx=>by
  obtain ⟨k,hk,e⟩:=mem_nth hx
  exact ⟨en+k,by omega,by omega,by rw [M.nv _ (by omega) (by omega),hv,nth_app_r (by omega),show en+k-m-v1.length=k by omega,e]⟩
 have g1:∀ x∈v1,∀ y∈u2,cmp x y<0:=fun x hx y hy=>by
  obtain ⟨c,q1,q2,rfl⟩:=ev1 x hx
  obtain ⟨c',q3,q4,rfl⟩:=eu2 y hy
  have:=hhi st (Nat.le_refl _) (by omega)
  rw [show N-1-st=en-1 by omega] at this
  exact hp.le_lt (M.mv c (en-1) q1 (by omega) (by omega)) (hp.lt_le this (M.mu st c' (by omega) q3 q4))
 have g2:∀ x∈u1,∀ y∈v2,cmp x y≤0:=fun x hx y hy=>by
  obtain ⟨c,q1,q2,rfl⟩:=eu1 x hx
  obtain ⟨c',q3,q4,rfl⟩:=ev2 y hy
  have:=hlo (st-1) (by omega) (by omega)
  rw [show N-1-(st-1)=en by omega] at this
  exact hp.tr _ _ _ (M.mu c (st-1) q1 (by omega) (by omega)) (hp.tr _ _ _ (hp.le_of_not this) (M.mv en c' (by omega) q3 q4))
 rw [seq_assoc]
 refine seqX _ (k78_p4 row hrow cmp hp f xf hsc hf1 hf2 hxg H r hr M hlen _ sl mid N st en (by omega) (by omega) (by omega) (by omega) (by omega) hu hv hU hV) ?_
 rintro _ ⟨sl,rfl⟩
 have ih':∀ P' u' v' S':List E,u'.length+v'.length<u.length+v.length→_:=fun P' u' v' S' h=>ih _ (by omega) P' u' v' S' rfl
 refine seqX _ (k78_p5 row hrow cmp hp f xf hsc hf1 hf2 hxg H r hr M hlen ih' _ sl mid st en hmid (by omega) (by omega) (by omega) (by omega) (by omega) (by omega) (by omega) hu hv hU hV) ?_
 rintro _ ⟨w1,hw1,sl,rfl⟩
 exact k78_p6 row hrow cmp hp f xf hsc hf1 hf2 hxg H r hr M hlen ih' sl mid st en hmid (by omega) (by omega) (by omega) (by omega) (by omega) (by omega) (by omega) hu hv hU hV _ (fun w hw=>⟨rfl,w,hw,rfl⟩) w1 hw1 g1 g2
end
end Go.Aw.Try
