/- The small code of the program's functions, printed by a program of mine: the table. -/
import Derived.Test.YtlhfeiacigmliaaPartD
import Derived.Test.YtlhfeiacigmliaaPartE
set_option linter.all false
namespace Go.Proofs.Ytlhfeiacigmliaa
open Go
set_option maxRecDepth 100000

def tblL : List (Nat × AFun) := [(6, a6), (21, a21), (22, a22), (23, a23), (24, a24), (12312, a24v3), (25, a25), (26, a26), (27, a27), (28, a28), (29, a29), (30, a30), (31, a31), (4127, a31v1), (8223, a31v2), (32, a32), (33, a33), (34, a34), (35, a35), (36, a36), (37, a37), (38, a38), (39, a39), (40, a40), (41, a41), (42, a42), (43, a43), (44, a44), (45, a45), (46, a46), (12334, a46v3), (47, a47), (48, a48), (49, a49), (50, a50), (51, a51), (52, a52), (53, a53), (54, a54), (55, a55), (56, a56), (57, a57), (12345, a57v3), (58, a58), (59, a59), (60, a60), (61, a61), (62, a62), (63, a63), (12351, a63v3), (64, a64), (65, a65), (66, a66), (67, a67), (68, a68), (69, a69), (70, a70), (71, a71), (4167, a71v1), (72, a72), (73, a73), (74, a74), (75, a75), (76, a76), (77, a77), (78, a78), (79, a79), (80, a80), (81, a81), (82, a82), (83, a83), (84, a84), (85, a85), (86, a86), (87, a87), (88, a88), (89, a89), (90, a90), (91, a91), (92, a92), (93, a93), (94, a94), (95, a95), (96, a96), (97, a97), (98, a98), (99, a99), (100, a100), (101, a101), (102, a102), (103, a103), (104, a104), (105, a105), (106, a106), (107, a107), (108, a108), (109, a109), (110, a110), (111, a111), (112, a112), (113, a113), (114, a114), (115, a115), (116, a116), (117, a117), (118, a118), (119, a119), (120, a120), (121, a121), (122, a122), (123, a123), (124, a124), (125, a125), (126, a126), (127, a127), (128, a128), (129, a129), (130, a130), (131, a131), (132, a132), (133, a133), (134, a134), (135, a135)]
def tbl : Nat → Option AFun := mkTbl tblL
theorem tbl_ok : TblOk Go.Proofs.Try.prog tbl :=
  TblOk.cons Go.Proofs.Try.func6 a6_ok a6_body <|
  TblOk.cons Go.Proofs.Try.func21 a21_ok a21_body <|
  TblOk.cons Go.Proofs.Try.func22 a22_ok a22_body <|
  TblOk.cons Go.Proofs.Try.func23 a23_ok a23_body <|
  TblOk.cons Go.Proofs.Try.func24 a24_ok a24_body <|
  TblOk.cons Go.Proofs.Try.func24 a24v3_ok a24v3_body <|
  TblOk.cons Go.Proofs.Try.func25 a25_ok a25_body <|
  TblOk.cons Go.Proofs.Try.func26 a26_ok a26_body <|
  TblOk.cons Go.Proofs.Try.func27 a27_ok a27_body <|
  TblOk.cons Go.Proofs.Try.func28 a28_ok a28_body <|
  TblOk.cons Go.Proofs.Try.func29 a29_ok a29_body <|
  TblOk.cons Go.Proofs.Try.func30 a30_ok a30_body <|
  TblOk.cons Go.Proofs.Try.func31 a31_ok a31_body <|
  TblOk.cons Go.Proofs.Try.func31 a31v1_ok a31v1_body <|
  TblOk.cons Go.Proofs.Try.func31 a31v2_ok a31v2_body <|
  TblOk.cons Go.Proofs.Try.func32 a32_ok a32_body <|
  TblOk.cons Go.Proofs.Try.func33 a33_ok a33_body <|
  TblOk.cons Go.Proofs.Try.func34 a34_ok a34_body <|
  TblOk.cons Go.Proofs.Try.func35 a35_ok a35_body <|
  TblOk.cons Go.Proofs.Try.func36 a36_ok a36_body <|
  TblOk.cons Go.Proofs.Try.func37 a37_ok a37_body <|
  TblOk.cons Go.Proofs.Try.func38 a38_ok a38_body <|
  TblOk.cons Go.Proofs.Try.func39 a39_ok a39_body <|
  TblOk.cons Go.Proofs.Try.func40 a40_ok a40_body <|
  TblOk.cons Go.Proofs.Try.func41 a41_ok a41_body <|
  TblOk.cons Go.Proofs.Try.func42 a42_ok a42_body <|
  TblOk.cons Go.Proofs.Try.func43 a43_ok a43_body <|
  TblOk.cons Go.Proofs.Try.func44 a44_ok a44_body <|
  TblOk.cons Go.Proofs.Try.func45 a45_ok a45_body <|
  TblOk.cons Go.Proofs.Try.func46 a46_ok a46_body <|
  TblOk.cons Go.Proofs.Try.func46 a46v3_ok a46v3_body <|
  TblOk.cons Go.Proofs.Try.func47 a47_ok a47_body <|
  TblOk.cons Go.Proofs.Try.func48 a48_ok a48_body <|
  TblOk.cons Go.Proofs.Try.func49 a49_ok a49_body <|
  TblOk.cons Go.Proofs.Try.func50 a50_ok a50_body <|
  TblOk.cons Go.Proofs.Try.func51 a51_ok a51_body <|
  TblOk.cons Go.Proofs.Try.func52 a52_ok a52_body <|
  TblOk.cons Go.Proofs.Try.func53 a53_ok a53_body <|
  TblOk.cons Go.Proofs.Try.func54 a54_ok a54_body <|
  TblOk.cons Go.Proofs.Try.func55 a55_ok a55_body <|
  TblOk.cons Go.Proofs.Try.func56 a56_ok a56_body <|
  TblOk.cons Go.Proofs.Try.func57 a57_ok a57_body <|
  TblOk.cons Go.Proofs.Try.func57 a57v3_ok a57v3_body <|
  TblOk.cons Go.Proofs.Try.func58 a58_ok a58_body <|
  TblOk.cons Go.Proofs.Try.func59 a59_ok a59_body <|
  TblOk.cons Go.Proofs.Try.func60 a60_ok a60_body <|
  TblOk.cons Go.Proofs.Try.func61 a61_ok a61_body <|
  TblOk.cons Go.Proofs.Try.func62 a62_ok a62_body <|
  TblOk.cons Go.Proofs.Try.func63 a63_ok a63_body <|
  TblOk.cons Go.Proofs.Try.func63 a63v3_ok a63v3_body <|
  TblOk.cons Go.Proofs.Try.func64 a64_ok a64_body <|
  TblOk.cons Go.Proofs.Try.func65 a65_ok a65_body <|
  TblOk.cons Go.Proofs.Try.func66 a66_ok a66_body <|
  TblOk.cons Go.Proofs.Try.func67 a67_ok a67_body <|
  TblOk.cons Go.Proofs.Try.func68 a68_ok a68_body <|
  TblOk.cons Go.Proofs.Try.func69 a69_ok a69_body <|
  TblOk.cons Go.Proofs.Try.func70 a70_ok a70_body <|
  TblOk.cons Go.Proofs.Try.func71 a71_ok a71_body <|
  TblOk.cons Go.Proofs.Try.func71 a71v1_ok a71v1_body <|
  TblOk.cons Go.Proofs.Try.func72 a72_ok a72_body <|
  TblOk.cons Go.Proofs.Try.func73 a73_ok a73_body <|
  TblOk.cons Go.Proofs.Try.func74 a74_ok a74_body <|
  TblOk.cons Go.Proofs.Try.func75 a75_ok a75_body <|
  TblOk.cons Go.Proofs.Try.func76 a76_ok a76_body <|
  TblOk.cons Go.Proofs.Try.func77 a77_ok a77_body <|
  TblOk.cons Go.Proofs.Try.func78 a78_ok a78_body <|
  TblOk.cons Go.Proofs.Try.func79 a79_ok a79_body <|
  TblOk.cons Go.Proofs.Try.func80 a80_ok a80_body <|
  TblOk.cons Go.Proofs.Try.func81 a81_ok a81_body <|
  TblOk.cons Go.Proofs.Try.func82 a82_ok a82_body <|
  TblOk.cons Go.Proofs.Try.func83 a83_ok a83_body <|
  TblOk.cons Go.Proofs.Try.func84 a84_ok a84_body <|
  TblOk.cons Go.Proofs.Try.func85 a85_ok a85_body <|
  TblOk.cons Go.Proofs.Try.func86 a86_ok a86_body <|
  TblOk.cons Go.Proofs.Try.func87 a87_ok a87_body <|
  TblOk.cons Go.Proofs.Try.func88 a88_ok a88_body <|
  TblOk.cons Go.Proofs.Try.func89 a89_ok a89_body <|
  TblOk.cons Go.Proofs.Try.func90 a90_ok a90_body <|
  TblOk.cons Go.Proofs.Try.func91 a91_ok a91_body <|
  TblOk.cons Go.Proofs.Try.func92 a92_ok a92_body <|
  TblOk.cons Go.Proofs.Try.func93 a93_ok a93_body <|
  TblOk.cons Go.Proofs.Try.func94 a94_ok a94_body <|
  TblOk.cons Go.Proofs.Try.func95 a95_ok a95_body <|
  TblOk.cons Go.Proofs.Try.func96 a96_ok a96_body <|
  TblOk.cons Go.Proofs.Try.func97 a97_ok a97_body <|
  TblOk.cons Go.Proofs.Try.func98 a98_ok a98_body <|
  TblOk.cons Go.Proofs.Try.func99 a99_ok a99_body <|
  TblOk.cons Go.Proofs.Try.func100 a100_ok a100_body <|
  TblOk.cons Go.Proofs.Try.func101 a101_ok a101_body <|
  TblOk.cons Go.Proofs.Try.func102 a102_ok a102_body <|
  TblOk.cons Go.Proofs.Try.func103 a103_ok a103_body <|
  TblOk.cons Go.Proofs.Try.func104 a104_ok a104_body <|
  TblOk.cons Go.Proofs.Try.func105 a105_ok a105_body <|
  TblOk.cons Go.Proofs.Try.func106 a106_ok a106_body <|
  TblOk.cons Go.Proofs.Try.func107 a107_ok a107_body <|
  TblOk.cons Go.Proofs.Try.func108 a108_ok a108_body <|
  TblOk.cons Go.Proofs.Try.func109 a109_ok a109_body <|
  TblOk.cons Go.Proofs.Try.func110 a110_ok a110_body <|
  TblOk.cons Go.Proofs.Try.func111 a111_ok a111_body <|
  TblOk.cons Go.Proofs.Try.func112 a112_ok a112_body <|
  TblOk.cons Go.Proofs.Try.func113 a113_ok a113_body <|
  TblOk.cons Go.Proofs.Try.func114 a114_ok a114_body <|
  TblOk.cons Go.Proofs.Try.func115 a115_ok a115_body <|
  TblOk.cons Go.Proofs.Try.func116 a116_ok a116_body <|
  TblOk.cons Go.Proofs.Try.func117 a117_ok a117_body <|
  TblOk.cons Go.Proofs.Try.func118 a118_ok a118_body <|
  TblOk.cons Go.Proofs.Try.func119 a119_ok a119_body <|
  TblOk.cons Go.Proofs.Try.func120 a120_ok a120_body <|
  TblOk.cons Go.Proofs.Try.func121 a121_ok a121_body <|
  TblOk.cons Go.Proofs.Try.func122 a122_ok a122_body <|
  TblOk.cons Go.Proofs.Try.func123 a123_ok a123_body <|
  TblOk.cons Go.Proofs.Try.func124 a124_ok a124_body <|
  TblOk.cons Go.Proofs.Try.func125 a125_ok a125_body <|
  TblOk.cons Go.Proofs.Try.func126 a126_ok a126_body <|
  TblOk.cons Go.Proofs.Try.func127 a127_ok a127_body <|
  TblOk.cons Go.Proofs.Try.func128 a128_ok a128_body <|
  TblOk.cons Go.Proofs.Try.func129 a129_ok a129_body <|
  TblOk.cons Go.Proofs.Try.func130 a130_ok a130_body <|
  TblOk.cons Go.Proofs.Try.func131 a131_ok a131_body <|
  TblOk.cons Go.Proofs.Try.func132 a132_ok a132_body <|
  TblOk.cons Go.Proofs.Try.func133 a133_ok a133_body <|
  TblOk.cons Go.Proofs.Try.func134 a134_ok a134_body <|
  TblOk.cons Go.Proofs.Try.func135 a135_ok a135_body <|
  TblOk.nil
theorem tbl_6 : tbl 6 = some a6 := by rfl
theorem tbl_21 : tbl 21 = some a21 := by rfl
theorem tbl_22 : tbl 22 = some a22 := by rfl
theorem tbl_23 : tbl 23 = some a23 := by rfl
theorem tbl_24 : tbl 24 = some a24 := by rfl
theorem tbl_25 : tbl 25 = some a25 := by rfl
theorem tbl_27 : tbl 27 = some a27 := by rfl
theorem tbl_30 : tbl 30 = some a30 := by rfl
theorem tbl_32 : tbl 32 = some a32 := by rfl
theorem tbl_33 : tbl 33 = some a33 := by rfl
theorem tbl_38 : tbl 38 = some a38 := by rfl
theorem tbl_40 : tbl 40 = some a40 := by rfl
theorem tbl_41 : tbl 41 = some a41 := by rfl
theorem tbl_42 : tbl 42 = some a42 := by rfl
theorem tbl_43 : tbl 43 = some a43 := by rfl
theorem tbl_44 : tbl 44 = some a44 := by rfl
theorem tbl_45 : tbl 45 = some a45 := by rfl
theorem tbl_48 : tbl 48 = some a48 := by rfl
theorem tbl_50 : tbl 50 = some a50 := by rfl
theorem tbl_51 : tbl 51 = some a51 := by rfl
theorem tbl_52 : tbl 52 = some a52 := by rfl
theorem tbl_53 : tbl 53 = some a53 := by rfl
theorem tbl_54 : tbl 54 = some a54 := by rfl
theorem tbl_59 : tbl 59 = some a59 := by rfl
theorem tbl_60 : tbl 60 = some a60 := by rfl
theorem tbl_61 : tbl 61 = some a61 := by rfl
theorem tbl_63 : tbl 63 = some a63 := by rfl
theorem tbl_71 : tbl 71 = some a71 := by rfl
theorem tbl_72 : tbl 72 = some a72 := by rfl
theorem tbl_73 : tbl 73 = some a73 := by rfl
theorem tbl_74 : tbl 74 = some a74 := by rfl
theorem tbl_75 : tbl 75 = some a75 := by rfl
theorem tbl_76 : tbl 76 = some a76 := by rfl
theorem tbl_79 : tbl 79 = some a79 := by rfl
theorem tbl_80 : tbl 80 = some a80 := by rfl
theorem tbl_81 : tbl 81 = some a81 := by rfl
theorem tbl_82 : tbl 82 = some a82 := by rfl
theorem tbl_84 : tbl 84 = some a84 := by rfl
theorem tbl_85 : tbl 85 = some a85 := by rfl
theorem tbl_86 : tbl 86 = some a86 := by rfl
theorem tbl_87 : tbl 87 = some a87 := by rfl
theorem tbl_88 : tbl 88 = some a88 := by rfl
theorem tbl_89 : tbl 89 = some a89 := by rfl
theorem tbl_90 : tbl 90 = some a90 := by rfl
theorem tbl_91 : tbl 91 = some a91 := by rfl
theorem tbl_92 : tbl 92 = some a92 := by rfl
theorem tbl_95 : tbl 95 = some a95 := by rfl
theorem tbl_96 : tbl 96 = some a96 := by rfl
theorem tbl_97 : tbl 97 = some a97 := by rfl
theorem tbl_98 : tbl 98 = some a98 := by rfl
theorem tbl_99 : tbl 99 = some a99 := by rfl
theorem tbl_100 : tbl 100 = some a100 := by rfl
theorem tbl_101 : tbl 101 = some a101 := by rfl
theorem tbl_102 : tbl 102 = some a102 := by rfl
theorem tbl_106 : tbl 106 = some a106 := by rfl
theorem tbl_107 : tbl 107 = some a107 := by rfl
theorem tbl_108 : tbl 108 = some a108 := by rfl
theorem tbl_109 : tbl 109 = some a109 := by rfl
theorem tbl_110 : tbl 110 = some a110 := by rfl
theorem tbl_111 : tbl 111 = some a111 := by rfl
theorem tbl_112 : tbl 112 = some a112 := by rfl
theorem tbl_113 : tbl 113 = some a113 := by rfl
theorem tbl_114 : tbl 114 = some a114 := by rfl
theorem tbl_115 : tbl 115 = some a115 := by rfl
theorem tbl_116 : tbl 116 = some a116 := by rfl
theorem tbl_117 : tbl 117 = some a117 := by rfl
theorem tbl_118 : tbl 118 = some a118 := by rfl
theorem tbl_119 : tbl 119 = some a119 := by rfl
theorem tbl_120 : tbl 120 = some a120 := by rfl
theorem tbl_121 : tbl 121 = some a121 := by rfl
theorem tbl_122 : tbl 122 = some a122 := by rfl
theorem tbl_123 : tbl 123 = some a123 := by rfl
theorem tbl_124 : tbl 124 = some a124 := by rfl
theorem tbl_125 : tbl 125 = some a125 := by rfl
theorem tbl_126 : tbl 126 = some a126 := by rfl
theorem tbl_129 : tbl 129 = some a129 := by rfl
theorem tbl_130 : tbl 130 = some a130 := by rfl
theorem tbl_131 : tbl 131 = some a131 := by rfl
theorem tbl_132 : tbl 132 = some a132 := by rfl
theorem tbl_133 : tbl 133 = some a133 := by rfl
theorem tbl_134 : tbl 134 = some a134 := by rfl
end Go.Proofs.Ytlhfeiacigmliaa
