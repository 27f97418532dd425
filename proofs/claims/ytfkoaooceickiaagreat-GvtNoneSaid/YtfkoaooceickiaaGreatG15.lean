/- Parts of the proof: Kgf. -/
import Derived.Test.YtfkoaooceickiaaGreatG13
set_option linter.all false
set_option maxRecDepth 100000
namespace Go.Proofs.YtfkoaooceickiaaGreat
section
set_option maxRecDepth 1000000
noncomputable section
namespace Kv
def gfk0 : AV := (.agg [(.fl 0x4008000000000000), (.int 3 0xffffffffffffffff), (.int 3 1), (.int 3 0), (.int 3 3), (.bl false)])
def gfk1 : Nat := 0x80000000000000015c3d2b6800000000000000000000000000000000000000000000000000000000000000000000000000000000000000008000000000000001
def gfk2 : Nat := 0xeb9bbe7d8000000000000000800000000000000200000002000100e700e700010000000000000000000000000000000000000000000000000000000000000000
def gfk3 : RT AV := (.n 2 (.n 1 (.l (.ba 64 gfk1)) (.l (.ba 64 0))) (.n 1 (.l (.ba 64 gfk2)) (.l (.ba 64 0))))
def gfk4 : RT AV := (.n 2 (.n 1 (.l (.ba 64 0)) (.l (.ba 64 1))) (.mk (.ba 64 0) 1))
def gfk5 : RT AV := (.n 16 (.n 8 (.n 4 gfk3 gfk4) (.mk (.ba 64 0) 3)) (.mk (.ba 64 0) 4))
def gfk6 : RT AV := (.n 128 (.n 64 (.n 32 gfk5 (.mk (.ba 64 0) 5)) (.mk (.ba 64 0) 6)) (.mk (.ba 64 0) 7))
def gfk7 : RT AV := (.n 1024 (.n 512 (.n 256 gfk6 (.mk (.ba 64 0) 8)) (.mk (.ba 64 0) 9)) (.mk (.ba 64 0) 10))
def gfk8 : RT AV := (.n 4 (.n 2 (.mk (.bl false) 1) (.mk (.bl true) 1)) (.n 2 (.mk (.bl true) 1) (.mk (.bl false) 1)))
def gfk9 : RT AV := (.n 32 (.n 16 (.n 8 gfk8 (.mk (.bl false) 3)) (.mk (.bl false) 4)) (.mk (.bl false) 5))
def gfk10 : RT AV := (.n 256 (.n 128 (.n 64 gfk9 (.mk (.bl false) 6)) (.mk (.bl false) 7)) (.mk (.bl false) 8))
def gfk11 : RT AV := (.n 1024 (.n 512 gfk10 (.mk (.bl false) 9)) (.mk (.bl false) 10))
def gfk12 : PT := (.n (.l (.row 64 1202 (.mk (.ba 64 0) 11))) (.l (.row 1 1202 gfk11)))
def gfk13 : AV := (.agg [(.sl 9 0 1202 1202), (.sl 10 0 1202 1202), (.sl 11 0 1202 1202), (.int 3 0), (.int 3 7), (.bl false)])
def gfk14 : AV := (.agg [(.ptr 12 0), (.ptr 15 0), (.sf 219 0 1 1), .nils, .nils, (.int 3 1), (.int 3 0), (.bl false)])
def gfk15 : RT AV := (.n 2 (.n 1 (.l (.int 3 2)) (.l (.int 3 0))) (.mk (.int 3 0) 1))
def gfk16 : RT AV := (.n 16 (.n 8 (.n 4 gfk15 (.mk (.int 3 0) 2)) (.mk (.int 3 0) 3)) (.mk (.int 3 0) 4))
def gfk17 : RT AV := (.n 128 (.n 64 (.n 32 gfk16 (.mk (.int 3 0) 5)) (.mk (.int 3 0) 6)) (.mk (.int 3 0) 7))
def gfk18 : PT := (.n (.l (.row 1 300 (.n 256 gfk17 (.mk (.int 3 0) 8)))) (.l (.row 1 1 (.l (.agg [(.sl 14 0 300 300)])))))
def gfk19 : PT := (.n (.n (.l (.row 6 1 (.l gfk13))) (.l (.row 8 1 (.l gfk14)))) gfk18)
def gfk20 : PT := (.n (.n .d (.n (.n (.n .d (.l (.row 64 1202 gfk7))) gfk12) gfk19)) .d)
def gfk21 : Blk := (.row 3 1 (.l (.agg [(.ptr 13 0), (.sf 145 0 5 5), (.int 3 0)])))
def gfk22 : Nat := 0x7003400e7000100d1001600b3001e0094001f006d00270045002800340011000000000000000000000000000000000000000006480073656e74000080000000000000010a46008000000000000000000000c014000000000000008000000000000000008000000000000005024501000000800000000000000001800000000000000080000000000000008000000000000000024500000000800000000000000000800000000000000080000000000000000244010000018000000000000000800000000000000080000000000000000244000000008000000000000000800000000000000001
def gfk23 : AV := (.agg [(.int 3 0), (.str 232 gfk22), (.int 3 0), (.bl true), (.bl true)])
def gfk24 : AV := (.agg [(.int 3 0xffffffffffffffff), (.str 0 0), (.int 3 0), (.bl false), (.bl false)])
def gfk25 : AV := (.agg [(.int 3 0), (.str 0 0), (.int 3 0), (.bl false), (.bl false)])
def gfk26 : RT AV := (.n 4 (.n 2 (.n 1 (.l gfk23) (.l gfk24)) (.mk gfk24 1)) (.n 2 (.n 1 (.l gfk24) (.l gfk25)) (.mk gfk25 1)))
def gfk27 : PT := (.n (.n .d (.l (.row 5 5 gfk26))) (.n (.l (.row 1 1 (.l (.agg [(.ptr 130 0)])))) .d))
def gfk28 : PT := (.n (.n (.n (.n .d (.n (.l gfk21) .d)) .d) .d) (.n (.n gfk27 .d) .d))
def gfk29 : PT := (.n .d (.n (.n .d (.n .d (.l (.row 1 1 (.l (.int 3 0)))))) .d))
def gfk30 : PT := (.n (.n (.n gfk20 .d) .d) (.n (.n gfk28 .d) (.n (.n .d gfk29) .d)))
def gfk31 : Blk := (.row 3 1 (.l (.agg [(.ptr 146 0), (.ptr 130 0), (.bl true)])))
def gfk32 : PT := (.n (.n .d (.l gfk31)) (.n (.l (.row 1 1 (.l (.agg [(.ptr 261 0)])))) .d))
def gfk33 : Blk := (.row 2 1 (.l (.agg [(.sf 278 0 2 1), (.sf 292 0 2 6)])))
def gfk34 : AV := (.agg [(.ptr 261 0), (.int 3 0), (.fl 0x4034000000000000), (.sl 3 0 1 1), (.sl 4 0 2 2), (.sl 6 0 2 2), (.sl 7 0 2 2), (.sf 1498 0 2 1), (.ptr 262 0), (.ptr 264 0), (.bl false)])
def gfk35 : PT := (.n (.n (.n .d (.n (.n .d (.l (.row 11 1 (.l gfk34)))) .d)) .d) .d)
def gfk36 : PT := (.n (.n (.n (.n .d gfk32) (.n (.n (.n (.l gfk33) .d) .d) .d)) .d) gfk35)
def gfk37 : AV := (.agg [(.ptr 261 0), (.int 3 0), (.fl 0x4034000000000000), (.sf 332 0 1 1), (.sf 338 0 2 1), (.sf 345 0 2 2), (.sf 346 0 2 3), (.int 3 0), (.ptr 348 0), (.ptr 349 0)])
def gfk38 : PT := (.n (.l (.row 2 1 (.l (.agg [(.ptr 261 0), (.int 3 0)])))) .d)
def gfk39 : AV := (.agg [(.ptr 347 0), (.ptr 351 0), (.ptr 352 0), (.ptr 353 0)])
def gfk40 : PT := (.n (.n .d (.n .d (.l (.row 10 1 (.l gfk37))))) (.n gfk38 (.n (.l (.row 4 1 (.l gfk39))) .d)))
def gfk41 : Blk := (.row 3 1 (.l (.agg [(.ptr 261 0), (.int 3 2), (.int 3 0)])))
def gfk42 : PT := (.n (.n .d (.n .d gfk40)) (.n (.n (.n (.n (.n (.l gfk41) .d) .d) .d) .d) .d))
def gfk43 : Blk := (.row 1 2 (.n 1 (.l (.ptr 350 0)) (.l (.ptr 756 0))))
def gfk44 : PT := (.n .d (.n (.n .d (.n .d (.n (.n .d (.n (.l gfk43) .d)) .d))) .d))
def gfk45 : PT := (.n (.n (.n gfk30 (.n (.n gfk36 gfk42) .d)) .d) (.n (.n .d (.n .d gfk44)) .d))
def gfk46 : Nat := 0xddad694480000000000000018000000000000002000000020005006d00e7000100d1001600b3001e0094001f006d002700000000000000000000000000000000
def gfk47 : RT AV := (.n 2 (.n 1 (.l (.ba 64 0)) (.l (.ba 64 1))) (.n 1 (.l (.ba 64 gfk46)) (.l (.ba 64 0))))
def gfk48 : Nat := 0x245010000008000000000000000018000000000000000800000000000000080000000000000000245000000008000000000000000008000000000
def gfk49 : Nat := 0x80000000000000000244010000018000000000000000800000000000000080000000000000000244000000008000000000000000800000000000000001
def gfk50 : Nat := 0xc3ca379a80000000000000028000000000000002000000020004008600e7000100bf002800970028008600110000000000000000000000000000000000000000
def gfk51 : RT AV := (.n 2 (.n 1 (.l (.ba 64 gfk48)) (.l (.ba 64 gfk49))) (.n 1 (.l (.ba 64 gfk50)) (.l (.ba 64 0))))
def gfk52 : Nat := 0x6480073656e74000080000000000000020a46008000000000000001000000c00800
def gfk53 : Nat := 0x80000000000000010080000000000000030a46008000000000000000000000c01400000000000000800000000000000000800000000000000501
def gfk54 : RT AV := (.n 2 (.n 1 (.l (.ba 64 gfk52)) (.l (.ba 64 gfk53))) (.mk (.ba 64 0) 1))
def gfk55 : RT AV := (.n 16 (.n 8 (.n 4 gfk3 gfk47) (.n 4 gfk51 gfk54)) (.mk (.ba 64 0) 4))
def gfk56 : RT AV := (.n 128 (.n 64 (.n 32 gfk55 (.mk (.ba 64 0) 5)) (.mk (.ba 64 0) 6)) (.mk (.ba 64 0) 7))
def gfk57 : RT AV := (.n 1024 (.n 512 (.n 256 gfk56 (.mk (.ba 64 0) 8)) (.mk (.ba 64 0) 9)) (.mk (.ba 64 0) 10))
def gfk58 : AV := (.agg [(.sl 9 0 1202 1202), (.sl 10 0 1202 1202), (.sl 11 0 1202 1202), (.int 3 0), (.int 3 15), (.bl false)])
def gfk59 : AV := (.agg [(.ptr 12 0), (.ptr 15 0), (.sf 5825 0 3 1), .nils, .nils, (.int 3 1), (.int 3 0), (.bl false)])
def gfk60 : PT := (.n (.n (.l (.row 6 1 (.l gfk58))) (.l (.row 8 1 (.l gfk59)))) .d)
def gfk61 : PT := (.n (.n .d (.n (.n (.n .d (.l (.row 64 1202 gfk57))) .d) gfk60)) .d)
def gfk62 : Nat := 0x300d700e7000100e4000300d7000d000000000000000000000000000000000000000000000000000000000000000000000000000000000000000000000000000000000000000000000000000000000000000000000000000000000000000000000000000000000000000000000000000000000000000000000000000000000000000000000000000000000000000000000000000000000000000000000000000000000000000000000000000000000000000000000000000000000000000000000000000000000000000000000000000000000000000a46008000000000000000000300000202
def gfk63 : AV := (.agg [(.int 3 0), (.str 232 gfk62), (.int 3 0), (.bl true), (.bl true)])
def gfk64 : RT AV := (.n 4 (.n 2 (.n 1 (.l gfk63) (.l gfk24)) (.mk gfk24 1)) (.n 2 (.n 1 (.l gfk24) (.l gfk25)) (.mk gfk25 1)))
def gfk65 : PT := (.n (.n .d (.l (.row 5 5 gfk64))) (.n (.l (.row 1 1 (.l (.agg [(.ptr 130 0)])))) .d))
def gfk66 : PT := (.n (.n (.n (.n .d (.n (.l gfk21) .d)) .d) .d) (.n (.n gfk65 .d) .d))
def gfk67 : PT := (.n (.n (.n (.n gfk61 .d) .d) (.n (.n gfk66 .d) .d)) (.n (.n gfk36 gfk42) .d))
def gfk68 : RT AV := (.n 2 (.n 1 (.l (.int 3 0)) (.l (.int 3 1))) (.n 1 (.l (.int 3 2)) (.l (.int 3 0))))
def gfk69 : PT := (.n (.n (.n (.n (.n (.n .d (.l (.row 1 3 gfk68))) .d) .d) .d) .d) .d)
def gfk70 : PT := (.n (.n (.n (.n gfk67 .d) (.n (.n .d (.n .d gfk44)) .d)) .d) (.n (.n .d (.n .d (.n (.n .d (.n .d gfk69)) .d))) .d))
def gfe0 : Ent := ⟨91, [(.ptr 262 0), gfk0], 12, (.n gfk45 .d), 2962, (.int 3 0), 13, gfk70, 5916⟩
theorem gfb0 : segB Tryz.prog Sb [] gfe0 = true := by decide +kernel
theorem gfs0 : EntOK Tryz.prog gfe0 := seg_ok P_mixed P_noNum Sb_ok EL.nil gfb0
def gfk71 : AV := (.agg [(.int 3 0), (.fl 0x4034000000000000), (.sl 3 0 1 1), (.sl 4 0 2 2), (.sl 6 0 2 2), (.sl 7 0 2 2)])
def gfk72 : RT AV := (.n 1 (.l (.agg [(.int 3 1), (.int 3 5), (.int 3 1), (.int 3 0)])) (.l (.agg [(.int 3 12), (.int 3 5), (.int 3 6), (.int 3 0)])))
def gfk73 : RT AV := (.n 1 (.l (.agg [(.int 3 13), (.int 3 4), (.int 3 5), (.int 3 0)])) (.l (.agg [(.int 3 3), (.int 3 4), (.int 3 4), (.int 3 0)])))
def gfk74 : RT AV := (.n 1 (.l (.agg [(.int 3 14), (.int 3 5), (.int 3 4), (.int 3 0)])) (.l (.agg [(.int 3 0), (.int 3 0), (.int 3 0), (.int 3 0)])))
def gfk75 : PT := (.n (.l (.row 4 3 (.n 2 gfk73 gfk74))) (.l (.row 1 1 (.l (.fl 0x3ff0000000000000)))))
def gfk76 : Blk := (.row 1 2 (.n 1 (.l (.sl 1 0 2 2)) (.l (.sl 2 0 3 3))))
def gfk77 : RT AV := (.n 1 (.l (.agg [(.int 3 0), .nils])) (.l (.agg [(.int 3 1), (.sl 5 0 1 1)])))
def gfk78 : RT AV := (.n 1 (.l (.agg [(.fl 0x4014000000000000), (.int 3 0), (.int 3 5)])) (.l (.agg [(.fl 0x4008000000000000), (.int 3 0), (.int 3 3)])))
def gfk79 : PT := (.n (.n (.l gfk76) (.l (.row 1 1 (.l (.int 3 0))))) (.n (.l (.row 2 2 gfk77)) (.l (.row 3 2 gfk78))))
def gfk80 : PT := (.n (.n (.n (.n gfk61 .d) .d) (.n (.n gfk66 .d) .d)) (.n (.n (.n (.n (.n (.n .d gfk32) .d) .d) gfk35) gfk42) .d))
def gfk81 : PT := (.n (.n (.n (.n gfk80 .d) (.n (.n .d (.n .d gfk44)) .d)) .d) (.n (.n .d (.n .d (.n (.n .d (.n .d gfk69)) .d))) .d))
def gfe1 : Ent := ⟨28, [gfk71], 4, (.n (.n (.n (.n .d (.l (.row 4 2 gfk72))) gfk75) gfk79) .d), 8, (.ptr 293 0), 13, gfk81, 5916⟩
theorem gfb1 : segB Tryz.prog Sb [gfe0] gfe1 = true := by decide +kernel
theorem gfs1 : EntOK Tryz.prog gfe1 := seg_ok P_mixed P_noNum Sb_ok (EL.cons gfs0 EL.nil) gfb1
def gfk82 : AV := (.agg [(.sl 5925 0 1202 1202), (.sl 5926 0 1202 1202), (.sl 5927 0 1202 1202), (.int 3 0), (.int 3 7), (.bl false)])
def gfk83 : AV := (.agg [(.ptr 5928 0), (.ptr 5931 0), (.sf 6135 0 1 1), .nils, .nils, (.int 3 1), (.int 3 0), (.bl false)])
def gfk84 : PT := (.n (.l (.row 1 300 (.n 256 gfk17 (.mk (.int 3 0) 8)))) (.l (.row 1 1 (.l (.agg [(.sl 5930 0 300 300)])))))
def gfk85 : PT := (.n (.n (.l (.row 6 1 (.l gfk82))) (.l (.row 8 1 (.l gfk83)))) gfk84)
def gfk86 : PT := (.n (.n .d (.n (.n .d (.l (.row 64 1202 gfk7))) gfk12)) (.n gfk85 .d))
def gfk87 : Blk := (.row 3 1 (.l (.agg [(.ptr 5929 0), (.sf 6061 0 5 5), (.int 3 0)])))
def gfk88 : PT := (.n (.n .d (.l (.row 5 5 gfk26))) (.n (.l (.row 1 1 (.l (.agg [(.ptr 6046 0)])))) .d))
def gfk89 : PT := (.n (.n .d (.n .d (.n .d (.n .d (.n (.l gfk87) .d))))) (.n (.n .d (.n .d gfk88)) .d))
def gfk90 : PT := (.n (.n .d (.n .d (.n .d (.l (.row 1 1 (.l (.int 3 0))))))) .d)
def gfk91 : PT := (.n (.n (.n .d (.n gfk86 .d)) .d) (.n gfk89 (.n .d (.n .d gfk90))))
def gfk92 : Blk := (.row 3 1 (.l (.agg [(.ptr 6062 0), (.ptr 6046 0), (.bl true)])))
def gfk93 : PT := (.n (.n .d (.l gfk92)) (.n (.l (.row 1 1 (.l (.agg [(.ptr 6177 0)])))) .d))
def gfk94 : Blk := (.row 2 1 (.l (.agg [(.sf 6194 0 2 1), (.sf 6208 0 2 6)])))
def gfk95 : PT := (.n (.n (.l gfk94) .d) (.n (.l (.row 2 1 (.l (.agg [(.int 3 0), .nils])))) .d))
def gfk96 : AV := (.agg [(.int 3 0), (.fl 0x4034000000000000), (.sl 5919 0 1 1), (.sl 5920 0 2 2), (.sl 5922 0 2 2), (.sl 5923 0 2 2), (.int 3 0), (.ptr 6182 0), (.str 0 0), (.int 3 0), (.sl 6183 0 1 1)])
def gfk97 : Blk := (.row 3 1 (.l (.agg [(.ptr 6184 0), .nils, .nils])))
def gfk98 : PT := (.n (.n gfk93 gfk95) (.n (.n (.n (.l (.row 11 1 (.l gfk96))) (.l gfk97)) .d) .d))
def gfk99 : Blk := (.row 1 2 (.n 1 (.l (.ptr 6185 0)) (.l (.ptr 6192 0))))
def gfk100 : AV := (.agg [(.fl 0x4014000000000000), (.int 3 0xffffffffffffffff), (.int 3 0), (.int 3 0), (.int 3 5), (.bl false)])
def gfk101 : AV := (.agg [(.ptr 6177 0), (.int 3 0), (.fl 0x4034000000000000), (.sl 5919 0 1 1), (.sl 5920 0 2 2), (.sl 5922 0 2 2), (.sl 5923 0 2 2), (.sf 7414 0 2 1), (.ptr 6178 0), (.ptr 6180 0), (.bl false)])
def gfk102 : PT := (.n (.l (.row 6 2 (.n 1 (.l gfk100) (.l gfk0)))) (.l (.row 11 1 (.l gfk101))))
def gfk103 : AV := (.agg [(.ptr 6177 0), (.int 3 0), (.fl 0x4034000000000000), (.sf 6248 0 1 1), (.sf 6254 0 2 1), (.sf 6261 0 2 2), (.sf 6262 0 2 3), (.int 3 0), (.ptr 6264 0), (.ptr 6265 0)])
def gfk104 : Blk := (.row 2 1 (.l (.agg [(.ptr 6177 0), (.int 3 0)])))
def gfk105 : AV := (.agg [(.ptr 6263 0), (.ptr 6267 0), (.ptr 6268 0), (.ptr 6269 0)])
def gfk106 : Blk := (.row 3 1 (.l (.agg [(.ptr 6177 0), (.int 3 2), (.int 3 0)])))
def gfk107 : PT := (.n (.n (.n (.l gfk104) .d) (.n (.l (.row 4 1 (.l gfk105))) .d)) (.n (.n (.l gfk106) .d) .d))
def gfk108 : PT := (.n (.n .d (.n .d (.n .d (.l (.row 10 1 (.l gfk103)))))) gfk107)
def gfk109 : PT := (.n (.n .d (.n gfk98 (.n (.n (.n .d (.n (.l gfk99) .d)) .d) .d))) (.n (.n (.n (.n (.n gfk102 .d) .d) .d) .d) (.n .d gfk108)))
def gfk110 : AV := (.agg [(.ptr 6177 0), (.int 3 0), (.fl 0x4034000000000000), (.sf 6654 0 1 1), (.sf 6660 0 2 1), (.sf 6667 0 2 2), (.sf 6668 0 2 3), (.int 3 1), (.ptr 6670 0), (.ptr 6671 0)])
def gfk111 : Blk := (.row 2 1 (.l (.agg [(.ptr 6177 0), (.int 3 1)])))
def gfk112 : PT := (.n .d (.n (.n .d (.l (.row 10 1 (.l gfk110)))) (.n (.l gfk111) .d)))
def gfk113 : AV := (.agg [(.ptr 6669 0), (.ptr 6673 0), (.ptr 6674 0), (.ptr 6675 0)])
def gfk114 : Blk := (.row 3 1 (.l (.agg [(.ptr 6177 0), (.int 3 2), (.int 3 1)])))
def gfk115 : PT := (.n (.n (.n (.l (.row 4 1 (.l gfk113))) .d) (.n (.l gfk114) .d)) .d)
def gfk116 : PT := (.n (.n (.n (.n (.n (.n .d gfk112) (.n gfk115 .d)) .d) .d) .d) .d)
def gfk117 : Blk := (.row 1 2 (.n 1 (.l (.ptr 6266 0)) (.l (.ptr 6672 0))))
def gfk118 : PT := (.n .d (.n .d (.n .d (.n (.n .d (.n .d (.n (.l gfk117) .d))) .d))))
def gfk119 : PT := (.n (.n (.n (.n gfk109 .d) .d) gfk116) (.n (.n (.n .d gfk118) .d) .d))
def gfk120 : PT := (.n (.n (.n (.n gfk80 .d) (.n (.n .d (.n .d gfk44)) .d)) .d) (.n (.n .d (.n .d (.n (.n .d (.n .d gfk69)) gfk91))) gfk119))
def gfk121 : AV := (.agg [(.sl 5925 0 1202 1202), (.sl 5926 0 1202 1202), (.sl 5927 0 1202 1202), (.int 3 0), (.int 3 15), (.bl false)])
def gfk122 : AV := (.agg [(.ptr 5928 0), (.ptr 5931 0), (.sf 11741 0 3 1), .nils, .nils, (.int 3 1), (.int 3 0), (.bl false)])
def gfk123 : PT := (.n (.n (.l (.row 6 1 (.l gfk121))) (.l (.row 8 1 (.l gfk122)))) .d)
def gfk124 : PT := (.n (.n .d (.n (.n .d (.l (.row 64 1202 gfk57))) .d)) (.n gfk123 .d))
def gfk125 : PT := (.n (.n .d (.l (.row 5 5 gfk64))) (.n (.l (.row 1 1 (.l (.agg [(.ptr 6046 0)])))) .d))
def gfk126 : PT := (.n (.n .d (.n .d (.n .d (.n .d (.n (.l gfk87) .d))))) (.n (.n .d (.n .d gfk125)) .d))
def gfk127 : PT := (.n (.n .d (.n .d gfk69)) (.n (.n (.n .d (.n gfk124 .d)) .d) (.n gfk126 .d)))
def gfk128 : PT := (.n (.n (.n (.n gfk80 .d) (.n (.n .d (.n .d gfk44)) .d)) .d) (.n (.n .d (.n .d gfk127)) gfk119))
def gfk129 : PT := (.n (.n .d (.n .d (.n .d (.n (.n .d (.l (.row 1 3 gfk68))) .d)))) .d)
def gfk130 : PT := (.n (.n .d (.n .d (.n (.n .d (.n .d (.n .d gfk129))) .d))) .d)
def gfe2 : Ent := ⟨91, [(.ptr 6178 0), gfk0], 14, (.n gfk120 .d), 8878, (.int 3 0), 14, (.n gfk128 gfk130), 11832⟩
theorem gfb2 : segB Tryz.prog Sb [] gfe2 = true := by decide +kernel
theorem gfs2 : EntOK Tryz.prog gfe2 := seg_ok P_mixed P_noNum Sb_ok EL.nil gfb2
def gfk131 : AV := (.agg [(.int 3 0), (.fl 0x4034000000000000), (.sl 5919 0 1 1), (.sl 5920 0 2 2), (.sl 5922 0 2 2), (.sl 5923 0 2 2)])
def gfk132 : PT := (.n .d (.n .d (.n .d (.n (.n .d (.l (.row 4 2 gfk72))) gfk75))))
def gfk133 : Blk := (.row 1 2 (.n 1 (.l (.sl 5917 0 2 2)) (.l (.sl 5918 0 3 3))))
def gfk134 : RT AV := (.n 1 (.l (.agg [(.int 3 0), .nils])) (.l (.agg [(.int 3 1), (.sl 5921 0 1 1)])))
def gfk135 : PT := (.n (.n (.l gfk133) (.l (.row 1 1 (.l (.int 3 0))))) (.n (.l (.row 2 2 gfk134)) (.l (.row 3 2 gfk78))))
def gfk136 : PT := (.n (.n .d (.n .d gfk69)) (.n (.n (.n gfk132 (.n (.n (.n gfk135 .d) .d) .d)) .d) .d))
def gfk137 : PT := (.n (.n (.n (.n gfk80 .d) (.n (.n .d (.n .d gfk44)) .d)) .d) (.n (.n .d (.n .d gfk136)) .d))
def gfe3 : Ent := ⟨28, [gfk131], 13, gfk137, 5924, (.ptr 6209 0), 14, (.n gfk128 gfk130), 11832⟩
theorem gfb3 : segB Tryz.prog Sb [gfe2] gfe3 = true := by decide +kernel
theorem gfs3 : EntOK Tryz.prog gfe3 := seg_ok P_mixed P_noNum Sb_ok (EL.cons gfs2 EL.nil) gfb3
def gfk138 : Nat := 0x5006d00e7000100d1001600b3001e0094001f006d002700000000000000000000000000000000000000000000000000000000000000000000000000000000000000000000000000000000000000000000000000000000000000000000000000000000000000000000000000024501000000800000000000000001800000000000000080000000000000008000000000000000024500000000800000000000000000800000000000000080000000000000000244010000018000000000000000800000000000000080000000000000000244000000008000000000000000800000000000000001
def gfk139 : AV := (.agg [(.int 3 1), (.str 232 gfk138), (.int 3 0), (.bl false), (.bl true)])
def gfk140 : Nat := 0x4008600e7000100bf0028009700280086001100000000000000000000000000000000000000000000000000000000000000000000000000000000000000000000000000000000000000000000000000000000000000000000000000000000000000000000000000000000000000000000000000000000000000000000000000000000000006480073656e74000080000000000000020a46008000000000000001000000c0080000000000000080000000000000010080000000000000030a46008000000000000000000000c01400000000000000800000000000000000800000000000000501
def gfk141 : AV := (.agg [(.int 3 2), (.str 232 gfk140), (.int 3 0), (.bl false), (.bl true)])
def gfk142 : RT AV := (.n 4 (.n 2 (.n 1 (.l gfk63) (.l gfk139)) (.n 1 (.l gfk141) (.l gfk24))) (.n 2 (.n 1 (.l gfk24) (.l gfk25)) (.mk gfk25 1)))
def gfk143 : PT := (.n (.n .d (.l (.row 5 5 gfk142))) (.n (.l (.row 1 1 (.l (.agg [(.ptr 6046 0)])))) .d))
def gfk144 : PT := (.n (.n .d (.n .d (.n .d (.n .d (.n (.l gfk87) .d))))) (.n (.n .d (.n .d gfk143)) .d))
def gfk145 : PT := (.n .d (.n .d (.n (.n .d (.n .d gfk69)) (.n .d (.n gfk144 .d)))))
def gfk146 : PT := (.n (.n (.n (.n gfk80 .d) (.n (.n .d (.n .d gfk44)) .d)) .d) (.n gfk145 gfk119))
def gfk147 : Nat := 0x6004700e7000100c1002600ab0016008d001e006e001f004700270000000000000000000000000000000000000000000000000000000000000000000000000000000000000002450100000080000000000000000180000000000000008000000000000000800000000000000002450000000080000000000000000080000000000000008000000000000000024401000001800000000000000080000000000000008000000000000000024400000000800000000000000080000000000000001b4100c00800000000000000800000000000000180000000000000030000800000000000000101
def gfk148 : AV := (.agg [(.int 3 1), (.str 232 gfk147), (.int 3 0), (.bl true), (.bl true)])
def gfk149 : Nat := 0x300ae00e7000100bf002800ae0011000000000000000000000000000000000000000000000000000000000000000000000000000000000000000000000000000000000000000000000000000000000000000000000000000000000000000000000000000000000000000000000000000000000000000000000000000000000000000000000000000000000000000000000000000000000000000000000000000000000000000000000000000006480073656e74000080000000000000020a46008000000000000000000000c01400000000000000800000000000000000800000000000000501
def gfk150 : AV := (.agg [(.int 3 2), (.str 232 gfk149), (.int 3 0), (.bl true), (.bl true)])
def gfk151 : RT AV := (.n 4 (.n 2 (.n 1 (.l gfk63) (.l gfk148)) (.n 1 (.l gfk150) (.l gfk24))) (.n 2 (.n 1 (.l gfk24) (.l gfk25)) (.mk gfk25 1)))
def gfk152 : PT := (.n (.n .d (.l (.row 5 5 gfk151))) (.n (.l (.row 1 1 (.l (.agg [(.ptr 6046 0)])))) .d))
def gfk153 : PT := (.n (.n .d (.n .d (.n .d (.n .d (.n (.l gfk87) .d))))) (.n (.n .d (.n .d gfk152)) .d))
def gfk154 : PT := (.n .d (.n .d (.n (.n .d (.n .d gfk69)) (.n .d (.n gfk153 .d)))))
def gfk155 : Blk := (.row 2 1 (.l (.agg [(.sf 6194 0 2 1), (.sf 16764 0 1 6)])))
def gfk156 : Blk := (.row 2 1 (.l (.agg [(.int 3 0), (.sf 16846 0 1 7)])))
def gfk157 : PT := (.n (.n gfk93 (.n (.n (.l gfk155) .d) (.n (.l gfk156) .d))) (.n (.n (.n (.l (.row 11 1 (.l gfk96))) (.l gfk97)) .d) .d))
def gfk158 : PT := (.n (.n (.n (.n (.n .d (.l (.row 11 1 (.l gfk101)))) .d) .d) .d) .d)
def gfk159 : PT := (.n (.n .d (.n gfk157 (.n (.n (.n .d (.n (.l gfk99) .d)) .d) .d))) (.n gfk158 (.n .d gfk108)))
def gfk160 : PT := (.n (.n (.n (.n gfk159 .d) .d) gfk116) (.n (.n (.n .d gfk118) .d) .d))
def gfk161 : PT := (.n (.n (.n (.n gfk80 .d) (.n (.n .d (.n .d gfk44)) .d)) .d) (.n gfk154 gfk160))
def gfk162 : PT := (.n .d (.n .d (.n .d (.n (.n (.l (.row 6 1 (.l gfk100))) .d) .d))))
def gfk163 : Nat := 0xc0080000000000000080000000000000018000000000000003
def gfk164 : AV := (.agg [(.str 25 gfk163), (.fl 0x4008000000000000), (.int 3 0xffffffffffffffff), (.int 3 1), (.int 3 0), (.int 3 3), (.int 3 1)])
def gfk165 : PT := (.n (.n .d (.n .d (.n .d (.n (.l (.row 7 1 (.l gfk164))) .d)))) .d)
def gfk166 : PT := (.n (.n .d (.n (.n .d (.n .d gfk162)) (.n .d (.n gfk165 .d)))) .d)
def gfe4 : Ent := ⟨80, [(.ptr 6209 0), (.agg [(.int 3 0), (.int 3 1), (.bl false)])], 14, (.n gfk146 .d), 14957, (.bl true), 15, (.n (.n gfk161 .d) (.n (.n (.n (.n gfk166 .d) .d) .d) .d)), 16925⟩
theorem gfb4 : segB Tryz.prog Sb [] gfe4 = true := by decide +kernel
theorem gfs4 : EntOK Tryz.prog gfe4 := seg_ok P_mixed P_noNum Sb_ok EL.nil gfb4
def gfk167 : Nat := 0x7002100e7000100c10026009b0026008500160067001e0048001f002100270002450100000080000000000000000180000000000000008000000000000000800000000000000002450000000080000000000000000080000000000000008000000000000000024401000001800000000000000080000000000000008000000000000000024400000000800000000000000080000000000000001b4100c0140000000000000080000000000000008000000000000005000080000000000000011b4100c00800000000000000800000000000000180000000000000030000800000000000000101
def gfk168 : AV := (.agg [(.int 3 1), (.str 232 gfk167), (.int 3 0), (.bl true), (.bl true)])
def gfk169 : Nat := 0x200d600e7000100d600110000000000000000000000000000000000000000000000000000000000000000000000000000000000000000000000000000000000000000000000000000000000000000000000000000000000000000000000000000000000000000000000000000000000000000000000000000000000000000000000000000000000000000000000000000000000000000000000000000000000000000000000000000000000000000000000000000000000000000000000000000000000000000000000000000000000000000000006480073656e740000800000000000000201
def gfk170 : AV := (.agg [(.int 3 2), (.str 232 gfk169), (.int 3 0), (.bl true), (.bl true)])
def gfk171 : RT AV := (.n 4 (.n 2 (.n 1 (.l gfk63) (.l gfk168)) (.n 1 (.l gfk170) (.l gfk24))) (.n 2 (.n 1 (.l gfk24) (.l gfk25)) (.mk gfk25 1)))
def gfk172 : PT := (.n (.n .d (.l (.row 5 5 gfk171))) (.n (.l (.row 1 1 (.l (.agg [(.ptr 6046 0)])))) .d))
def gfk173 : PT := (.n (.n .d (.n .d (.n .d (.n .d (.n (.l gfk87) .d))))) (.n (.n .d (.n .d gfk172)) .d))
def gfk174 : PT := (.n .d (.n .d (.n (.n .d (.n .d gfk69)) (.n .d (.n gfk173 .d)))))
def gfk175 : PT := (.n (.n .d (.n (.n (.n gfk93 .d) .d) .d)) (.n gfk158 (.n .d gfk108)))
def gfk176 : PT := (.n (.n (.n (.n gfk175 .d) .d) gfk116) (.n (.n (.n .d gfk118) .d) .d))
def gfk177 : PT := (.n (.n (.n (.n gfk80 .d) (.n (.n .d (.n .d gfk44)) .d)) .d) (.n gfk174 gfk176))
def gfe5 : Ent := ⟨80, [(.ptr 6209 0), (.agg [(.int 3 0), (.int 3 0), (.bl false)])], 15, (.n (.n gfk161 .d) (.n (.n (.n (.n gfk166 .d) .d) .d) .d)), 16925, (.bl true), 15, (.n (.n gfk177 .d) .d), 19095⟩
theorem gfb5 : segB Tryz.prog Sb [] gfe5 = true := by decide +kernel
theorem gfs5 : EntOK Tryz.prog gfe5 := seg_ok P_mixed P_noNum Sb_ok EL.nil gfb5
def gfk178 : PT := (.n (.n .d (.n (.n (.n gfk93 .d) .d) .d)) (.n .d (.n .d gfk108)))
def gfk179 : PT := (.n (.n (.n (.n gfk178 .d) .d) gfk116) (.n (.n (.n .d gfk118) .d) .d))
def gfk180 : PT := (.n (.n (.n (.n gfk80 .d) (.n (.n .d (.n .d gfk44)) .d)) .d) (.n gfk174 gfk179))
def gfk181 : PT := (.n .d (.n .d (.n .d (.n .d (.n (.n (.n (.n .d gfk90) .d) .d) .d)))))
def gfe6 : Ent := ⟨32, [(.ptr 6178 0), (.sf 7414 0 2 1)], 15, (.n (.n gfk180 .d) .d), 19095, (.tup [(.sf 20247 0 1 1), (.int 3 0), (.int 3 0)]), 15, (.n (.n gfk81 .d) (.n (.n gfk181 .d) .d)), 21037⟩
theorem gfb6 : segB Tryz.prog Sb [] gfe6 = true := by decide +kernel
theorem gfs6 : EntOK Tryz.prog gfe6 := seg_ok P_mixed P_noNum Sb_ok EL.nil gfb6
def gfe7 : Ent := ⟨30, [], 13, gfk81, 5916, (.bl true), 15, (.n (.n gfk81 .d) .d), 21037⟩
theorem gfb7 : segB Tryz.prog Sb [gfe3, gfe4, gfe5, gfe6] gfe7 = true := by decide +kernel
theorem gfs7 : EntOK Tryz.prog gfe7 := seg_ok P_mixed P_noNum Sb_ok (EL.cons gfs3 (EL.cons gfs4 (EL.cons gfs5 (EL.cons gfs6 EL.nil)))) gfb7
def gfe8 : Ent := ⟨5, [(.bl false)], 4, .d, 0, (.bl true), 15, .d, 22382⟩
theorem gfb8 : segB Tryz.prog Sb [gfe1, gfe7] gfe8 = true := by decide +kernel
theorem gfs8 : EntOK Tryz.prog gfe8 := seg_ok P_mixed P_noNum Sb_ok (EL.cons gfs1 (EL.cons gfs7 EL.nil)) gfb8
theorem gftop : EntOK Tryz.prog gfe8 := gfs8
end Kv
end
end
end Go.Proofs.YtfkoaooceickiaaGreat
