/- Parts of the proof: Lla. -/
import Derived.Test.YtfkoaooceickiaaGreatH17
set_option linter.all false
set_option maxRecDepth 100000
namespace Go.Proofs.YtfkoaooceickiaaGreat
section
set_option maxRecDepth 1000000
noncomputable section
namespace Kv
def lak0 : Nat := 0x80000000000000015c3d2b6800000000000000000000000000000000000000000000000000000000000000000000000000000000000000008000000000000001
def lak1 : Nat := 0xeb9bbe7d8000000000000000800000000000000200000002000100e700e700010000000000000000000000000000000000000000000000000000000000000000
def lak2 : RT AV := (.n 2 (.n 1 (.l (.ba 64 lak0)) (.l (.ba 64 0))) (.n 1 (.l (.ba 64 lak1)) (.l (.ba 64 0))))
def lak3 : Nat := 0x1231cb3f80000000000000018000000000000002000000020000003b19bff0000000000000018000000000000005800000000000000580000000000000010180
def lak4 : Nat := 0x7800000000000000080000000000000000000000000000000000000000000000000000000000000000000000000000000000000000000000000
def lak5 : RT AV := (.n 2 (.n 1 (.l (.ba 64 0)) (.l (.ba 64 1))) (.n 1 (.l (.ba 64 lak3)) (.l (.ba 64 lak4))))
def lak6 : RT AV := (.n 16 (.n 8 (.n 4 lak2 lak5) (.mk (.ba 64 0) 3)) (.mk (.ba 64 0) 4))
def lak7 : RT AV := (.n 128 (.n 64 (.n 32 lak6 (.mk (.ba 64 0) 5)) (.mk (.ba 64 0) 6)) (.mk (.ba 64 0) 7))
def lak8 : RT AV := (.n 1024 (.n 512 (.n 256 lak7 (.mk (.ba 64 0) 8)) (.mk (.ba 64 0) 9)) (.mk (.ba 64 0) 10))
def lak9 : RT AV := (.n 4 (.n 2 (.mk (.bl false) 1) (.mk (.bl true) 1)) (.mk (.bl true) 2))
def lak10 : RT AV := (.n 4 (.n 2 (.mk (.bl true) 1) (.mk (.bl false) 1)) (.mk (.bl false) 2))
def lak11 : RT AV := (.n 32 (.n 16 (.n 8 lak9 lak10) (.mk (.bl false) 4)) (.mk (.bl false) 5))
def lak12 : RT AV := (.n 128 (.n 64 lak11 (.mk (.bl false) 6)) (.mk (.bl false) 7))
def lak13 : RT AV := (.n 512 (.n 256 lak12 (.mk (.bl false) 8)) (.mk (.bl false) 9))
def lak14 : PT := (.n .d (.l (.row 1 1202 (.n 1024 lak13 (.mk (.bl false) 10)))))
def lak15 : AV := (.agg [(.sl 7 0 1202 1202), (.sl 8 0 1202 1202), (.sl 9 0 1202 1202), (.int 3 0), (.int 3 11), (.bl false)])
def lak16 : AV := (.agg [(.ptr 10 0), (.ptr 13 0), (.sf 2704 0 2 1), .nils, .nils, (.int 3 1), (.int 3 0), (.bl false)])
def lak17 : PT := (.n lak14 (.n (.l (.row 6 1 (.l lak15))) (.l (.row 8 1 (.l lak16)))))
def lak18 : RT AV := (.n 4 (.n 2 (.mk (.int 3 2) 1) (.mk (.int 3 0) 1)) (.mk (.int 3 0) 2))
def lak19 : RT AV := (.n 32 (.n 16 (.n 8 lak18 (.mk (.int 3 0) 3)) (.mk (.int 3 0) 4)) (.mk (.int 3 0) 5))
def lak20 : RT AV := (.n 256 (.n 128 (.n 64 lak19 (.mk (.int 3 0) 6)) (.mk (.int 3 0) 7)) (.mk (.int 3 0) 8))
def lak21 : PT := (.n (.l (.row 1 300 lak20)) (.l (.row 1 1 (.l (.agg [(.sl 12 0 300 300)])))))
def lak22 : PT := (.n (.n .d (.n .d (.n .d (.l (.row 64 1202 lak8))))) (.n lak17 (.n lak21 .d)))
def lak23 : Blk := (.row 3 1 (.l (.agg [(.ptr 11 0), (.sf 143 0 5 5), (.int 3 0)])))
def lak24 : Nat := 0x5007800e7000100c10026009b0026007d001e0078000500000000000000000000000000000000000000000000000000000000000000000000000000000000000000000000000000000000000000000000000000000000000000000000000000000000000000000000000000000000000000000000000002450000020244000000018000000000000001800000000000000080000000000000001b4100c0080000000000000180000000000000078000000000000007000080000000000000011b4100bff000000000000001800000000000000580000000000000050000800000000000000101
def lak25 : AV := (.agg [(.int 3 0), (.str 232 lak24), (.int 3 0), (.bl true), (.bl true)])
def lak26 : AV := (.agg [(.int 3 0xffffffffffffffff), (.str 0 0), (.int 3 0), (.bl false), (.bl false)])
def lak27 : AV := (.agg [(.int 3 0), (.str 0 0), (.int 3 0), (.bl false), (.bl false)])
def lak28 : RT AV := (.n 4 (.n 2 (.n 1 (.l lak25) (.l lak26)) (.mk lak26 1)) (.n 2 (.n 1 (.l lak26) (.l lak27)) (.mk lak27 1)))
def lak29 : PT := (.n (.n (.n (.n (.l lak23) .d) .d) .d) (.n .d (.n .d (.n .d (.l (.row 5 5 lak28))))))
def lak30 : PT := (.n (.n (.n (.l (.row 1 1 (.l (.agg [(.ptr 128 0)])))) .d) .d) .d)
def lak31 : PT := (.n (.n (.n (.n lak22 .d) .d) .d) (.n (.n (.n lak29 (.n lak30 .d)) .d) .d))
def lak32 : Blk := (.row 3 1 (.l (.agg [(.ptr 144 0), (.ptr 128 0), (.bl true)])))
def lak33 : RT AV := (.n 1 (.l (.agg [(.int 3 13), (.int 3 4), (.int 3 5), (.int 3 0)])) (.l (.agg [(.int 3 3), (.int 3 4), (.int 3 4), (.int 3 4)])))
def lak34 : RT AV := (.n 1 (.l (.agg [(.int 3 3), (.int 3 4), (.int 3 4), (.int 3 0)])) (.l (.agg [(.int 3 14), (.int 3 5), (.int 3 4), (.int 3 0)])))
def lak35 : PT := (.n (.l (.row 1 1 (.l (.fl 0x3fe0000000000000)))) (.l (.row 4 4 (.n 2 lak33 lak34))))
def lak36 : Blk := (.row 2 1 (.l (.agg [(.int 3 0), (.sf 293 0 1 1)])))
def lak37 : PT := (.n (.n lak35 (.n .d (.l (.row 1 1 (.l (.sf 289 0 4 4)))))) (.n .d (.n .d (.l lak36))))
def lak38 : AV := (.agg [(.ptr 259 0), (.int 3 0), (.fl 0x4024000000000000), (.sf 288 0 1 1), (.sf 291 0 1 1), (.sf 295 0 1 2), .nils, (.int 3 0), (.ptr 297 0), (.ptr 298 0)])
def lak39 : PT := (.n (.l (.row 10 1 (.l lak38))) (.l (.row 2 1 (.l (.agg [(.ptr 259 0), (.int 3 0)])))))
def lak40 : PT := (.n (.l (.row 2 1 (.l (.agg [(.ptr 259 0), (.int 3 0)])))) .d)
def lak41 : PT := (.n (.n (.n (.n (.n .d (.n .d (.l lak32))) .d) .d) .d) (.n (.n lak37 (.n (.n lak39 lak40) .d)) .d))
def lak42 : PT := (.n (.l (.row 1 2 (.n 1 (.l (.int 3 0)) (.l (.int 3 1))))) .d)
def lak43 : Nat := 0xbff00000000000000180000000000000058000000000000005
def lak44 : AV := (.agg [(.fl 0x3ff0000000000000), (.int 3 0), (.int 3 5), (.int 3 0), (.int 3 5), (.str 25 lak43), .nils, (.int 3 0)])
def lak45 : PT := (.n (.n .d (.n .d (.n .d (.n .d (.l (.row 8 1 (.l lak44))))))) .d)
def lak46 : PT := (.n (.n .d (.n (.n (.n .d (.n (.n (.n lak42 .d) .d) .d)) .d) .d)) (.n .d (.n (.n lak45 .d) .d)))
def lak47 : PT := (.n (.n (.n (.n lak31 (.n (.n lak41 .d) .d)) .d) .d) (.n (.n .d lak46) .d))
def lak48 : Nat := 0xc0080000000000000180000000000000078000000000000007
def lak49 : AV := (.agg [(.fl 0x4008000000000000), (.int 3 0), (.int 3 7), (.int 3 0), (.int 3 7), (.str 25 lak48), .nils, (.int 3 0)])
def lak50 : Nat := 0x8f3d034280000000000000018000000000000002000000020000003b19c008000000000000018000000000000007800000000000000780000000000000020180
def lak51 : Nat := 0x15800000000000000080000000000000000000000000000000000000000000000000000000000000000000000000000000000000000000000000
def lak52 : RT AV := (.n 2 (.n 1 (.l (.ba 64 0)) (.l (.ba 64 1))) (.n 1 (.l (.ba 64 lak50)) (.l (.ba 64 lak51))))
def lak53 : RT AV := (.n 16 (.n 8 (.n 4 lak2 lak52) (.mk (.ba 64 0) 3)) (.mk (.ba 64 0) 4))
def lak54 : RT AV := (.n 128 (.n 64 (.n 32 lak53 (.mk (.ba 64 0) 5)) (.mk (.ba 64 0) 6)) (.mk (.ba 64 0) 7))
def lak55 : RT AV := (.n 1024 (.n 512 (.n 256 lak54 (.mk (.ba 64 0) 8)) (.mk (.ba 64 0) 9)) (.mk (.ba 64 0) 10))
def lak56 : AV := (.agg [(.sl 7 0 1202 1202), (.sl 8 0 1202 1202), (.sl 9 0 1202 1202), (.int 3 0), (.int 3 15), (.bl false)])
def lak57 : PT := (.n lak14 (.n (.l (.row 6 1 (.l lak56))) (.l (.row 8 1 (.l lak16)))))
def lak58 : PT := (.n (.n .d (.n .d (.n .d (.l (.row 64 1202 lak55))))) (.n lak57 (.n lak21 .d)))
def lak59 : PT := (.n (.n (.n (.n lak58 .d) .d) .d) (.n (.n (.n lak29 (.n lak30 .d)) .d) .d))
def lak60 : PT := (.n (.n .d (.n .d (.n .d (.n .d (.l (.row 8 1 (.l lak44))))))) (.n (.n (.n (.n (.l (.row 8 1 (.l lak49))) .d) .d) .d) .d))
def lak61 : PT := (.n (.n .d (.n (.n (.n .d (.n (.n (.n lak42 .d) .d) .d)) .d) .d)) (.n .d (.n (.n lak60 .d) .d)))
def lak62 : PT := (.n (.n (.n (.n lak59 (.n (.n lak41 .d) .d)) .d) .d) (.n (.n .d lak61) .d))
def lae0 : Ent := ⟨12, [(.ptr 296 0)], 12, lak47, 2960, (.tup [lak49, (.int 3 0)]), 13, (.n lak62 .d), 4334⟩
theorem lab0 : segB Tryz.prog Sb [] lae0 = true := by decide +kernel
theorem las0 : EntOK Tryz.prog lae0 := seg_ok P_mixed P_noNum Sb_ok EL.nil lab0
def lak63 : Nat := 0xc0000000000000000180000000000000068000000000000006
def lak64 : Nat := 0x6005200e7000100c10026009b0026007500260057001e0052000500000000000000000000000000000000000000000000000000000000000000000000000000000000000000000000000000000000000002450000020244000000018000000000000001800000000000000080000000000000001b4100c0080000000000000180000000000000078000000000000007000080000000000000011b4100c0000000000000000180000000000000068000000000000006000080000000000000011b4100bff000000000000001800000000000000580000000000000050000800000000000000101
def lak65 : AV := (.agg [(.int 3 0), (.str 232 lak64), (.int 3 0), (.bl true), (.bl true)])
def lak66 : RT AV := (.n 4 (.n 2 (.n 1 (.l lak65) (.l lak26)) (.mk lak26 1)) (.n 2 (.n 1 (.l lak26) (.l lak27)) (.mk lak27 1)))
def lak67 : PT := (.n (.n (.n (.n (.l lak23) .d) .d) .d) (.n .d (.n .d (.n .d (.l (.row 5 5 lak66))))))
def lak68 : PT := (.n (.n (.n (.n lak58 .d) .d) .d) (.n (.n (.n lak67 (.n lak30 .d)) .d) .d))
def lak69 : PT := (.n (.n (.n (.n lak68 (.n (.n lak41 .d) .d)) .d) .d) (.n (.n .d lak46) .d))
def lak70 : PT := (.n (.n .d (.n .d (.n .d (.n (.l (.row 8 1 (.l lak49))) .d)))) .d)
def lak71 : PT := (.n lak69 (.n (.n (.n (.n (.n .d (.n .d (.n .d lak70))) .d) .d) .d) .d))
def lak72 : Nat := 0xdfd41a5180000000000000018000000000000002000000020000003b19bff0000000000000018000000000000005800000000000000580000000000000000180
def lak73 : RT AV := (.n 2 (.n 1 (.l (.ba 64 0)) (.l (.ba 64 1))) (.n 1 (.l (.ba 64 lak72)) (.l (.ba 64 lak4))))
def lak74 : RT AV := (.n 16 (.n 8 (.n 4 lak2 lak73) (.mk (.ba 64 0) 3)) (.mk (.ba 64 0) 4))
def lak75 : RT AV := (.n 128 (.n 64 (.n 32 lak74 (.mk (.ba 64 0) 5)) (.mk (.ba 64 0) 6)) (.mk (.ba 64 0) 7))
def lak76 : RT AV := (.n 1024 (.n 512 (.n 256 lak75 (.mk (.ba 64 0) 8)) (.mk (.ba 64 0) 9)) (.mk (.ba 64 0) 10))
def lak77 : AV := (.agg [(.sl 7 0 1202 1202), (.sl 8 0 1202 1202), (.sl 9 0 1202 1202), (.int 3 0), (.int 3 19), (.bl false)])
def lak78 : PT := (.n lak14 (.n (.l (.row 6 1 (.l lak77))) (.l (.row 8 1 (.l lak16)))))
def lak79 : PT := (.n (.n .d (.n .d (.n .d (.l (.row 64 1202 lak76))))) (.n lak78 (.n lak21 .d)))
def lak80 : PT := (.n (.n (.n (.n lak79 .d) .d) .d) (.n (.n (.n lak67 (.n lak30 .d)) .d) .d))
def lak81 : PT := (.n (.n (.n (.n (.n .d (.n .d (.l lak32))) .d) .d) .d) (.n (.n lak37 (.n (.n lak39 .d) .d)) .d))
def lak82 : PT := (.n (.n (.n (.n lak80 (.n (.n lak81 .d) .d)) .d) .d) (.n (.n .d lak46) .d))
def lak83 : PT := (.n lak82 (.n (.n (.n (.n (.n .d (.n .d (.n .d lak70))) .d) .d) .d) .d))
def lae1 : Ent := ⟨17, [(.ptr 296 0), (.str 25 lak63)], 13, lak71, 5157, (.int 3 0), 13, lak83, 7194⟩
theorem lab1 : segB Tryz.prog Sb [] lae1 = true := by decide +kernel
theorem las1 : EntOK Tryz.prog lae1 := seg_ok P_mixed P_noNum Sb_ok EL.nil lab1
def lak84 : Nat := 0x3b19bff0000000000000018000000000000005800000000000000580000000000000000180000000000000078000000000000000800000000000000000000000000000000000000000000000000000000000000000000000000000000000000000000000000000000000000000000000000000000000000000000000000000000000000000000000000000000000000000000000000000000000000000000000000000000000000000000000000000000000000000000000000000000000000000000000000000000000000000000000000000000000000000000000000000000000000000
def lak85 : AV := (.agg [(.int 3 1), (.str 232 lak84), (.int 3 0), (.bl false), (.bl true)])
def lak86 : RT AV := (.n 4 (.n 2 (.n 1 (.l lak65) (.l lak85)) (.mk lak26 1)) (.n 2 (.n 1 (.l lak26) (.l lak27)) (.mk lak27 1)))
def lak87 : PT := (.n (.n (.n (.n (.l lak23) .d) .d) .d) (.n .d (.n .d (.n .d (.l (.row 5 5 lak86))))))
def lak88 : PT := (.n (.n (.n (.n lak79 .d) .d) .d) (.n (.n (.n lak87 (.n lak30 .d)) .d) .d))
def lak89 : PT := (.n (.n (.n (.n lak88 (.n (.n lak81 .d) .d)) .d) .d) (.n (.n .d lak46) .d))
def lak90 : AV := (.agg [(.str 25 lak43), (.int 3 0), (.sf 7387 0 1 1), (.int 3 0), (.int 3 0)])
def lak91 : PT := (.n (.n .d (.n .d (.l (.row 1 1 (.l (.int 3 7)))))) (.n (.n .d (.l (.row 5 1 (.l lak90)))) .d))
def lak92 : PT := (.n .d (.n (.n (.n .d (.n .d (.n (.n .d (.n .d lak91)) .d))) .d) .d))
def lak93 : PT := (.n (.n (.n (.n (.n .d (.n .d (.n .d lak70))) .d) .d) .d) lak92)
def lak94 : AV := (.agg [(.fl 0x4000000000000000), (.int 3 0), (.int 3 6), (.int 3 0), (.int 3 6), (.str 25 lak63), .nils, (.int 3 0)])
def lak95 : Nat := 0x23ee574280000000000000018000000000000002000000020000003b19c000000000000000018000000000000006800000000000000680000000000000010180
def lak96 : Nat := 0x14800000000000000080000000000000000000000000000000000000000000000000000000000000000000000000000000000000000000000000
def lak97 : RT AV := (.n 2 (.n 1 (.l (.ba 64 0)) (.l (.ba 64 1))) (.n 1 (.l (.ba 64 lak95)) (.l (.ba 64 lak96))))
def lak98 : RT AV := (.n 16 (.n 8 (.n 4 lak2 lak97) (.mk (.ba 64 0) 3)) (.mk (.ba 64 0) 4))
def lak99 : RT AV := (.n 128 (.n 64 (.n 32 lak98 (.mk (.ba 64 0) 5)) (.mk (.ba 64 0) 6)) (.mk (.ba 64 0) 7))
def lak100 : RT AV := (.n 1024 (.n 512 (.n 256 lak99 (.mk (.ba 64 0) 8)) (.mk (.ba 64 0) 9)) (.mk (.ba 64 0) 10))
def lak101 : AV := (.agg [(.sl 7 0 1202 1202), (.sl 8 0 1202 1202), (.sl 9 0 1202 1202), (.int 3 0), (.int 3 23), (.bl false)])
def lak102 : PT := (.n .d (.n (.l (.row 6 1 (.l lak101))) (.l (.row 8 1 (.l lak16)))))
def lak103 : PT := (.n (.n .d (.n .d (.n .d (.l (.row 64 1202 lak100))))) (.n lak102 .d))
def lak104 : PT := (.n (.n (.n (.n lak103 .d) .d) .d) (.n (.n (.n lak67 (.n lak30 .d)) .d) .d))
def lak105 : PT := (.n (.n .d (.n (.n (.n (.l (.row 10 1 (.l lak38))) .d) .d) .d)) .d)
def lak106 : PT := (.n (.n (.n (.n (.n (.n .d (.n .d (.l lak32))) .d) .d) .d) lak105) .d)
def lak107 : PT := (.n (.n (.n (.n lak104 (.n lak106 .d)) .d) .d) (.n (.n .d lak46) .d))
def lak108 : PT := (.n (.n .d (.l (.row 5 1 (.l lak90)))) (.n (.l (.row 8 1 (.l lak94))) .d))
def lak109 : PT := (.n .d (.n (.n .d (.n .d (.l (.row 1 1 (.l (.int 3 7)))))) lak108))
def lak110 : PT := (.n .d (.n (.n (.n .d (.n .d (.n (.n .d lak109) .d))) .d) .d))
def lak111 : PT := (.n (.n (.n (.n (.n .d (.n .d (.n .d lak70))) .d) .d) .d) lak110)
def lae2 : Ent := ⟨12, [(.ptr 296 0)], 13, (.n lak89 lak93), 7390, (.tup [lak94, (.int 3 0)]), 14, (.n (.n lak107 lak111) .d), 8975⟩
theorem lab2 : segB Tryz.prog Sb [] lae2 = true := by decide +kernel
theorem las2 : EntOK Tryz.prog lae2 := seg_ok P_mixed P_noNum Sb_ok EL.nil lab2
def lae3 : Ent := ⟨9, [], 4, .d, 0, (.bl true), 14, .d, 9172⟩
theorem lab3 : segB Tryz.prog Sb [lae0, lae1, lae2] lae3 = true := by decide +kernel
theorem las3 : EntOK Tryz.prog lae3 := seg_ok P_mixed P_noNum Sb_ok (EL.cons las0 (EL.cons las1 (EL.cons las2 EL.nil))) lab3
theorem latop : EntOK Tryz.prog lae3 := las3
end Kv
end
end
end Go.Proofs.YtfkoaooceickiaaGreat
